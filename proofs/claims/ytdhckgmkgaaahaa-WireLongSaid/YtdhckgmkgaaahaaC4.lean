/- Words and lemmas, part 4, for laws of this seat (a part of their proofs). -/
import Derived.Test.YtdhckgmkgaaahaaC3
set_option linter.unusedVariables false
set_option linter.unusedSimpArgs false
namespace Go.Ev.W
open Go.Ev Go.Ev.N

set_option maxRecDepth 20000 in
set_option maxHeartbeats 8000000 in
theorem op_told {c : Cf} (hc : c.Ok) {l : List Bk} (ha : ApB c.H l) (p : Pk) (ok : p.Ok) : ∃ (o : X.O) (p' : Pk), Told P T mk_Picks_Op [pkB p] [.ptr 0 0 0, eC c, lK l] (X.encO o) [pkB p'] ∧ p'.Ok ∧ OpG c o := by
  have hH := hc.h2
  have k1 := ok.next 20
  have b1 := p.num_lt (m := 20) (by omega)
  have t1 := num_told p ok 20 (by omega)
  generalize p.next 20 = p1 at *
  generalize p.num 20 = x at *
  rcases (by omega : x < 6 ∨ x = 6 ∨ x = 7 ∨ (8 ≤ x ∧ x < 11) ∨ (11 ≤ x ∧ x < 14) ∨ x = 14 ∨ (15 ≤ x ∧ x < 17) ∨ x = 17 ∨ x = 18 ∨ x = 19) with h | h | h | h | h | h | h | h | h | h
  · obtain ⟨v, p2, t2, k2, b2⟩ := size_told hc p1 k1
    refine ⟨⟨1, 0, v, 0, 0, 0⟩, p2, ?_, k2, ⟨by simp, by simp, b2, by simp, by simp, by simp, by simp, by simp, by simp, by simp, by simp⟩⟩
    refine told_of_ev (fn := mk_Picks_Op_fn) tabOk mixed (by kernel_rfl) (by kernel_rfl) (by kernel_rfl) (by kernel_rfl) ?_
    ((repeat ((conv => whnf); first | (refine Sure.mk (by kernel_rfl) ?_) | (refine IfB.tt rfl ?_) | (refine IfB.ff rfl ?_) | (refine IfB.tt ?_ ?_; (focus (simp <;> fail))) | (refine IfB.ff ?_ ?_; (focus (simp <;> fail))) | (refine fits (wrap64 ?_ ?_) ?_; (focus omega); (focus omega)) | (refine fits (wrapU64 ?_ ?_) ?_; (focus omega); (focus omega)) | (refine Need.mk ?_ ?_; (focus omega)) | (refine InB.mk ?_ ?_ ?_; (focus omega); (focus omega)))); (try (conv => whnf)); refine Choice.mk ⟨true, Choice.mk ⟨false, _, _, t1, ?_⟩⟩)
    ((repeat ((conv => whnf); first | (refine Sure.mk (by kernel_rfl) ?_) | (refine IfB.tt rfl ?_) | (refine IfB.ff rfl ?_) | (refine IfB.tt ?_ ?_; (focus (simp <;> fail))) | (refine IfB.ff ?_ ?_; (focus (simp <;> fail))) | (refine fits (wrap64 ?_ ?_) ?_; (focus omega); (focus omega)) | (refine fits (wrapU64 ?_ ?_) ?_; (focus omega); (focus omega)) | (refine Need.mk ?_ ?_; (focus omega)) | (refine InB.mk ?_ ?_ ?_; (focus omega); (focus omega)))); (try (conv => whnf)); refine IfB.tt (by simp; omega) ?_)
    ((repeat ((conv => whnf); first | (refine Sure.mk (by kernel_rfl) ?_) | (refine IfB.tt rfl ?_) | (refine IfB.ff rfl ?_) | (refine IfB.tt ?_ ?_; (focus (simp <;> fail))) | (refine IfB.ff ?_ ?_; (focus (simp <;> fail))) | (refine fits (wrap64 ?_ ?_) ?_; (focus omega); (focus omega)) | (refine fits (wrapU64 ?_ ?_) ?_; (focus omega); (focus omega)) | (refine Need.mk ?_ ?_; (focus omega)) | (refine InB.mk ?_ ?_ ?_; (focus omega); (focus omega)))); (try (conv => whnf)); refine Choice.mk ⟨true, Choice.mk ⟨false, _, _, t2, ?_⟩⟩)
    ((repeat ((conv => whnf); first | (refine Sure.mk (by kernel_rfl) ?_) | (refine IfB.tt rfl ?_) | (refine IfB.ff rfl ?_) | (refine IfB.tt ?_ ?_; (focus (simp <;> fail))) | (refine IfB.ff ?_ ?_; (focus (simp <;> fail))) | (refine fits (wrap64 ?_ ?_) ?_; (focus omega); (focus omega)) | (refine fits (wrapU64 ?_ ?_) ?_; (focus omega); (focus omega)) | (refine Need.mk ?_ ?_; (focus omega)) | (refine InB.mk ?_ ?_ ?_; (focus omega); (focus omega)))); (try (conv => whnf)); exact RetN.mk ⟨[], rfl, rfl, rfl⟩)
  · obtain ⟨v, p2, t2, k2, b2⟩ := size_told hc (p1.next 4) (k1.next 4)
    have t3 := num_told p1 k1 4 (by omega)
    have b3 := p1.num_lt (m := 4) (by omega)
    subst h
    refine ⟨⟨2, 0, v, 0, (p1.num 4 : Nat), 0⟩, p2, ?_, k2, ⟨by simp, by simp, b2, by simp, by simp only; omega, by simp, by simp, by simp, by simp, by simp, by simp⟩⟩
    refine told_of_ev (fn := mk_Picks_Op_fn) tabOk mixed (by kernel_rfl) (by kernel_rfl) (by kernel_rfl) (by kernel_rfl) ?_
    ((repeat ((conv => whnf); first | (refine Sure.mk (by kernel_rfl) ?_) | (refine IfB.tt rfl ?_) | (refine IfB.ff rfl ?_) | (refine IfB.tt ?_ ?_; (focus (simp <;> fail))) | (refine IfB.ff ?_ ?_; (focus (simp <;> fail))) | (refine fits (wrap64 ?_ ?_) ?_; (focus omega); (focus omega)) | (refine fits (wrapU64 ?_ ?_) ?_; (focus omega); (focus omega)) | (refine Need.mk ?_ ?_; (focus omega)) | (refine InB.mk ?_ ?_ ?_; (focus omega); (focus omega)))); (try (conv => whnf)); refine Choice.mk ⟨true, Choice.mk ⟨false, _, _, t1, ?_⟩⟩)
    ((repeat ((conv => whnf); first | (refine Sure.mk (by kernel_rfl) ?_) | (refine IfB.tt rfl ?_) | (refine IfB.ff rfl ?_) | (refine IfB.tt ?_ ?_; (focus (simp <;> fail))) | (refine IfB.ff ?_ ?_; (focus (simp <;> fail))) | (refine fits (wrap64 ?_ ?_) ?_; (focus omega); (focus omega)) | (refine fits (wrapU64 ?_ ?_) ?_; (focus omega); (focus omega)) | (refine Need.mk ?_ ?_; (focus omega)) | (refine InB.mk ?_ ?_ ?_; (focus omega); (focus omega)))); (try (conv => whnf)); refine Choice.mk ⟨true, Choice.mk ⟨false, _, _, t3, ?_⟩⟩)
    ((repeat ((conv => whnf); first | (refine Sure.mk (by kernel_rfl) ?_) | (refine IfB.tt rfl ?_) | (refine IfB.ff rfl ?_) | (refine IfB.tt ?_ ?_; (focus (simp <;> fail))) | (refine IfB.ff ?_ ?_; (focus (simp <;> fail))) | (refine fits (wrap64 ?_ ?_) ?_; (focus omega); (focus omega)) | (refine fits (wrapU64 ?_ ?_) ?_; (focus omega); (focus omega)) | (refine Need.mk ?_ ?_; (focus omega)) | (refine InB.mk ?_ ?_ ?_; (focus omega); (focus omega)))); (try (conv => whnf)); refine Choice.mk ⟨true, Choice.mk ⟨false, _, _, t2, ?_⟩⟩)
    ((repeat ((conv => whnf); first | (refine Sure.mk (by kernel_rfl) ?_) | (refine IfB.tt rfl ?_) | (refine IfB.ff rfl ?_) | (refine IfB.tt ?_ ?_; (focus (simp <;> fail))) | (refine IfB.ff ?_ ?_; (focus (simp <;> fail))) | (refine fits (wrap64 ?_ ?_) ?_; (focus omega); (focus omega)) | (refine fits (wrapU64 ?_ ?_) ?_; (focus omega); (focus omega)) | (refine Need.mk ?_ ?_; (focus omega)) | (refine InB.mk ?_ ?_ ?_; (focus omega); (focus omega)))); (try (conv => whnf)); exact RetN.mk ⟨[], rfl, rfl, rfl⟩)
  · obtain ⟨v, p2, t2, k2, b2⟩ := size_told hc p1 k1
    have t3 := num_told p2 k2 7 (by omega)
    have b3 := p2.num_lt (m := 7) (by omega)
    subst h
    obtain ⟨j, hj⟩ : ∃ j, p2.num 7 = j := ⟨_, rfl⟩
    rw [hj] at t3 b3
    rcases (by omega : j = 0 ∨ j = 1 ∨ j = 2 ∨ j = 3 ∨ j = 4 ∨ j = 5 ∨ j = 6) with h | h | h | h | h | h | h
    · subst h
      refine ⟨⟨3, 0, v, 1, 0, 0⟩, p2.next 7, ?_, k2.next 7, ⟨by simp, by simp, b2, by simp, by simp, by simp, by simp, by simp, by simp, by simp, by simp⟩⟩
      refine told_of_ev (fn := mk_Picks_Op_fn) tabOk mixed (by kernel_rfl) (by kernel_rfl) (by kernel_rfl) (by kernel_rfl) ?_
      ((repeat ((conv => whnf); first | (refine Sure.mk (by kernel_rfl) ?_) | (refine IfB.tt rfl ?_) | (refine IfB.ff rfl ?_) | (refine IfB.tt ?_ ?_; (focus (simp <;> fail))) | (refine IfB.ff ?_ ?_; (focus (simp <;> fail))) | (refine fits (wrap64 ?_ ?_) ?_; (focus omega); (focus omega)) | (refine fits (wrapU64 ?_ ?_) ?_; (focus omega); (focus omega)) | (refine Need.mk ?_ ?_; (focus omega)) | (refine InB.mk ?_ ?_ ?_; (focus omega); (focus omega)))); (try (conv => whnf)); refine Choice.mk ⟨true, Choice.mk ⟨false, _, _, t1, ?_⟩⟩)
      ((repeat ((conv => whnf); first | (refine Sure.mk (by kernel_rfl) ?_) | (refine IfB.tt rfl ?_) | (refine IfB.ff rfl ?_) | (refine IfB.tt ?_ ?_; (focus (simp <;> fail))) | (refine IfB.ff ?_ ?_; (focus (simp <;> fail))) | (refine fits (wrap64 ?_ ?_) ?_; (focus omega); (focus omega)) | (refine fits (wrapU64 ?_ ?_) ?_; (focus omega); (focus omega)) | (refine Need.mk ?_ ?_; (focus omega)) | (refine InB.mk ?_ ?_ ?_; (focus omega); (focus omega)))); (try (conv => whnf)); refine Choice.mk ⟨true, Choice.mk ⟨false, _, _, t2, ?_⟩⟩)
      ((repeat ((conv => whnf); first | (refine Sure.mk (by kernel_rfl) ?_) | (refine IfB.tt rfl ?_) | (refine IfB.ff rfl ?_) | (refine IfB.tt ?_ ?_; (focus (simp <;> fail))) | (refine IfB.ff ?_ ?_; (focus (simp <;> fail))) | (refine fits (wrap64 ?_ ?_) ?_; (focus omega); (focus omega)) | (refine fits (wrapU64 ?_ ?_) ?_; (focus omega); (focus omega)) | (refine Need.mk ?_ ?_; (focus omega)) | (refine InB.mk ?_ ?_ ?_; (focus omega); (focus omega)))); (try (conv => whnf)); refine Choice.mk ⟨true, Choice.mk ⟨false, _, _, t3, ?_⟩⟩)
      ((repeat ((conv => whnf); first | (refine Sure.mk (by kernel_rfl) ?_) | (refine IfB.tt rfl ?_) | (refine IfB.ff rfl ?_) | (refine IfB.tt ?_ ?_; (focus (simp <;> fail))) | (refine IfB.ff ?_ ?_; (focus (simp <;> fail))) | (refine fits (wrap64 ?_ ?_) ?_; (focus omega); (focus omega)) | (refine fits (wrapU64 ?_ ?_) ?_; (focus omega); (focus omega)) | (refine Need.mk ?_ ?_; (focus omega)) | (refine InB.mk ?_ ?_ ?_; (focus omega); (focus omega)))); (try (conv => whnf)))
      refine InB.mk (by simp) (by simp) ?_
      ((repeat ((conv => whnf); first | (refine Sure.mk (by kernel_rfl) ?_) | (refine IfB.tt rfl ?_) | (refine IfB.ff rfl ?_) | (refine IfB.tt ?_ ?_; (focus (simp <;> fail))) | (refine IfB.ff ?_ ?_; (focus (simp <;> fail))) | (refine fits (wrap64 ?_ ?_) ?_; (focus omega); (focus omega)) | (refine fits (wrapU64 ?_ ?_) ?_; (focus omega); (focus omega)) | (refine Need.mk ?_ ?_; (focus omega)) | (refine InB.mk ?_ ?_ ?_; (focus omega); (focus omega)))); (try (conv => whnf)))
      first | (refine At.mk ⟨_, rfl, ?_⟩) | skip
      ((repeat ((conv => whnf); first | (refine Sure.mk (by kernel_rfl) ?_) | (refine IfB.tt rfl ?_) | (refine IfB.ff rfl ?_) | (refine IfB.tt ?_ ?_; (focus (simp <;> fail))) | (refine IfB.ff ?_ ?_; (focus (simp <;> fail))) | (refine fits (wrap64 ?_ ?_) ?_; (focus omega); (focus omega)) | (refine fits (wrapU64 ?_ ?_) ?_; (focus omega); (focus omega)) | (refine Need.mk ?_ ?_; (focus omega)) | (refine InB.mk ?_ ?_ ?_; (focus omega); (focus omega)))); (try (conv => whnf)); exact RetN.mk ⟨[], rfl, rfl, rfl⟩)
    · subst h
      refine ⟨⟨3, 0, v, 2, 0, 0⟩, p2.next 7, ?_, k2.next 7, ⟨by simp, by simp, b2, by simp, by simp, by simp, by simp, by simp, by simp, by simp, by simp⟩⟩
      refine told_of_ev (fn := mk_Picks_Op_fn) tabOk mixed (by kernel_rfl) (by kernel_rfl) (by kernel_rfl) (by kernel_rfl) ?_
      ((repeat ((conv => whnf); first | (refine Sure.mk (by kernel_rfl) ?_) | (refine IfB.tt rfl ?_) | (refine IfB.ff rfl ?_) | (refine IfB.tt ?_ ?_; (focus (simp <;> fail))) | (refine IfB.ff ?_ ?_; (focus (simp <;> fail))) | (refine fits (wrap64 ?_ ?_) ?_; (focus omega); (focus omega)) | (refine fits (wrapU64 ?_ ?_) ?_; (focus omega); (focus omega)) | (refine Need.mk ?_ ?_; (focus omega)) | (refine InB.mk ?_ ?_ ?_; (focus omega); (focus omega)))); (try (conv => whnf)); refine Choice.mk ⟨true, Choice.mk ⟨false, _, _, t1, ?_⟩⟩)
      ((repeat ((conv => whnf); first | (refine Sure.mk (by kernel_rfl) ?_) | (refine IfB.tt rfl ?_) | (refine IfB.ff rfl ?_) | (refine IfB.tt ?_ ?_; (focus (simp <;> fail))) | (refine IfB.ff ?_ ?_; (focus (simp <;> fail))) | (refine fits (wrap64 ?_ ?_) ?_; (focus omega); (focus omega)) | (refine fits (wrapU64 ?_ ?_) ?_; (focus omega); (focus omega)) | (refine Need.mk ?_ ?_; (focus omega)) | (refine InB.mk ?_ ?_ ?_; (focus omega); (focus omega)))); (try (conv => whnf)); refine Choice.mk ⟨true, Choice.mk ⟨false, _, _, t2, ?_⟩⟩)
      ((repeat ((conv => whnf); first | (refine Sure.mk (by kernel_rfl) ?_) | (refine IfB.tt rfl ?_) | (refine IfB.ff rfl ?_) | (refine IfB.tt ?_ ?_; (focus (simp <;> fail))) | (refine IfB.ff ?_ ?_; (focus (simp <;> fail))) | (refine fits (wrap64 ?_ ?_) ?_; (focus omega); (focus omega)) | (refine fits (wrapU64 ?_ ?_) ?_; (focus omega); (focus omega)) | (refine Need.mk ?_ ?_; (focus omega)) | (refine InB.mk ?_ ?_ ?_; (focus omega); (focus omega)))); (try (conv => whnf)); refine Choice.mk ⟨true, Choice.mk ⟨false, _, _, t3, ?_⟩⟩)
      ((repeat ((conv => whnf); first | (refine Sure.mk (by kernel_rfl) ?_) | (refine IfB.tt rfl ?_) | (refine IfB.ff rfl ?_) | (refine IfB.tt ?_ ?_; (focus (simp <;> fail))) | (refine IfB.ff ?_ ?_; (focus (simp <;> fail))) | (refine fits (wrap64 ?_ ?_) ?_; (focus omega); (focus omega)) | (refine fits (wrapU64 ?_ ?_) ?_; (focus omega); (focus omega)) | (refine Need.mk ?_ ?_; (focus omega)) | (refine InB.mk ?_ ?_ ?_; (focus omega); (focus omega)))); (try (conv => whnf)))
      refine InB.mk (by simp) (by simp) ?_
      ((repeat ((conv => whnf); first | (refine Sure.mk (by kernel_rfl) ?_) | (refine IfB.tt rfl ?_) | (refine IfB.ff rfl ?_) | (refine IfB.tt ?_ ?_; (focus (simp <;> fail))) | (refine IfB.ff ?_ ?_; (focus (simp <;> fail))) | (refine fits (wrap64 ?_ ?_) ?_; (focus omega); (focus omega)) | (refine fits (wrapU64 ?_ ?_) ?_; (focus omega); (focus omega)) | (refine Need.mk ?_ ?_; (focus omega)) | (refine InB.mk ?_ ?_ ?_; (focus omega); (focus omega)))); (try (conv => whnf)))
      first | (refine At.mk ⟨_, rfl, ?_⟩) | skip
      ((repeat ((conv => whnf); first | (refine Sure.mk (by kernel_rfl) ?_) | (refine IfB.tt rfl ?_) | (refine IfB.ff rfl ?_) | (refine IfB.tt ?_ ?_; (focus (simp <;> fail))) | (refine IfB.ff ?_ ?_; (focus (simp <;> fail))) | (refine fits (wrap64 ?_ ?_) ?_; (focus omega); (focus omega)) | (refine fits (wrapU64 ?_ ?_) ?_; (focus omega); (focus omega)) | (refine Need.mk ?_ ?_; (focus omega)) | (refine InB.mk ?_ ?_ ?_; (focus omega); (focus omega)))); (try (conv => whnf)); exact RetN.mk ⟨[], rfl, rfl, rfl⟩)
    · subst h
      refine ⟨⟨3, 0, v, 4, 0, 0⟩, p2.next 7, ?_, k2.next 7, ⟨by simp, by simp, b2, by simp, by simp, by simp, by simp, by simp, by simp, by simp, by simp⟩⟩
      refine told_of_ev (fn := mk_Picks_Op_fn) tabOk mixed (by kernel_rfl) (by kernel_rfl) (by kernel_rfl) (by kernel_rfl) ?_
      ((repeat ((conv => whnf); first | (refine Sure.mk (by kernel_rfl) ?_) | (refine IfB.tt rfl ?_) | (refine IfB.ff rfl ?_) | (refine IfB.tt ?_ ?_; (focus (simp <;> fail))) | (refine IfB.ff ?_ ?_; (focus (simp <;> fail))) | (refine fits (wrap64 ?_ ?_) ?_; (focus omega); (focus omega)) | (refine fits (wrapU64 ?_ ?_) ?_; (focus omega); (focus omega)) | (refine Need.mk ?_ ?_; (focus omega)) | (refine InB.mk ?_ ?_ ?_; (focus omega); (focus omega)))); (try (conv => whnf)); refine Choice.mk ⟨true, Choice.mk ⟨false, _, _, t1, ?_⟩⟩)
      ((repeat ((conv => whnf); first | (refine Sure.mk (by kernel_rfl) ?_) | (refine IfB.tt rfl ?_) | (refine IfB.ff rfl ?_) | (refine IfB.tt ?_ ?_; (focus (simp <;> fail))) | (refine IfB.ff ?_ ?_; (focus (simp <;> fail))) | (refine fits (wrap64 ?_ ?_) ?_; (focus omega); (focus omega)) | (refine fits (wrapU64 ?_ ?_) ?_; (focus omega); (focus omega)) | (refine Need.mk ?_ ?_; (focus omega)) | (refine InB.mk ?_ ?_ ?_; (focus omega); (focus omega)))); (try (conv => whnf)); refine Choice.mk ⟨true, Choice.mk ⟨false, _, _, t2, ?_⟩⟩)
      ((repeat ((conv => whnf); first | (refine Sure.mk (by kernel_rfl) ?_) | (refine IfB.tt rfl ?_) | (refine IfB.ff rfl ?_) | (refine IfB.tt ?_ ?_; (focus (simp <;> fail))) | (refine IfB.ff ?_ ?_; (focus (simp <;> fail))) | (refine fits (wrap64 ?_ ?_) ?_; (focus omega); (focus omega)) | (refine fits (wrapU64 ?_ ?_) ?_; (focus omega); (focus omega)) | (refine Need.mk ?_ ?_; (focus omega)) | (refine InB.mk ?_ ?_ ?_; (focus omega); (focus omega)))); (try (conv => whnf)); refine Choice.mk ⟨true, Choice.mk ⟨false, _, _, t3, ?_⟩⟩)
      ((repeat ((conv => whnf); first | (refine Sure.mk (by kernel_rfl) ?_) | (refine IfB.tt rfl ?_) | (refine IfB.ff rfl ?_) | (refine IfB.tt ?_ ?_; (focus (simp <;> fail))) | (refine IfB.ff ?_ ?_; (focus (simp <;> fail))) | (refine fits (wrap64 ?_ ?_) ?_; (focus omega); (focus omega)) | (refine fits (wrapU64 ?_ ?_) ?_; (focus omega); (focus omega)) | (refine Need.mk ?_ ?_; (focus omega)) | (refine InB.mk ?_ ?_ ?_; (focus omega); (focus omega)))); (try (conv => whnf)))
      refine InB.mk (by simp) (by simp) ?_
      ((repeat ((conv => whnf); first | (refine Sure.mk (by kernel_rfl) ?_) | (refine IfB.tt rfl ?_) | (refine IfB.ff rfl ?_) | (refine IfB.tt ?_ ?_; (focus (simp <;> fail))) | (refine IfB.ff ?_ ?_; (focus (simp <;> fail))) | (refine fits (wrap64 ?_ ?_) ?_; (focus omega); (focus omega)) | (refine fits (wrapU64 ?_ ?_) ?_; (focus omega); (focus omega)) | (refine Need.mk ?_ ?_; (focus omega)) | (refine InB.mk ?_ ?_ ?_; (focus omega); (focus omega)))); (try (conv => whnf)))
      first | (refine At.mk ⟨_, rfl, ?_⟩) | skip
      ((repeat ((conv => whnf); first | (refine Sure.mk (by kernel_rfl) ?_) | (refine IfB.tt rfl ?_) | (refine IfB.ff rfl ?_) | (refine IfB.tt ?_ ?_; (focus (simp <;> fail))) | (refine IfB.ff ?_ ?_; (focus (simp <;> fail))) | (refine fits (wrap64 ?_ ?_) ?_; (focus omega); (focus omega)) | (refine fits (wrapU64 ?_ ?_) ?_; (focus omega); (focus omega)) | (refine Need.mk ?_ ?_; (focus omega)) | (refine InB.mk ?_ ?_ ?_; (focus omega); (focus omega)))); (try (conv => whnf)); exact RetN.mk ⟨[], rfl, rfl, rfl⟩)
    · subst h
      refine ⟨⟨3, 0, v, 3, 0, 0⟩, p2.next 7, ?_, k2.next 7, ⟨by simp, by simp, b2, by simp, by simp, by simp, by simp, by simp, by simp, by simp, by simp⟩⟩
      refine told_of_ev (fn := mk_Picks_Op_fn) tabOk mixed (by kernel_rfl) (by kernel_rfl) (by kernel_rfl) (by kernel_rfl) ?_
      ((repeat ((conv => whnf); first | (refine Sure.mk (by kernel_rfl) ?_) | (refine IfB.tt rfl ?_) | (refine IfB.ff rfl ?_) | (refine IfB.tt ?_ ?_; (focus (simp <;> fail))) | (refine IfB.ff ?_ ?_; (focus (simp <;> fail))) | (refine fits (wrap64 ?_ ?_) ?_; (focus omega); (focus omega)) | (refine fits (wrapU64 ?_ ?_) ?_; (focus omega); (focus omega)) | (refine Need.mk ?_ ?_; (focus omega)) | (refine InB.mk ?_ ?_ ?_; (focus omega); (focus omega)))); (try (conv => whnf)); refine Choice.mk ⟨true, Choice.mk ⟨false, _, _, t1, ?_⟩⟩)
      ((repeat ((conv => whnf); first | (refine Sure.mk (by kernel_rfl) ?_) | (refine IfB.tt rfl ?_) | (refine IfB.ff rfl ?_) | (refine IfB.tt ?_ ?_; (focus (simp <;> fail))) | (refine IfB.ff ?_ ?_; (focus (simp <;> fail))) | (refine fits (wrap64 ?_ ?_) ?_; (focus omega); (focus omega)) | (refine fits (wrapU64 ?_ ?_) ?_; (focus omega); (focus omega)) | (refine Need.mk ?_ ?_; (focus omega)) | (refine InB.mk ?_ ?_ ?_; (focus omega); (focus omega)))); (try (conv => whnf)); refine Choice.mk ⟨true, Choice.mk ⟨false, _, _, t2, ?_⟩⟩)
      ((repeat ((conv => whnf); first | (refine Sure.mk (by kernel_rfl) ?_) | (refine IfB.tt rfl ?_) | (refine IfB.ff rfl ?_) | (refine IfB.tt ?_ ?_; (focus (simp <;> fail))) | (refine IfB.ff ?_ ?_; (focus (simp <;> fail))) | (refine fits (wrap64 ?_ ?_) ?_; (focus omega); (focus omega)) | (refine fits (wrapU64 ?_ ?_) ?_; (focus omega); (focus omega)) | (refine Need.mk ?_ ?_; (focus omega)) | (refine InB.mk ?_ ?_ ?_; (focus omega); (focus omega)))); (try (conv => whnf)); refine Choice.mk ⟨true, Choice.mk ⟨false, _, _, t3, ?_⟩⟩)
      ((repeat ((conv => whnf); first | (refine Sure.mk (by kernel_rfl) ?_) | (refine IfB.tt rfl ?_) | (refine IfB.ff rfl ?_) | (refine IfB.tt ?_ ?_; (focus (simp <;> fail))) | (refine IfB.ff ?_ ?_; (focus (simp <;> fail))) | (refine fits (wrap64 ?_ ?_) ?_; (focus omega); (focus omega)) | (refine fits (wrapU64 ?_ ?_) ?_; (focus omega); (focus omega)) | (refine Need.mk ?_ ?_; (focus omega)) | (refine InB.mk ?_ ?_ ?_; (focus omega); (focus omega)))); (try (conv => whnf)))
      refine InB.mk (by simp) (by simp) ?_
      ((repeat ((conv => whnf); first | (refine Sure.mk (by kernel_rfl) ?_) | (refine IfB.tt rfl ?_) | (refine IfB.ff rfl ?_) | (refine IfB.tt ?_ ?_; (focus (simp <;> fail))) | (refine IfB.ff ?_ ?_; (focus (simp <;> fail))) | (refine fits (wrap64 ?_ ?_) ?_; (focus omega); (focus omega)) | (refine fits (wrapU64 ?_ ?_) ?_; (focus omega); (focus omega)) | (refine Need.mk ?_ ?_; (focus omega)) | (refine InB.mk ?_ ?_ ?_; (focus omega); (focus omega)))); (try (conv => whnf)))
      first | (refine At.mk ⟨_, rfl, ?_⟩) | skip
      ((repeat ((conv => whnf); first | (refine Sure.mk (by kernel_rfl) ?_) | (refine IfB.tt rfl ?_) | (refine IfB.ff rfl ?_) | (refine IfB.tt ?_ ?_; (focus (simp <;> fail))) | (refine IfB.ff ?_ ?_; (focus (simp <;> fail))) | (refine fits (wrap64 ?_ ?_) ?_; (focus omega); (focus omega)) | (refine fits (wrapU64 ?_ ?_) ?_; (focus omega); (focus omega)) | (refine Need.mk ?_ ?_; (focus omega)) | (refine InB.mk ?_ ?_ ?_; (focus omega); (focus omega)))); (try (conv => whnf)); exact RetN.mk ⟨[], rfl, rfl, rfl⟩)
    · subst h
      refine ⟨⟨3, 0, v, 0, 0, 0⟩, p2.next 7, ?_, k2.next 7, ⟨by simp, by simp, b2, by simp, by simp, by simp, by simp, by simp, by simp, by simp, by simp⟩⟩
      refine told_of_ev (fn := mk_Picks_Op_fn) tabOk mixed (by kernel_rfl) (by kernel_rfl) (by kernel_rfl) (by kernel_rfl) ?_
      ((repeat ((conv => whnf); first | (refine Sure.mk (by kernel_rfl) ?_) | (refine IfB.tt rfl ?_) | (refine IfB.ff rfl ?_) | (refine IfB.tt ?_ ?_; (focus (simp <;> fail))) | (refine IfB.ff ?_ ?_; (focus (simp <;> fail))) | (refine fits (wrap64 ?_ ?_) ?_; (focus omega); (focus omega)) | (refine fits (wrapU64 ?_ ?_) ?_; (focus omega); (focus omega)) | (refine Need.mk ?_ ?_; (focus omega)) | (refine InB.mk ?_ ?_ ?_; (focus omega); (focus omega)))); (try (conv => whnf)); refine Choice.mk ⟨true, Choice.mk ⟨false, _, _, t1, ?_⟩⟩)
      ((repeat ((conv => whnf); first | (refine Sure.mk (by kernel_rfl) ?_) | (refine IfB.tt rfl ?_) | (refine IfB.ff rfl ?_) | (refine IfB.tt ?_ ?_; (focus (simp <;> fail))) | (refine IfB.ff ?_ ?_; (focus (simp <;> fail))) | (refine fits (wrap64 ?_ ?_) ?_; (focus omega); (focus omega)) | (refine fits (wrapU64 ?_ ?_) ?_; (focus omega); (focus omega)) | (refine Need.mk ?_ ?_; (focus omega)) | (refine InB.mk ?_ ?_ ?_; (focus omega); (focus omega)))); (try (conv => whnf)); refine Choice.mk ⟨true, Choice.mk ⟨false, _, _, t2, ?_⟩⟩)
      ((repeat ((conv => whnf); first | (refine Sure.mk (by kernel_rfl) ?_) | (refine IfB.tt rfl ?_) | (refine IfB.ff rfl ?_) | (refine IfB.tt ?_ ?_; (focus (simp <;> fail))) | (refine IfB.ff ?_ ?_; (focus (simp <;> fail))) | (refine fits (wrap64 ?_ ?_) ?_; (focus omega); (focus omega)) | (refine fits (wrapU64 ?_ ?_) ?_; (focus omega); (focus omega)) | (refine Need.mk ?_ ?_; (focus omega)) | (refine InB.mk ?_ ?_ ?_; (focus omega); (focus omega)))); (try (conv => whnf)); refine Choice.mk ⟨true, Choice.mk ⟨false, _, _, t3, ?_⟩⟩)
      ((repeat ((conv => whnf); first | (refine Sure.mk (by kernel_rfl) ?_) | (refine IfB.tt rfl ?_) | (refine IfB.ff rfl ?_) | (refine IfB.tt ?_ ?_; (focus (simp <;> fail))) | (refine IfB.ff ?_ ?_; (focus (simp <;> fail))) | (refine fits (wrap64 ?_ ?_) ?_; (focus omega); (focus omega)) | (refine fits (wrapU64 ?_ ?_) ?_; (focus omega); (focus omega)) | (refine Need.mk ?_ ?_; (focus omega)) | (refine InB.mk ?_ ?_ ?_; (focus omega); (focus omega)))); (try (conv => whnf)))
      refine InB.mk (by simp) (by simp) ?_
      ((repeat ((conv => whnf); first | (refine Sure.mk (by kernel_rfl) ?_) | (refine IfB.tt rfl ?_) | (refine IfB.ff rfl ?_) | (refine IfB.tt ?_ ?_; (focus (simp <;> fail))) | (refine IfB.ff ?_ ?_; (focus (simp <;> fail))) | (refine fits (wrap64 ?_ ?_) ?_; (focus omega); (focus omega)) | (refine fits (wrapU64 ?_ ?_) ?_; (focus omega); (focus omega)) | (refine Need.mk ?_ ?_; (focus omega)) | (refine InB.mk ?_ ?_ ?_; (focus omega); (focus omega)))); (try (conv => whnf)))
      first | (refine At.mk ⟨_, rfl, ?_⟩) | skip
      ((repeat ((conv => whnf); first | (refine Sure.mk (by kernel_rfl) ?_) | (refine IfB.tt rfl ?_) | (refine IfB.ff rfl ?_) | (refine IfB.tt ?_ ?_; (focus (simp <;> fail))) | (refine IfB.ff ?_ ?_; (focus (simp <;> fail))) | (refine fits (wrap64 ?_ ?_) ?_; (focus omega); (focus omega)) | (refine fits (wrapU64 ?_ ?_) ?_; (focus omega); (focus omega)) | (refine Need.mk ?_ ?_; (focus omega)) | (refine InB.mk ?_ ?_ ?_; (focus omega); (focus omega)))); (try (conv => whnf)); exact RetN.mk ⟨[], rfl, rfl, rfl⟩)
    · subst h
      refine ⟨⟨3, 0, v, 8, 0, 0⟩, p2.next 7, ?_, k2.next 7, ⟨by simp, by simp, b2, by simp, by simp, by simp, by simp, by simp, by simp, by simp, by simp⟩⟩
      refine told_of_ev (fn := mk_Picks_Op_fn) tabOk mixed (by kernel_rfl) (by kernel_rfl) (by kernel_rfl) (by kernel_rfl) ?_
      ((repeat ((conv => whnf); first | (refine Sure.mk (by kernel_rfl) ?_) | (refine IfB.tt rfl ?_) | (refine IfB.ff rfl ?_) | (refine IfB.tt ?_ ?_; (focus (simp <;> fail))) | (refine IfB.ff ?_ ?_; (focus (simp <;> fail))) | (refine fits (wrap64 ?_ ?_) ?_; (focus omega); (focus omega)) | (refine fits (wrapU64 ?_ ?_) ?_; (focus omega); (focus omega)) | (refine Need.mk ?_ ?_; (focus omega)) | (refine InB.mk ?_ ?_ ?_; (focus omega); (focus omega)))); (try (conv => whnf)); refine Choice.mk ⟨true, Choice.mk ⟨false, _, _, t1, ?_⟩⟩)
      ((repeat ((conv => whnf); first | (refine Sure.mk (by kernel_rfl) ?_) | (refine IfB.tt rfl ?_) | (refine IfB.ff rfl ?_) | (refine IfB.tt ?_ ?_; (focus (simp <;> fail))) | (refine IfB.ff ?_ ?_; (focus (simp <;> fail))) | (refine fits (wrap64 ?_ ?_) ?_; (focus omega); (focus omega)) | (refine fits (wrapU64 ?_ ?_) ?_; (focus omega); (focus omega)) | (refine Need.mk ?_ ?_; (focus omega)) | (refine InB.mk ?_ ?_ ?_; (focus omega); (focus omega)))); (try (conv => whnf)); refine Choice.mk ⟨true, Choice.mk ⟨false, _, _, t2, ?_⟩⟩)
      ((repeat ((conv => whnf); first | (refine Sure.mk (by kernel_rfl) ?_) | (refine IfB.tt rfl ?_) | (refine IfB.ff rfl ?_) | (refine IfB.tt ?_ ?_; (focus (simp <;> fail))) | (refine IfB.ff ?_ ?_; (focus (simp <;> fail))) | (refine fits (wrap64 ?_ ?_) ?_; (focus omega); (focus omega)) | (refine fits (wrapU64 ?_ ?_) ?_; (focus omega); (focus omega)) | (refine Need.mk ?_ ?_; (focus omega)) | (refine InB.mk ?_ ?_ ?_; (focus omega); (focus omega)))); (try (conv => whnf)); refine Choice.mk ⟨true, Choice.mk ⟨false, _, _, t3, ?_⟩⟩)
      ((repeat ((conv => whnf); first | (refine Sure.mk (by kernel_rfl) ?_) | (refine IfB.tt rfl ?_) | (refine IfB.ff rfl ?_) | (refine IfB.tt ?_ ?_; (focus (simp <;> fail))) | (refine IfB.ff ?_ ?_; (focus (simp <;> fail))) | (refine fits (wrap64 ?_ ?_) ?_; (focus omega); (focus omega)) | (refine fits (wrapU64 ?_ ?_) ?_; (focus omega); (focus omega)) | (refine Need.mk ?_ ?_; (focus omega)) | (refine InB.mk ?_ ?_ ?_; (focus omega); (focus omega)))); (try (conv => whnf)))
      refine InB.mk (by simp) (by simp) ?_
      ((repeat ((conv => whnf); first | (refine Sure.mk (by kernel_rfl) ?_) | (refine IfB.tt rfl ?_) | (refine IfB.ff rfl ?_) | (refine IfB.tt ?_ ?_; (focus (simp <;> fail))) | (refine IfB.ff ?_ ?_; (focus (simp <;> fail))) | (refine fits (wrap64 ?_ ?_) ?_; (focus omega); (focus omega)) | (refine fits (wrapU64 ?_ ?_) ?_; (focus omega); (focus omega)) | (refine Need.mk ?_ ?_; (focus omega)) | (refine InB.mk ?_ ?_ ?_; (focus omega); (focus omega)))); (try (conv => whnf)))
      first | (refine At.mk ⟨_, rfl, ?_⟩) | skip
      ((repeat ((conv => whnf); first | (refine Sure.mk (by kernel_rfl) ?_) | (refine IfB.tt rfl ?_) | (refine IfB.ff rfl ?_) | (refine IfB.tt ?_ ?_; (focus (simp <;> fail))) | (refine IfB.ff ?_ ?_; (focus (simp <;> fail))) | (refine fits (wrap64 ?_ ?_) ?_; (focus omega); (focus omega)) | (refine fits (wrapU64 ?_ ?_) ?_; (focus omega); (focus omega)) | (refine Need.mk ?_ ?_; (focus omega)) | (refine InB.mk ?_ ?_ ?_; (focus omega); (focus omega)))); (try (conv => whnf)); exact RetN.mk ⟨[], rfl, rfl, rfl⟩)
    · subst h
      refine ⟨⟨3, 0, v, 16, 0, 0⟩, p2.next 7, ?_, k2.next 7, ⟨by simp, by simp, b2, by simp, by simp, by simp, by simp, by simp, by simp, by simp, by simp⟩⟩
      refine told_of_ev (fn := mk_Picks_Op_fn) tabOk mixed (by kernel_rfl) (by kernel_rfl) (by kernel_rfl) (by kernel_rfl) ?_
      ((repeat ((conv => whnf); first | (refine Sure.mk (by kernel_rfl) ?_) | (refine IfB.tt rfl ?_) | (refine IfB.ff rfl ?_) | (refine IfB.tt ?_ ?_; (focus (simp <;> fail))) | (refine IfB.ff ?_ ?_; (focus (simp <;> fail))) | (refine fits (wrap64 ?_ ?_) ?_; (focus omega); (focus omega)) | (refine fits (wrapU64 ?_ ?_) ?_; (focus omega); (focus omega)) | (refine Need.mk ?_ ?_; (focus omega)) | (refine InB.mk ?_ ?_ ?_; (focus omega); (focus omega)))); (try (conv => whnf)); refine Choice.mk ⟨true, Choice.mk ⟨false, _, _, t1, ?_⟩⟩)
      ((repeat ((conv => whnf); first | (refine Sure.mk (by kernel_rfl) ?_) | (refine IfB.tt rfl ?_) | (refine IfB.ff rfl ?_) | (refine IfB.tt ?_ ?_; (focus (simp <;> fail))) | (refine IfB.ff ?_ ?_; (focus (simp <;> fail))) | (refine fits (wrap64 ?_ ?_) ?_; (focus omega); (focus omega)) | (refine fits (wrapU64 ?_ ?_) ?_; (focus omega); (focus omega)) | (refine Need.mk ?_ ?_; (focus omega)) | (refine InB.mk ?_ ?_ ?_; (focus omega); (focus omega)))); (try (conv => whnf)); refine Choice.mk ⟨true, Choice.mk ⟨false, _, _, t2, ?_⟩⟩)
      ((repeat ((conv => whnf); first | (refine Sure.mk (by kernel_rfl) ?_) | (refine IfB.tt rfl ?_) | (refine IfB.ff rfl ?_) | (refine IfB.tt ?_ ?_; (focus (simp <;> fail))) | (refine IfB.ff ?_ ?_; (focus (simp <;> fail))) | (refine fits (wrap64 ?_ ?_) ?_; (focus omega); (focus omega)) | (refine fits (wrapU64 ?_ ?_) ?_; (focus omega); (focus omega)) | (refine Need.mk ?_ ?_; (focus omega)) | (refine InB.mk ?_ ?_ ?_; (focus omega); (focus omega)))); (try (conv => whnf)); refine Choice.mk ⟨true, Choice.mk ⟨false, _, _, t3, ?_⟩⟩)
      ((repeat ((conv => whnf); first | (refine Sure.mk (by kernel_rfl) ?_) | (refine IfB.tt rfl ?_) | (refine IfB.ff rfl ?_) | (refine IfB.tt ?_ ?_; (focus (simp <;> fail))) | (refine IfB.ff ?_ ?_; (focus (simp <;> fail))) | (refine fits (wrap64 ?_ ?_) ?_; (focus omega); (focus omega)) | (refine fits (wrapU64 ?_ ?_) ?_; (focus omega); (focus omega)) | (refine Need.mk ?_ ?_; (focus omega)) | (refine InB.mk ?_ ?_ ?_; (focus omega); (focus omega)))); (try (conv => whnf)))
      refine InB.mk (by simp) (by simp) ?_
      ((repeat ((conv => whnf); first | (refine Sure.mk (by kernel_rfl) ?_) | (refine IfB.tt rfl ?_) | (refine IfB.ff rfl ?_) | (refine IfB.tt ?_ ?_; (focus (simp <;> fail))) | (refine IfB.ff ?_ ?_; (focus (simp <;> fail))) | (refine fits (wrap64 ?_ ?_) ?_; (focus omega); (focus omega)) | (refine fits (wrapU64 ?_ ?_) ?_; (focus omega); (focus omega)) | (refine Need.mk ?_ ?_; (focus omega)) | (refine InB.mk ?_ ?_ ?_; (focus omega); (focus omega)))); (try (conv => whnf)))
      first | (refine At.mk ⟨_, rfl, ?_⟩) | skip
      ((repeat ((conv => whnf); first | (refine Sure.mk (by kernel_rfl) ?_) | (refine IfB.tt rfl ?_) | (refine IfB.ff rfl ?_) | (refine IfB.tt ?_ ?_; (focus (simp <;> fail))) | (refine IfB.ff ?_ ?_; (focus (simp <;> fail))) | (refine fits (wrap64 ?_ ?_) ?_; (focus omega); (focus omega)) | (refine fits (wrapU64 ?_ ?_) ?_; (focus omega); (focus omega)) | (refine Need.mk ?_ ?_; (focus omega)) | (refine InB.mk ?_ ?_ ?_; (focus omega); (focus omega)))); (try (conv => whnf)); exact RetN.mk ⟨[], rfl, rfl, rfl⟩)
  · obtain ⟨v, p2, t2, k2, b2⟩ := block_told hH ha p1 k1
    obtain ⟨w, p3, t3, k3, b3⟩ := size_told hc p2 k2
    refine ⟨⟨4, v, w, 0, 0, 0⟩, p3, ?_, k3, ⟨by simp, b2, b3, by simp, by simp, by simp, by simp, by simp, by simp, by simp, by simp⟩⟩
    refine told_of_ev (fn := mk_Picks_Op_fn) tabOk mixed (by kernel_rfl) (by kernel_rfl) (by kernel_rfl) (by kernel_rfl) ?_
    ((repeat ((conv => whnf); first | (refine Sure.mk (by kernel_rfl) ?_) | (refine IfB.tt rfl ?_) | (refine IfB.ff rfl ?_) | (refine IfB.tt ?_ ?_; (focus (simp <;> fail))) | (refine IfB.ff ?_ ?_; (focus (simp <;> fail))) | (refine fits (wrap64 ?_ ?_) ?_; (focus omega); (focus omega)) | (refine fits (wrapU64 ?_ ?_) ?_; (focus omega); (focus omega)) | (refine Need.mk ?_ ?_; (focus omega)) | (refine InB.mk ?_ ?_ ?_; (focus omega); (focus omega)))); (try (conv => whnf)); refine Choice.mk ⟨true, Choice.mk ⟨false, _, _, t1, ?_⟩⟩)
    ((repeat ((conv => whnf); first | (refine Sure.mk (by kernel_rfl) ?_) | (refine IfB.tt rfl ?_) | (refine IfB.ff rfl ?_) | (refine IfB.tt ?_ ?_; (focus (simp <;> fail))) | (refine IfB.ff ?_ ?_; (focus (simp <;> fail))) | (refine fits (wrap64 ?_ ?_) ?_; (focus omega); (focus omega)) | (refine fits (wrapU64 ?_ ?_) ?_; (focus omega); (focus omega)) | (refine Need.mk ?_ ?_; (focus omega)) | (refine InB.mk ?_ ?_ ?_; (focus omega); (focus omega)))); (try (conv => whnf)); refine IfB.ff (by simp; omega) ?_)
    ((repeat ((conv => whnf); first | (refine Sure.mk (by kernel_rfl) ?_) | (refine IfB.tt rfl ?_) | (refine IfB.ff rfl ?_) | (refine IfB.tt ?_ ?_; (focus (simp <;> fail))) | (refine IfB.ff ?_ ?_; (focus (simp <;> fail))) | (refine fits (wrap64 ?_ ?_) ?_; (focus omega); (focus omega)) | (refine fits (wrapU64 ?_ ?_) ?_; (focus omega); (focus omega)) | (refine Need.mk ?_ ?_; (focus omega)) | (refine InB.mk ?_ ?_ ?_; (focus omega); (focus omega)))); (try (conv => whnf)); refine IfB.ff (by simp; omega) ?_)
    ((repeat ((conv => whnf); first | (refine Sure.mk (by kernel_rfl) ?_) | (refine IfB.tt rfl ?_) | (refine IfB.ff rfl ?_) | (refine IfB.tt ?_ ?_; (focus (simp <;> fail))) | (refine IfB.ff ?_ ?_; (focus (simp <;> fail))) | (refine fits (wrap64 ?_ ?_) ?_; (focus omega); (focus omega)) | (refine fits (wrapU64 ?_ ?_) ?_; (focus omega); (focus omega)) | (refine Need.mk ?_ ?_; (focus omega)) | (refine InB.mk ?_ ?_ ?_; (focus omega); (focus omega)))); (try (conv => whnf)); refine IfB.ff (by simp; omega) ?_)
    ((repeat ((conv => whnf); first | (refine Sure.mk (by kernel_rfl) ?_) | (refine IfB.tt rfl ?_) | (refine IfB.ff rfl ?_) | (refine IfB.tt ?_ ?_; (focus (simp <;> fail))) | (refine IfB.ff ?_ ?_; (focus (simp <;> fail))) | (refine fits (wrap64 ?_ ?_) ?_; (focus omega); (focus omega)) | (refine fits (wrapU64 ?_ ?_) ?_; (focus omega); (focus omega)) | (refine Need.mk ?_ ?_; (focus omega)) | (refine InB.mk ?_ ?_ ?_; (focus omega); (focus omega)))); (try (conv => whnf)); refine IfB.tt (by simp; omega) ?_)
    ((repeat ((conv => whnf); first | (refine Sure.mk (by kernel_rfl) ?_) | (refine IfB.tt rfl ?_) | (refine IfB.ff rfl ?_) | (refine IfB.tt ?_ ?_; (focus (simp <;> fail))) | (refine IfB.ff ?_ ?_; (focus (simp <;> fail))) | (refine fits (wrap64 ?_ ?_) ?_; (focus omega); (focus omega)) | (refine fits (wrapU64 ?_ ?_) ?_; (focus omega); (focus omega)) | (refine Need.mk ?_ ?_; (focus omega)) | (refine InB.mk ?_ ?_ ?_; (focus omega); (focus omega)))); (try (conv => whnf)); refine Choice.mk ⟨true, Choice.mk ⟨false, _, _, t2, ?_⟩⟩)
    ((repeat ((conv => whnf); first | (refine Sure.mk (by kernel_rfl) ?_) | (refine IfB.tt rfl ?_) | (refine IfB.ff rfl ?_) | (refine IfB.tt ?_ ?_; (focus (simp <;> fail))) | (refine IfB.ff ?_ ?_; (focus (simp <;> fail))) | (refine fits (wrap64 ?_ ?_) ?_; (focus omega); (focus omega)) | (refine fits (wrapU64 ?_ ?_) ?_; (focus omega); (focus omega)) | (refine Need.mk ?_ ?_; (focus omega)) | (refine InB.mk ?_ ?_ ?_; (focus omega); (focus omega)))); (try (conv => whnf)); refine Choice.mk ⟨true, Choice.mk ⟨false, _, _, t3, ?_⟩⟩)
    ((repeat ((conv => whnf); first | (refine Sure.mk (by kernel_rfl) ?_) | (refine IfB.tt rfl ?_) | (refine IfB.ff rfl ?_) | (refine IfB.tt ?_ ?_; (focus (simp <;> fail))) | (refine IfB.ff ?_ ?_; (focus (simp <;> fail))) | (refine fits (wrap64 ?_ ?_) ?_; (focus omega); (focus omega)) | (refine fits (wrapU64 ?_ ?_) ?_; (focus omega); (focus omega)) | (refine Need.mk ?_ ?_; (focus omega)) | (refine InB.mk ?_ ?_ ?_; (focus omega); (focus omega)))); (try (conv => whnf)); exact RetN.mk ⟨[], rfl, rfl, rfl⟩)
  · obtain ⟨v, p2, t2, k2, b2⟩ := block_told hH ha p1 k1
    refine ⟨⟨5, v, 0, 0, 0, 0⟩, p2, ?_, k2, ⟨by simp, b2, by simp; omega, by simp, by simp, by simp, by simp, by simp, by simp, by simp, by simp⟩⟩
    refine told_of_ev (fn := mk_Picks_Op_fn) tabOk mixed (by kernel_rfl) (by kernel_rfl) (by kernel_rfl) (by kernel_rfl) ?_
    ((repeat ((conv => whnf); first | (refine Sure.mk (by kernel_rfl) ?_) | (refine IfB.tt rfl ?_) | (refine IfB.ff rfl ?_) | (refine IfB.tt ?_ ?_; (focus (simp <;> fail))) | (refine IfB.ff ?_ ?_; (focus (simp <;> fail))) | (refine fits (wrap64 ?_ ?_) ?_; (focus omega); (focus omega)) | (refine fits (wrapU64 ?_ ?_) ?_; (focus omega); (focus omega)) | (refine Need.mk ?_ ?_; (focus omega)) | (refine InB.mk ?_ ?_ ?_; (focus omega); (focus omega)))); (try (conv => whnf)); refine Choice.mk ⟨true, Choice.mk ⟨false, _, _, t1, ?_⟩⟩)
    ((repeat ((conv => whnf); first | (refine Sure.mk (by kernel_rfl) ?_) | (refine IfB.tt rfl ?_) | (refine IfB.ff rfl ?_) | (refine IfB.tt ?_ ?_; (focus (simp <;> fail))) | (refine IfB.ff ?_ ?_; (focus (simp <;> fail))) | (refine fits (wrap64 ?_ ?_) ?_; (focus omega); (focus omega)) | (refine fits (wrapU64 ?_ ?_) ?_; (focus omega); (focus omega)) | (refine Need.mk ?_ ?_; (focus omega)) | (refine InB.mk ?_ ?_ ?_; (focus omega); (focus omega)))); (try (conv => whnf)); refine IfB.ff (by simp; omega) ?_)
    ((repeat ((conv => whnf); first | (refine Sure.mk (by kernel_rfl) ?_) | (refine IfB.tt rfl ?_) | (refine IfB.ff rfl ?_) | (refine IfB.tt ?_ ?_; (focus (simp <;> fail))) | (refine IfB.ff ?_ ?_; (focus (simp <;> fail))) | (refine fits (wrap64 ?_ ?_) ?_; (focus omega); (focus omega)) | (refine fits (wrapU64 ?_ ?_) ?_; (focus omega); (focus omega)) | (refine Need.mk ?_ ?_; (focus omega)) | (refine InB.mk ?_ ?_ ?_; (focus omega); (focus omega)))); (try (conv => whnf)); refine IfB.ff (by simp; omega) ?_)
    ((repeat ((conv => whnf); first | (refine Sure.mk (by kernel_rfl) ?_) | (refine IfB.tt rfl ?_) | (refine IfB.ff rfl ?_) | (refine IfB.tt ?_ ?_; (focus (simp <;> fail))) | (refine IfB.ff ?_ ?_; (focus (simp <;> fail))) | (refine fits (wrap64 ?_ ?_) ?_; (focus omega); (focus omega)) | (refine fits (wrapU64 ?_ ?_) ?_; (focus omega); (focus omega)) | (refine Need.mk ?_ ?_; (focus omega)) | (refine InB.mk ?_ ?_ ?_; (focus omega); (focus omega)))); (try (conv => whnf)); refine IfB.ff (by simp; omega) ?_)
    ((repeat ((conv => whnf); first | (refine Sure.mk (by kernel_rfl) ?_) | (refine IfB.tt rfl ?_) | (refine IfB.ff rfl ?_) | (refine IfB.tt ?_ ?_; (focus (simp <;> fail))) | (refine IfB.ff ?_ ?_; (focus (simp <;> fail))) | (refine fits (wrap64 ?_ ?_) ?_; (focus omega); (focus omega)) | (refine fits (wrapU64 ?_ ?_) ?_; (focus omega); (focus omega)) | (refine Need.mk ?_ ?_; (focus omega)) | (refine InB.mk ?_ ?_ ?_; (focus omega); (focus omega)))); (try (conv => whnf)); refine IfB.ff (by simp; omega) ?_)
    ((repeat ((conv => whnf); first | (refine Sure.mk (by kernel_rfl) ?_) | (refine IfB.tt rfl ?_) | (refine IfB.ff rfl ?_) | (refine IfB.tt ?_ ?_; (focus (simp <;> fail))) | (refine IfB.ff ?_ ?_; (focus (simp <;> fail))) | (refine fits (wrap64 ?_ ?_) ?_; (focus omega); (focus omega)) | (refine fits (wrapU64 ?_ ?_) ?_; (focus omega); (focus omega)) | (refine Need.mk ?_ ?_; (focus omega)) | (refine InB.mk ?_ ?_ ?_; (focus omega); (focus omega)))); (try (conv => whnf)); refine IfB.tt (by simp; omega) ?_)
    ((repeat ((conv => whnf); first | (refine Sure.mk (by kernel_rfl) ?_) | (refine IfB.tt rfl ?_) | (refine IfB.ff rfl ?_) | (refine IfB.tt ?_ ?_; (focus (simp <;> fail))) | (refine IfB.ff ?_ ?_; (focus (simp <;> fail))) | (refine fits (wrap64 ?_ ?_) ?_; (focus omega); (focus omega)) | (refine fits (wrapU64 ?_ ?_) ?_; (focus omega); (focus omega)) | (refine Need.mk ?_ ?_; (focus omega)) | (refine InB.mk ?_ ?_ ?_; (focus omega); (focus omega)))); (try (conv => whnf)); refine Choice.mk ⟨true, Choice.mk ⟨false, _, _, t2, ?_⟩⟩)
    ((repeat ((conv => whnf); first | (refine Sure.mk (by kernel_rfl) ?_) | (refine IfB.tt rfl ?_) | (refine IfB.ff rfl ?_) | (refine IfB.tt ?_ ?_; (focus (simp <;> fail))) | (refine IfB.ff ?_ ?_; (focus (simp <;> fail))) | (refine fits (wrap64 ?_ ?_) ?_; (focus omega); (focus omega)) | (refine fits (wrapU64 ?_ ?_) ?_; (focus omega); (focus omega)) | (refine Need.mk ?_ ?_; (focus omega)) | (refine InB.mk ?_ ?_ ?_; (focus omega); (focus omega)))); (try (conv => whnf)); exact RetN.mk ⟨[], rfl, rfl, rfl⟩)
  · obtain ⟨v, p2, t2, k2, b2⟩ := block_told hH ha p1 k1
    subst h
    refine ⟨⟨6, v, 0, 0, 0, 0⟩, p2, ?_, k2, ⟨by simp, b2, by simp; omega, by simp, by simp, by simp, by simp, by simp, by simp, by simp, by simp⟩⟩
    refine told_of_ev (fn := mk_Picks_Op_fn) tabOk mixed (by kernel_rfl) (by kernel_rfl) (by kernel_rfl) (by kernel_rfl) ?_
    ((repeat ((conv => whnf); first | (refine Sure.mk (by kernel_rfl) ?_) | (refine IfB.tt rfl ?_) | (refine IfB.ff rfl ?_) | (refine IfB.tt ?_ ?_; (focus (simp <;> fail))) | (refine IfB.ff ?_ ?_; (focus (simp <;> fail))) | (refine fits (wrap64 ?_ ?_) ?_; (focus omega); (focus omega)) | (refine fits (wrapU64 ?_ ?_) ?_; (focus omega); (focus omega)) | (refine Need.mk ?_ ?_; (focus omega)) | (refine InB.mk ?_ ?_ ?_; (focus omega); (focus omega)))); (try (conv => whnf)); refine Choice.mk ⟨true, Choice.mk ⟨false, _, _, t1, ?_⟩⟩)
    ((repeat ((conv => whnf); first | (refine Sure.mk (by kernel_rfl) ?_) | (refine IfB.tt rfl ?_) | (refine IfB.ff rfl ?_) | (refine IfB.tt ?_ ?_; (focus (simp <;> fail))) | (refine IfB.ff ?_ ?_; (focus (simp <;> fail))) | (refine fits (wrap64 ?_ ?_) ?_; (focus omega); (focus omega)) | (refine fits (wrapU64 ?_ ?_) ?_; (focus omega); (focus omega)) | (refine Need.mk ?_ ?_; (focus omega)) | (refine InB.mk ?_ ?_ ?_; (focus omega); (focus omega)))); (try (conv => whnf)); refine Choice.mk ⟨true, Choice.mk ⟨false, _, _, t2, ?_⟩⟩)
    ((repeat ((conv => whnf); first | (refine Sure.mk (by kernel_rfl) ?_) | (refine IfB.tt rfl ?_) | (refine IfB.ff rfl ?_) | (refine IfB.tt ?_ ?_; (focus (simp <;> fail))) | (refine IfB.ff ?_ ?_; (focus (simp <;> fail))) | (refine fits (wrap64 ?_ ?_) ?_; (focus omega); (focus omega)) | (refine fits (wrapU64 ?_ ?_) ?_; (focus omega); (focus omega)) | (refine Need.mk ?_ ?_; (focus omega)) | (refine InB.mk ?_ ?_ ?_; (focus omega); (focus omega)))); (try (conv => whnf)); exact RetN.mk ⟨[], rfl, rfl, rfl⟩)
  · obtain ⟨v, p2, t2, k2, b2⟩ := block_told hH ha p1 k1
    have t3 := num_told p2 k2 9 (by omega)
    have b3 := p2.num_lt (m := 9) (by omega)
    refine ⟨⟨7, v, 0, 0, (p2.num 9 : Nat), 0⟩, p2.next 9, ?_, k2.next 9, ⟨by simp, b2, by simp; omega, by simp, by simp only; omega, by simp, by simp, by simp, by simp, by simp, by simp⟩⟩
    refine told_of_ev (fn := mk_Picks_Op_fn) tabOk mixed (by kernel_rfl) (by kernel_rfl) (by kernel_rfl) (by kernel_rfl) ?_
    ((repeat ((conv => whnf); first | (refine Sure.mk (by kernel_rfl) ?_) | (refine IfB.tt rfl ?_) | (refine IfB.ff rfl ?_) | (refine IfB.tt ?_ ?_; (focus (simp <;> fail))) | (refine IfB.ff ?_ ?_; (focus (simp <;> fail))) | (refine fits (wrap64 ?_ ?_) ?_; (focus omega); (focus omega)) | (refine fits (wrapU64 ?_ ?_) ?_; (focus omega); (focus omega)) | (refine Need.mk ?_ ?_; (focus omega)) | (refine InB.mk ?_ ?_ ?_; (focus omega); (focus omega)))); (try (conv => whnf)); refine Choice.mk ⟨true, Choice.mk ⟨false, _, _, t1, ?_⟩⟩)
    ((repeat ((conv => whnf); first | (refine Sure.mk (by kernel_rfl) ?_) | (refine IfB.tt rfl ?_) | (refine IfB.ff rfl ?_) | (refine IfB.tt ?_ ?_; (focus (simp <;> fail))) | (refine IfB.ff ?_ ?_; (focus (simp <;> fail))) | (refine fits (wrap64 ?_ ?_) ?_; (focus omega); (focus omega)) | (refine fits (wrapU64 ?_ ?_) ?_; (focus omega); (focus omega)) | (refine Need.mk ?_ ?_; (focus omega)) | (refine InB.mk ?_ ?_ ?_; (focus omega); (focus omega)))); (try (conv => whnf)); refine IfB.ff (by simp; omega) ?_)
    ((repeat ((conv => whnf); first | (refine Sure.mk (by kernel_rfl) ?_) | (refine IfB.tt rfl ?_) | (refine IfB.ff rfl ?_) | (refine IfB.tt ?_ ?_; (focus (simp <;> fail))) | (refine IfB.ff ?_ ?_; (focus (simp <;> fail))) | (refine fits (wrap64 ?_ ?_) ?_; (focus omega); (focus omega)) | (refine fits (wrapU64 ?_ ?_) ?_; (focus omega); (focus omega)) | (refine Need.mk ?_ ?_; (focus omega)) | (refine InB.mk ?_ ?_ ?_; (focus omega); (focus omega)))); (try (conv => whnf)); refine IfB.ff (by simp; omega) ?_)
    ((repeat ((conv => whnf); first | (refine Sure.mk (by kernel_rfl) ?_) | (refine IfB.tt rfl ?_) | (refine IfB.ff rfl ?_) | (refine IfB.tt ?_ ?_; (focus (simp <;> fail))) | (refine IfB.ff ?_ ?_; (focus (simp <;> fail))) | (refine fits (wrap64 ?_ ?_) ?_; (focus omega); (focus omega)) | (refine fits (wrapU64 ?_ ?_) ?_; (focus omega); (focus omega)) | (refine Need.mk ?_ ?_; (focus omega)) | (refine InB.mk ?_ ?_ ?_; (focus omega); (focus omega)))); (try (conv => whnf)); refine IfB.ff (by simp; omega) ?_)
    ((repeat ((conv => whnf); first | (refine Sure.mk (by kernel_rfl) ?_) | (refine IfB.tt rfl ?_) | (refine IfB.ff rfl ?_) | (refine IfB.tt ?_ ?_; (focus (simp <;> fail))) | (refine IfB.ff ?_ ?_; (focus (simp <;> fail))) | (refine fits (wrap64 ?_ ?_) ?_; (focus omega); (focus omega)) | (refine fits (wrapU64 ?_ ?_) ?_; (focus omega); (focus omega)) | (refine Need.mk ?_ ?_; (focus omega)) | (refine InB.mk ?_ ?_ ?_; (focus omega); (focus omega)))); (try (conv => whnf)); refine IfB.ff (by simp; omega) ?_)
    ((repeat ((conv => whnf); first | (refine Sure.mk (by kernel_rfl) ?_) | (refine IfB.tt rfl ?_) | (refine IfB.ff rfl ?_) | (refine IfB.tt ?_ ?_; (focus (simp <;> fail))) | (refine IfB.ff ?_ ?_; (focus (simp <;> fail))) | (refine fits (wrap64 ?_ ?_) ?_; (focus omega); (focus omega)) | (refine fits (wrapU64 ?_ ?_) ?_; (focus omega); (focus omega)) | (refine Need.mk ?_ ?_; (focus omega)) | (refine InB.mk ?_ ?_ ?_; (focus omega); (focus omega)))); (try (conv => whnf)); refine IfB.ff (by simp; omega) ?_)
    ((repeat ((conv => whnf); first | (refine Sure.mk (by kernel_rfl) ?_) | (refine IfB.tt rfl ?_) | (refine IfB.ff rfl ?_) | (refine IfB.tt ?_ ?_; (focus (simp <;> fail))) | (refine IfB.ff ?_ ?_; (focus (simp <;> fail))) | (refine fits (wrap64 ?_ ?_) ?_; (focus omega); (focus omega)) | (refine fits (wrapU64 ?_ ?_) ?_; (focus omega); (focus omega)) | (refine Need.mk ?_ ?_; (focus omega)) | (refine InB.mk ?_ ?_ ?_; (focus omega); (focus omega)))); (try (conv => whnf)); refine IfB.ff (by simp; omega) ?_)
    ((repeat ((conv => whnf); first | (refine Sure.mk (by kernel_rfl) ?_) | (refine IfB.tt rfl ?_) | (refine IfB.ff rfl ?_) | (refine IfB.tt ?_ ?_; (focus (simp <;> fail))) | (refine IfB.ff ?_ ?_; (focus (simp <;> fail))) | (refine fits (wrap64 ?_ ?_) ?_; (focus omega); (focus omega)) | (refine fits (wrapU64 ?_ ?_) ?_; (focus omega); (focus omega)) | (refine Need.mk ?_ ?_; (focus omega)) | (refine InB.mk ?_ ?_ ?_; (focus omega); (focus omega)))); (try (conv => whnf)); refine IfB.tt (by simp; omega) ?_)
    ((repeat ((conv => whnf); first | (refine Sure.mk (by kernel_rfl) ?_) | (refine IfB.tt rfl ?_) | (refine IfB.ff rfl ?_) | (refine IfB.tt ?_ ?_; (focus (simp <;> fail))) | (refine IfB.ff ?_ ?_; (focus (simp <;> fail))) | (refine fits (wrap64 ?_ ?_) ?_; (focus omega); (focus omega)) | (refine fits (wrapU64 ?_ ?_) ?_; (focus omega); (focus omega)) | (refine Need.mk ?_ ?_; (focus omega)) | (refine InB.mk ?_ ?_ ?_; (focus omega); (focus omega)))); (try (conv => whnf)); refine Choice.mk ⟨true, Choice.mk ⟨false, _, _, t2, ?_⟩⟩)
    ((repeat ((conv => whnf); first | (refine Sure.mk (by kernel_rfl) ?_) | (refine IfB.tt rfl ?_) | (refine IfB.ff rfl ?_) | (refine IfB.tt ?_ ?_; (focus (simp <;> fail))) | (refine IfB.ff ?_ ?_; (focus (simp <;> fail))) | (refine fits (wrap64 ?_ ?_) ?_; (focus omega); (focus omega)) | (refine fits (wrapU64 ?_ ?_) ?_; (focus omega); (focus omega)) | (refine Need.mk ?_ ?_; (focus omega)) | (refine InB.mk ?_ ?_ ?_; (focus omega); (focus omega)))); (try (conv => whnf)); refine Choice.mk ⟨true, Choice.mk ⟨false, _, _, t3, ?_⟩⟩)
    ((repeat ((conv => whnf); first | (refine Sure.mk (by kernel_rfl) ?_) | (refine IfB.tt rfl ?_) | (refine IfB.ff rfl ?_) | (refine IfB.tt ?_ ?_; (focus (simp <;> fail))) | (refine IfB.ff ?_ ?_; (focus (simp <;> fail))) | (refine fits (wrap64 ?_ ?_) ?_; (focus omega); (focus omega)) | (refine fits (wrapU64 ?_ ?_) ?_; (focus omega); (focus omega)) | (refine Need.mk ?_ ?_; (focus omega)) | (refine InB.mk ?_ ?_ ?_; (focus omega); (focus omega)))); (try (conv => whnf)); exact RetN.mk ⟨[], rfl, rfl, rfl⟩)
  · subst h
    refine ⟨⟨9, 0, 0, 0, 0, 0⟩, p1, ?_, k1, ⟨by simp, by simp, by simp; omega, by simp, by simp, by simp, by simp, by simp, by simp, by simp, by simp⟩⟩
    refine told_of_ev (fn := mk_Picks_Op_fn) tabOk mixed (by kernel_rfl) (by kernel_rfl) (by kernel_rfl) (by kernel_rfl) ?_
    ((repeat ((conv => whnf); first | (refine Sure.mk (by kernel_rfl) ?_) | (refine IfB.tt rfl ?_) | (refine IfB.ff rfl ?_) | (refine IfB.tt ?_ ?_; (focus (simp <;> fail))) | (refine IfB.ff ?_ ?_; (focus (simp <;> fail))) | (refine fits (wrap64 ?_ ?_) ?_; (focus omega); (focus omega)) | (refine fits (wrapU64 ?_ ?_) ?_; (focus omega); (focus omega)) | (refine Need.mk ?_ ?_; (focus omega)) | (refine InB.mk ?_ ?_ ?_; (focus omega); (focus omega)))); (try (conv => whnf)); refine Choice.mk ⟨true, Choice.mk ⟨false, _, _, t1, ?_⟩⟩)
    ((repeat ((conv => whnf); first | (refine Sure.mk (by kernel_rfl) ?_) | (refine IfB.tt rfl ?_) | (refine IfB.ff rfl ?_) | (refine IfB.tt ?_ ?_; (focus (simp <;> fail))) | (refine IfB.ff ?_ ?_; (focus (simp <;> fail))) | (refine fits (wrap64 ?_ ?_) ?_; (focus omega); (focus omega)) | (refine fits (wrapU64 ?_ ?_) ?_; (focus omega); (focus omega)) | (refine Need.mk ?_ ?_; (focus omega)) | (refine InB.mk ?_ ?_ ?_; (focus omega); (focus omega)))); (try (conv => whnf)); exact RetN.mk ⟨[], rfl, rfl, rfl⟩)
  · subst h
    refine ⟨⟨10, 0, 0, 0, 0, 0⟩, p1, ?_, k1, ⟨by simp, by simp, by simp; omega, by simp, by simp, by simp, by simp, by simp, by simp, by simp, by simp⟩⟩
    refine told_of_ev (fn := mk_Picks_Op_fn) tabOk mixed (by kernel_rfl) (by kernel_rfl) (by kernel_rfl) (by kernel_rfl) ?_
    ((repeat ((conv => whnf); first | (refine Sure.mk (by kernel_rfl) ?_) | (refine IfB.tt rfl ?_) | (refine IfB.ff rfl ?_) | (refine IfB.tt ?_ ?_; (focus (simp <;> fail))) | (refine IfB.ff ?_ ?_; (focus (simp <;> fail))) | (refine fits (wrap64 ?_ ?_) ?_; (focus omega); (focus omega)) | (refine fits (wrapU64 ?_ ?_) ?_; (focus omega); (focus omega)) | (refine Need.mk ?_ ?_; (focus omega)) | (refine InB.mk ?_ ?_ ?_; (focus omega); (focus omega)))); (try (conv => whnf)); refine Choice.mk ⟨true, Choice.mk ⟨false, _, _, t1, ?_⟩⟩)
    ((repeat ((conv => whnf); first | (refine Sure.mk (by kernel_rfl) ?_) | (refine IfB.tt rfl ?_) | (refine IfB.ff rfl ?_) | (refine IfB.tt ?_ ?_; (focus (simp <;> fail))) | (refine IfB.ff ?_ ?_; (focus (simp <;> fail))) | (refine fits (wrap64 ?_ ?_) ?_; (focus omega); (focus omega)) | (refine fits (wrapU64 ?_ ?_) ?_; (focus omega); (focus omega)) | (refine Need.mk ?_ ?_; (focus omega)) | (refine InB.mk ?_ ?_ ?_; (focus omega); (focus omega)))); (try (conv => whnf)); exact RetN.mk ⟨[], rfl, rfl, rfl⟩)
  · obtain ⟨v, p2, t2, k2, b2⟩ := block_told hH ha p1 k1
    have t3 := num_told p2 k2 9 (by omega)
    have b3 := p2.num_lt (m := 9) (by omega)
    have t4 := num_told _ (k2.next 9) 256 (by omega)
    have b4 := (p2.next 9).num_lt (m := 256) (by omega)
    subst h
    refine ⟨⟨8, v, 0, 0, (p2.num 9 : Nat), ((p2.next 9).num 256 : Nat)⟩, (p2.next 9).next 256, ?_, (k2.next 9).next 256, ⟨by simp, b2, by simp; omega, by simp, by simp only; omega, by simp only; omega, by simp, by simp, by simp, by simp, by simp⟩⟩
    refine told_of_ev (fn := mk_Picks_Op_fn) tabOk mixed (by kernel_rfl) (by kernel_rfl) (by kernel_rfl) (by kernel_rfl) ?_
    ((repeat ((conv => whnf); first | (refine Sure.mk (by kernel_rfl) ?_) | (refine IfB.tt rfl ?_) | (refine IfB.ff rfl ?_) | (refine IfB.tt ?_ ?_; (focus (simp <;> fail))) | (refine IfB.ff ?_ ?_; (focus (simp <;> fail))) | (refine fits (wrap64 ?_ ?_) ?_; (focus omega); (focus omega)) | (refine fits (wrapU64 ?_ ?_) ?_; (focus omega); (focus omega)) | (refine Need.mk ?_ ?_; (focus omega)) | (refine InB.mk ?_ ?_ ?_; (focus omega); (focus omega)))); (try (conv => whnf)); refine Choice.mk ⟨true, Choice.mk ⟨false, _, _, t1, ?_⟩⟩)
    ((repeat ((conv => whnf); first | (refine Sure.mk (by kernel_rfl) ?_) | (refine IfB.tt rfl ?_) | (refine IfB.ff rfl ?_) | (refine IfB.tt ?_ ?_; (focus (simp <;> fail))) | (refine IfB.ff ?_ ?_; (focus (simp <;> fail))) | (refine fits (wrap64 ?_ ?_) ?_; (focus omega); (focus omega)) | (refine fits (wrapU64 ?_ ?_) ?_; (focus omega); (focus omega)) | (refine Need.mk ?_ ?_; (focus omega)) | (refine InB.mk ?_ ?_ ?_; (focus omega); (focus omega)))); (try (conv => whnf)); refine Choice.mk ⟨true, Choice.mk ⟨false, _, _, t2, ?_⟩⟩)
    ((repeat ((conv => whnf); first | (refine Sure.mk (by kernel_rfl) ?_) | (refine IfB.tt rfl ?_) | (refine IfB.ff rfl ?_) | (refine IfB.tt ?_ ?_; (focus (simp <;> fail))) | (refine IfB.ff ?_ ?_; (focus (simp <;> fail))) | (refine fits (wrap64 ?_ ?_) ?_; (focus omega); (focus omega)) | (refine fits (wrapU64 ?_ ?_) ?_; (focus omega); (focus omega)) | (refine Need.mk ?_ ?_; (focus omega)) | (refine InB.mk ?_ ?_ ?_; (focus omega); (focus omega)))); (try (conv => whnf)); refine Choice.mk ⟨true, Choice.mk ⟨false, _, _, t3, ?_⟩⟩)
    ((repeat ((conv => whnf); first | (refine Sure.mk (by kernel_rfl) ?_) | (refine IfB.tt rfl ?_) | (refine IfB.ff rfl ?_) | (refine IfB.tt ?_ ?_; (focus (simp <;> fail))) | (refine IfB.ff ?_ ?_; (focus (simp <;> fail))) | (refine fits (wrap64 ?_ ?_) ?_; (focus omega); (focus omega)) | (refine fits (wrapU64 ?_ ?_) ?_; (focus omega); (focus omega)) | (refine Need.mk ?_ ?_; (focus omega)) | (refine InB.mk ?_ ?_ ?_; (focus omega); (focus omega)))); (try (conv => whnf)); refine Choice.mk ⟨true, Choice.mk ⟨false, _, _, t4, ?_⟩⟩)
    ((repeat ((conv => whnf); first | (refine Sure.mk (by kernel_rfl) ?_) | (refine IfB.tt rfl ?_) | (refine IfB.ff rfl ?_) | (refine IfB.tt ?_ ?_; (focus (simp <;> fail))) | (refine IfB.ff ?_ ?_; (focus (simp <;> fail))) | (refine fits (wrap64 ?_ ?_) ?_; (focus omega); (focus omega)) | (refine fits (wrapU64 ?_ ?_) ?_; (focus omega); (focus omega)) | (refine Need.mk ?_ ?_; (focus omega)) | (refine InB.mk ?_ ?_ ?_; (focus omega); (focus omega)))); (try (conv => whnf)))
    refine fits (by rw [IntKind.wrap_u8]; omega) ?_
    ((repeat ((conv => whnf); first | (refine Sure.mk (by kernel_rfl) ?_) | (refine IfB.tt rfl ?_) | (refine IfB.ff rfl ?_) | (refine IfB.tt ?_ ?_; (focus (simp <;> fail))) | (refine IfB.ff ?_ ?_; (focus (simp <;> fail))) | (refine fits (wrap64 ?_ ?_) ?_; (focus omega); (focus omega)) | (refine fits (wrapU64 ?_ ?_) ?_; (focus omega); (focus omega)) | (refine Need.mk ?_ ?_; (focus omega)) | (refine InB.mk ?_ ?_ ?_; (focus omega); (focus omega)))); (try (conv => whnf)); exact RetN.mk ⟨[], rfl, rfl, rfl⟩)
end Go.Ev.W
namespace Go.Ev.W
open Go.Ev Go.Ev.N

set_option maxRecDepth 20000 in
set_option maxHeartbeats 4000000 in
theorem new17_told (r : Rw) : Told P T ref17_New [] [eR r] (.tup [eM (newM r).1, i64 ((newM r).2 : Nat)]) [] := by
  have c1 := refOf_told r
  have hok := ofF_ok (r := r)
  unfold newM
  generalize ofF r = R at *
  obtain ⟨c, e⟩ := R
  by_cases he : e = 0
  · subst he
    have hc : c.Ok := (hok rfl).1
    have hH := hc.h2
    have hpg := hc.pgpos
    have d1 : ((c.H : Nat) : Int).tdiv ((c.Pg : Nat) : Int) = ((c.H / c.Pg : Nat) : Int) := (Int.ofNat_tdiv c.H c.Pg).symm
    have d2 := Nat.div_le_self c.H c.Pg
    simp only [ne_eq, not_true_eq_false, if_false]
    generalize hD : c.H / c.Pg = D at *
    have c1 : Told P T ref1_Of [] [eR r] (.tup [eC c, i64 ((0 : Nat) : Int)]) [] := c1
    refine told_of_ev (fn := ref17_New_fn) tabOk mixed (by kernel_rfl) (by kernel_rfl) (by kernel_rfl) (by kernel_rfl) ?_
    ((repeat ((conv => whnf); first | (refine Sure.mk (by kernel_rfl) ?_) | (refine IfB.tt rfl ?_) | (refine IfB.ff rfl ?_) | (refine IfB.tt ?_ ?_; (focus (simp <;> fail))) | (refine IfB.ff ?_ ?_; (focus (simp <;> fail))) | (refine fits (wrap64 ?_ ?_) ?_; (focus omega); (focus omega)) | (refine fits (wrapU64 ?_ ?_) ?_; (focus omega); (focus omega)) | (refine Need.mk ?_ ?_; (focus omega)) | (refine InB.mk ?_ ?_ ?_; (focus omega); (focus omega)))); (try (conv => whnf)); refine Choice.mk ⟨false, Choice.mk ⟨false, _, _, c1, ?_⟩⟩)
    ((repeat ((conv => whnf); first | (refine Sure.mk (by kernel_rfl) ?_) | (refine IfB.tt rfl ?_) | (refine IfB.ff rfl ?_) | (refine IfB.tt ?_ ?_; (focus (simp <;> fail))) | (refine IfB.ff ?_ ?_; (focus (simp <;> fail))) | (refine fits (wrap64 ?_ ?_) ?_; (focus omega); (focus omega)) | (refine fits (wrapU64 ?_ ?_) ?_; (focus omega); (focus omega)) | (refine Need.mk ?_ ?_; (focus omega)) | (refine InB.mk ?_ ?_ ?_; (focus omega); (focus omega)))); (try (conv => whnf)))
    rw [d1]
    ((repeat ((conv => whnf); first | (refine Sure.mk (by kernel_rfl) ?_) | (refine IfB.tt rfl ?_) | (refine IfB.ff rfl ?_) | (refine IfB.tt ?_ ?_; (focus (simp <;> fail))) | (refine IfB.ff ?_ ?_; (focus (simp <;> fail))) | (refine fits (wrap64 ?_ ?_) ?_; (focus omega); (focus omega)) | (refine fits (wrapU64 ?_ ?_) ?_; (focus omega); (focus omega)) | (refine Need.mk ?_ ?_; (focus omega)) | (refine InB.mk ?_ ?_ ?_; (focus omega); (focus omega)))); (try (conv => whnf)); refine Room.mk (by first | omega | (simp; omega) | (simp <;> fail)) ?_)
    ((repeat ((conv => whnf); first | (refine Sure.mk (by kernel_rfl) ?_) | (refine IfB.tt rfl ?_) | (refine IfB.ff rfl ?_) | (refine IfB.tt ?_ ?_; (focus (simp <;> fail))) | (refine IfB.ff ?_ ?_; (focus (simp <;> fail))) | (refine fits (wrap64 ?_ ?_) ?_; (focus omega); (focus omega)) | (refine fits (wrapU64 ?_ ?_) ?_; (focus omega); (focus omega)) | (refine Need.mk ?_ ?_; (focus omega)) | (refine InB.mk ?_ ?_ ?_; (focus omega); (focus omega)))); (try (conv => whnf)); refine Room.mk (by first | omega | (simp; omega) | (simp <;> fail)) ?_)
    ((repeat ((conv => whnf); first | (refine Sure.mk (by kernel_rfl) ?_) | (refine IfB.tt rfl ?_) | (refine IfB.ff rfl ?_) | (refine IfB.tt ?_ ?_; (focus (simp <;> fail))) | (refine IfB.ff ?_ ?_; (focus (simp <;> fail))) | (refine fits (wrap64 ?_ ?_) ?_; (focus omega); (focus omega)) | (refine fits (wrapU64 ?_ ?_) ?_; (focus omega); (focus omega)) | (refine Need.mk ?_ ?_; (focus omega)) | (refine InB.mk ?_ ?_ ?_; (focus omega); (focus omega)))); (try (conv => whnf)); refine RetN.fz ⟨[true, true], [], rfl, ?_, rfl⟩)
    have hr1 : lT (List.replicate D false) = .lst t_bool (List.replicate D (.bool false)) := by unfold lT; rw [List.map_replicate]
    have hr2 : lU (List.replicate c.H 0) = .lst t_uint8 (List.replicate c.H (u8 0)) := by unfold lU; rw [List.map_replicate]
    refine Eq.trans ?_ (congrArg (fun z => AV.tup [z, i64 0]) (show AV.agg [i64 c.G, i64 c.N, i64 c.M, i64 c.L, i64 c.Pg, i64 c.P, i64 c.H, i64 c.Sd, lK [], i64 0, i64 0, i64 0, .lst t_bool (List.replicate ((D : Nat) : Int).toNat (.bool false)), .lst t_uint8 (List.replicate ((c.H : Nat) : Int).toNat (u8 0))] = eM ⟨c, [], 0, 0, 0, List.replicate D false, List.replicate c.H 0⟩ by
      rw [Int.toNat_natCast, Int.toNat_natCast, ← hr1, ← hr2]; rfl))
    rfl
  · simp only [ne_eq, he, not_false_eq_true, if_true]
    refine told_of_ev (fn := ref17_New_fn) tabOk mixed (by kernel_rfl) (by kernel_rfl) (by kernel_rfl) (by kernel_rfl) ?_
    have c1 : Told P T ref1_Of [] [eR r] (.tup [eC c, i64 ((e : Nat) : Int)]) [] := c1
    ((repeat ((conv => whnf); first | (refine Sure.mk (by kernel_rfl) ?_) | (refine IfB.tt rfl ?_) | (refine IfB.ff rfl ?_) | (refine IfB.tt ?_ ?_; (focus (simp <;> fail))) | (refine IfB.ff ?_ ?_; (focus (simp <;> fail))) | (refine fits (wrap64 ?_ ?_) ?_; (focus omega); (focus omega)) | (refine fits (wrapU64 ?_ ?_) ?_; (focus omega); (focus omega)) | (refine Need.mk ?_ ?_; (focus omega)) | (refine InB.mk ?_ ?_ ?_; (focus omega); (focus omega)))); (try (conv => whnf)); refine Choice.mk ⟨false, Choice.mk ⟨false, _, _, c1, ?_⟩⟩)
    ((repeat ((conv => whnf); first | (refine Sure.mk (by kernel_rfl) ?_) | (refine IfB.tt rfl ?_) | (refine IfB.ff rfl ?_) | (refine IfB.tt ?_ ?_; (focus (simp <;> fail))) | (refine IfB.ff ?_ ?_; (focus (simp <;> fail))) | (refine fits (wrap64 ?_ ?_) ?_; (focus omega); (focus omega)) | (refine fits (wrapU64 ?_ ?_) ?_; (focus omega); (focus omega)) | (refine Need.mk ?_ ?_; (focus omega)) | (refine InB.mk ?_ ?_ ?_; (focus omega); (focus omega)))); (try (conv => whnf)); refine IfB.tt (by simpa using he) ?_)
    ((repeat ((conv => whnf); first | (refine Sure.mk (by kernel_rfl) ?_) | (refine IfB.tt rfl ?_) | (refine IfB.ff rfl ?_) | (refine IfB.tt ?_ ?_; (focus (simp <;> fail))) | (refine IfB.ff ?_ ?_; (focus (simp <;> fail))) | (refine fits (wrap64 ?_ ?_) ?_; (focus omega); (focus omega)) | (refine fits (wrapU64 ?_ ?_) ?_; (focus omega); (focus omega)) | (refine Need.mk ?_ ?_; (focus omega)) | (refine InB.mk ?_ ?_ ?_; (focus omega); (focus omega)))); (try (conv => whnf)); exact RetN.fz ⟨[true, true], [], rfl, rfl, rfl⟩)
theorem newM_ok {r : Rw} (h : (newM r).2 = 0) : MoOk (newM r).1 := by
  have hok := ofF_ok (r := r)
  unfold newM at h ⊢
  split at h
  · rename_i h1; exact absurd h h1
  · rename_i h1
    rw [if_neg h1]
    have hc := (hok (Decidable.of_not_not h1)).1
    refine ⟨hc, ApB.nil _, by simp, by simp [totalB], by simp, by simp, by simp, by simp, ?_, by simp, ?_⟩
    · show cntB (List.replicate _ false) ≤ _
      unfold cntB
      rw [List.filter_eq_nil_iff.2 (by intro a ha; rw [List.eq_of_mem_replicate ha]; simp)]
      simp
    · intro x hx
      rw [List.eq_of_mem_replicate hx]; omega
end Go.Ev.W
namespace Go.Ev.W
open Go.Ev Go.Ev.N

open Classical in
noncomputable def opO (m : Mo) (p : Pk) : X.O := if h : MoOk m ∧ p.Ok then (op_told h.1.c h.1.a p h.2).choose else ⟨0, 0, 0, 0, 0, 0⟩
open Classical in
noncomputable def opP (m : Mo) (p : Pk) : Pk := if h : MoOk m ∧ p.Ok then (op_told h.1.c h.1.a p h.2).choose_spec.choose else p
theorem opO_spec {m : Mo} (hm : MoOk m) {p : Pk} (ok : p.Ok) : Told P T mk_Picks_Op [pkB p] [.ptr 0 0 0, eC m.c, lK m.bs] (X.encO (opO m p)) [pkB (opP m p)] ∧ (opP m p).Ok ∧ OpG m.c (opO m p) := by
  unfold opO opP
  rw [dif_pos ⟨hm, ok⟩, dif_pos ⟨hm, ok⟩]
  exact (op_told hm.c hm.a p ok).choose_spec.choose_spec
noncomputable def opsF : Nat → Mo → Pk → List X.O × Pk
  | 0, _, p => ([], p)
  | n + 1, m, p => if p.over = true then ([], p) else (opO m p :: (opsF n (doF m (opO m p)).1 (opP m p)).1, (opsF n (doF m (opO m p)).1 (opP m p)).2)
noncomputable def opsA (r : Rw) (n : Nat) (p : Pk) : List X.O × Pk := if (newM r).2 ≠ 0 then ([], p) else opsF n (newM r).1 p
theorem opsF_ok : ∀ (n : Nat) {m : Mo} {p : Pk}, MoOk m → p.Ok → (opsF n m p).2.Ok ∧ (opsF n m p).1.length ≤ n ∧ ∀ o ∈ (opsF n m p).1, OpG m.c o
  | 0, m, p, hm, ok => ⟨ok, by simp [opsF], by simp [opsF]⟩
  | n + 1, m, p, hm, ok => by
    unfold opsF
    split
    · exact ⟨ok, by simp, by simp⟩
    · obtain ⟨_, h2, h3⟩ := opO_spec hm ok
      have hd := doF_ok hm (h3.ok hm.c)
      obtain ⟨a, b, c⟩ := opsF_ok n hd.1 h2
      rw [hd.2] at c
      refine ⟨a, by simp; exact b, fun o ho => ?_⟩
      rcases List.mem_cons.1 ho with rfl | ho
      · exact h3
      · exact c o ho
theorem opsA_ok {r : Rw} (n : Nat) {p : Pk} (ok : p.Ok) : (opsA r n p).2.Ok ∧ (opsA r n p).1.length ≤ n ∧ ∀ o ∈ (opsA r n p).1, ∃ c : Cf, c.Ok ∧ OpG c o := by
  unfold opsA
  split
  · exact ⟨ok, by simp, by simp⟩
  · rename_i h
    have hm := newM_ok (Decidable.of_not_not h)
    obtain ⟨a, b, c⟩ := opsF_ok n hm ok
    exact ⟨a, b, fun o ho => ⟨_, hm.c, c o ho⟩⟩
set_option maxRecDepth 20000 in
set_option maxHeartbeats 8000000 in
theorem ops_told (r : Rw) {n : Nat} (hn : n ≤ 100000) {p : Pk} (ok : p.Ok) : Told P T mk_Picks_Ops [pkB p] [.ptr 0 0 0, eR r, i64 n] (.lst t_api_Op ((opsA r n p).1.map X.encO)) [pkB (opsA r n p).2] := by
  have c1 := new17_told r
  have hm0 := newM_ok (r := r)
  unfold opsA
  generalize newM r = M at *
  obtain ⟨m0, e⟩ := M
  by_cases he : e = 0
  · subst he
    have hm0 : MoOk m0 := hm0 rfl
    have c1 : Told P T ref17_New [] [eR r] (.tup [eM m0, i64 ((0 : Nat) : Int)]) [] := c1
    simp only [ne_eq, not_true_eq_false, if_false]
    refine told_of_ev (fn := mk_Picks_Ops_fn) tabOk mixed (by kernel_rfl) (by kernel_rfl) (by kernel_rfl) (by kernel_rfl) ?_
    ((repeat ((conv => whnf); first | (refine Sure.mk (by kernel_rfl) ?_) | (refine IfB.tt rfl ?_) | (refine IfB.ff rfl ?_) | (refine IfB.tt ?_ ?_; (focus (simp <;> fail))) | (refine IfB.ff ?_ ?_; (focus (simp <;> fail))) | (refine fits (wrap64 ?_ ?_) ?_; (focus omega); (focus omega)) | (refine fits (wrapU64 ?_ ?_) ?_; (focus omega); (focus omega)) | (refine Need.mk ?_ ?_; (focus omega)) | (refine InB.mk ?_ ?_ ?_; (focus omega); (focus omega)))); (try (conv => whnf)); refine Choice.mk ⟨false, Choice.mk ⟨false, _, _, c1, ?_⟩⟩)
    ((repeat ((conv => whnf); first | (refine Sure.mk (by kernel_rfl) ?_) | (refine IfB.tt rfl ?_) | (refine IfB.ff rfl ?_) | (refine IfB.tt ?_ ?_; (focus (simp <;> fail))) | (refine IfB.ff ?_ ?_; (focus (simp <;> fail))) | (refine fits (wrap64 ?_ ?_) ?_; (focus omega); (focus omega)) | (refine fits (wrapU64 ?_ ?_) ?_; (focus omega); (focus omega)) | (refine Need.mk ?_ ?_; (focus omega)) | (refine InB.mk ?_ ?_ ?_; (focus omega); (focus omega)))); (try (conv => whnf)); refine LoopN.mk ⟨[0,2,7,9,10], fun vs L => ∃ (k : Nat) (q : Pk) (m : Mo) (os : List X.O), vs = [.ptr 0 0 0, i64 n, .ptr 1 0 0, .ref 2, i64 k] ∧ L = [pkB q, .var (eM m), .row t_api_Op (os.map X.encO)] ∧ k ≤ n ∧ os.length = k ∧ q.Ok ∧ MoOk m ∧ opsF n m0 p = (os ++ (opsF (n - k) m q).1, (opsF (n - k) m q).2), fun vs L => match vs with | [_, _, _, _, .int _ i] => n - i.toNat | _ => 0, [], [3,7], rfl, ⟨0, p, m0, [], rfl, rfl, by omega, rfl, ok, hm0, rfl⟩, ?_⟩)
    rintro vs L ⟨k, q, m, os, rfl, rfl, hk, hos, okq, hm, he⟩
    have hom : (os.map X.encO).length = k := by rw [List.length_map]; exact hos
    by_cases hkn : k < n
    · obtain ⟨t1, t2, t3⟩ := opO_spec hm okq
      have hd := doF_ok hm (t3.ok hm.c)
      have t4 := do17_told hm (t3.ok hm.c)
      have hsf : opsF (n - k) m q = if q.over = true then ([], q) else (opO m q :: (opsF (n - (k + 1)) (doF m (opO m q)).1 (opP m q)).1, (opsF (n - (k + 1)) (doF m (opO m q)).1 (opP m q)).2) := by
        rw [show n - k = (n - (k + 1)) + 1 by omega]; rfl
      clear c1
      generalize opO m q = o at *
      generalize opP m q = q' at *
      generalize doF m o = D at *
      obtain ⟨m', an'⟩ := D
      have hma : (os ++ [o]).map X.encO = os.map X.encO ++ [X.encO o] := by simp
      simp only at hsf hd t4
      ((repeat ((conv => whnf); first | (refine Sure.mk (by kernel_rfl) ?_) | (refine IfB.tt rfl ?_) | (refine IfB.ff rfl ?_) | (refine IfB.tt ?_ ?_; (focus (simp <;> fail))) | (refine IfB.ff ?_ ?_; (focus (simp <;> fail))) | (refine fits (wrap64 ?_ ?_) ?_; (focus omega); (focus omega)) | (refine fits (wrapU64 ?_ ?_) ?_; (focus omega); (focus omega)) | (refine Need.mk ?_ ?_; (focus omega)) | (refine InB.mk ?_ ?_ ?_; (focus omega); (focus omega)))); (try (conv => whnf)); refine IfB.tt (by simp; omega) ?_)
      ((repeat ((conv => whnf); first | (refine Sure.mk (by kernel_rfl) ?_) | (refine IfB.tt rfl ?_) | (refine IfB.ff rfl ?_) | (refine IfB.tt ?_ ?_; (focus (simp <;> fail))) | (refine IfB.ff ?_ ?_; (focus (simp <;> fail))) | (refine fits (wrap64 ?_ ?_) ?_; (focus omega); (focus omega)) | (refine fits (wrapU64 ?_ ?_) ?_; (focus omega); (focus omega)) | (refine Need.mk ?_ ?_; (focus omega)) | (refine InB.mk ?_ ?_ ?_; (focus omega); (focus omega)))); (try (conv => whnf)); refine Choice.mk ⟨true, Choice.mk ⟨false, _, _, over_told' q, ?_⟩⟩)
      cases hov : q.over with
      | true =>
        rw [hov, if_pos rfl] at hsf
        rw [hsf, List.append_nil] at he
        rw [he]
        ((repeat ((conv => whnf); first | (refine Sure.mk (by kernel_rfl) ?_) | (refine IfB.tt rfl ?_) | (refine IfB.ff rfl ?_) | (refine IfB.tt ?_ ?_; (focus (simp <;> fail))) | (refine IfB.ff ?_ ?_; (focus (simp <;> fail))) | (refine fits (wrap64 ?_ ?_) ?_; (focus omega); (focus omega)) | (refine fits (wrapU64 ?_ ?_) ?_; (focus omega); (focus omega)) | (refine Need.mk ?_ ?_; (focus omega)) | (refine InB.mk ?_ ?_ ?_; (focus omega); (focus omega)))); (try (conv => whnf)); exact RetN.fz ⟨[true], [], rfl, rfl, rfl⟩)
      | false =>
        rw [hov, if_neg (by simp)] at hsf
        rw [hsf] at he
        ((repeat ((conv => whnf); first | (refine Sure.mk (by kernel_rfl) ?_) | (refine IfB.tt rfl ?_) | (refine IfB.ff rfl ?_) | (refine IfB.tt ?_ ?_; (focus (simp <;> fail))) | (refine IfB.ff ?_ ?_; (focus (simp <;> fail))) | (refine fits (wrap64 ?_ ?_) ?_; (focus omega); (focus omega)) | (refine fits (wrapU64 ?_ ?_) ?_; (focus omega); (focus omega)) | (refine Need.mk ?_ ?_; (focus omega)) | (refine InB.mk ?_ ?_ ?_; (focus omega); (focus omega)))); (try (conv => whnf)); refine Choice.mk ⟨true, Choice.mk ⟨false, _, _, t1, ?_⟩⟩)
        ((repeat ((conv => whnf); first | (refine Sure.mk (by kernel_rfl) ?_) | (refine IfB.tt rfl ?_) | (refine IfB.ff rfl ?_) | (refine IfB.tt ?_ ?_; (focus (simp <;> fail))) | (refine IfB.ff ?_ ?_; (focus (simp <;> fail))) | (refine fits (wrap64 ?_ ?_) ?_; (focus omega); (focus omega)) | (refine fits (wrapU64 ?_ ?_) ?_; (focus omega); (focus omega)) | (refine Need.mk ?_ ?_; (focus omega)) | (refine InB.mk ?_ ?_ ?_; (focus omega); (focus omega)))); (try (conv => whnf)); refine Room.mk (by first | omega | (simp; omega) | (simp <;> fail)) ?_)
        ((repeat ((conv => whnf); first | (refine Sure.mk (by kernel_rfl) ?_) | (refine IfB.tt rfl ?_) | (refine IfB.ff rfl ?_) | (refine IfB.tt ?_ ?_; (focus (simp <;> fail))) | (refine IfB.ff ?_ ?_; (focus (simp <;> fail))) | (refine fits (wrap64 ?_ ?_) ?_; (focus omega); (focus omega)) | (refine fits (wrapU64 ?_ ?_) ?_; (focus omega); (focus omega)) | (refine Need.mk ?_ ?_; (focus omega)) | (refine InB.mk ?_ ?_ ?_; (focus omega); (focus omega)))); (try (conv => whnf)); refine Choice.mk ⟨false, Choice.mk ⟨false, _, _, t4, ?_⟩⟩)
        ((repeat ((conv => whnf); first | (refine Sure.mk (by kernel_rfl) ?_) | (refine IfB.tt rfl ?_) | (refine IfB.ff rfl ?_) | (refine IfB.tt ?_ ?_; (focus (simp <;> fail))) | (refine IfB.ff ?_ ?_; (focus (simp <;> fail))) | (refine fits (wrap64 ?_ ?_) ?_; (focus omega); (focus omega)) | (refine fits (wrapU64 ?_ ?_) ?_; (focus omega); (focus omega)) | (refine Need.mk ?_ ?_; (focus omega)) | (refine InB.mk ?_ ?_ ?_; (focus omega); (focus omega)))); (try (conv => whnf)); refine ⟨[], [1,5], rfl, ⟨k + 1, q', m', os ++ [o], rfl, by rw [hma]; rfl, hkn, by simp [hos], t2, hd.1, by rw [he]; simp⟩, (by omega : n - ((k : Int) + 1).toNat < n - (k : Int).toNat)⟩)
    · have e : k = n := by omega
      subst e
      rw [Nat.sub_self] at he
      have he : opsF k m0 p = (os, q) := by rw [he]; simp [opsF]
      rw [he]
      ((repeat ((conv => whnf); first | (refine Sure.mk (by kernel_rfl) ?_) | (refine IfB.tt rfl ?_) | (refine IfB.ff rfl ?_) | (refine IfB.tt ?_ ?_; (focus (simp <;> fail))) | (refine IfB.ff ?_ ?_; (focus (simp <;> fail))) | (refine fits (wrap64 ?_ ?_) ?_; (focus omega); (focus omega)) | (refine fits (wrapU64 ?_ ?_) ?_; (focus omega); (focus omega)) | (refine Need.mk ?_ ?_; (focus omega)) | (refine InB.mk ?_ ?_ ?_; (focus omega); (focus omega)))); (try (conv => whnf)); exact RetN.fz ⟨[true], [], rfl, rfl, rfl⟩)
  · simp only [ne_eq, he, not_false_eq_true, if_true]
    have c1 : Told P T ref17_New [] [eR r] (.tup [eM m0, i64 ((e : Nat) : Int)]) [] := c1
    refine told_of_ev (fn := mk_Picks_Ops_fn) tabOk mixed (by kernel_rfl) (by kernel_rfl) (by kernel_rfl) (by kernel_rfl) ?_
    ((repeat ((conv => whnf); first | (refine Sure.mk (by kernel_rfl) ?_) | (refine IfB.tt rfl ?_) | (refine IfB.ff rfl ?_) | (refine IfB.tt ?_ ?_; (focus (simp <;> fail))) | (refine IfB.ff ?_ ?_; (focus (simp <;> fail))) | (refine fits (wrap64 ?_ ?_) ?_; (focus omega); (focus omega)) | (refine fits (wrapU64 ?_ ?_) ?_; (focus omega); (focus omega)) | (refine Need.mk ?_ ?_; (focus omega)) | (refine InB.mk ?_ ?_ ?_; (focus omega); (focus omega)))); (try (conv => whnf)); refine Choice.mk ⟨false, Choice.mk ⟨false, _, _, c1, ?_⟩⟩)
    ((repeat ((conv => whnf); first | (refine Sure.mk (by kernel_rfl) ?_) | (refine IfB.tt rfl ?_) | (refine IfB.ff rfl ?_) | (refine IfB.tt ?_ ?_; (focus (simp <;> fail))) | (refine IfB.ff ?_ ?_; (focus (simp <;> fail))) | (refine fits (wrap64 ?_ ?_) ?_; (focus omega); (focus omega)) | (refine fits (wrapU64 ?_ ?_) ?_; (focus omega); (focus omega)) | (refine Need.mk ?_ ?_; (focus omega)) | (refine InB.mk ?_ ?_ ?_; (focus omega); (focus omega)))); (try (conv => whnf)); refine IfB.tt (by simpa using he) ?_)
    ((repeat ((conv => whnf); first | (refine Sure.mk (by kernel_rfl) ?_) | (refine IfB.tt rfl ?_) | (refine IfB.ff rfl ?_) | (refine IfB.tt ?_ ?_; (focus (simp <;> fail))) | (refine IfB.ff ?_ ?_; (focus (simp <;> fail))) | (refine fits (wrap64 ?_ ?_) ?_; (focus omega); (focus omega)) | (refine fits (wrapU64 ?_ ?_) ?_; (focus omega); (focus omega)) | (refine Need.mk ?_ ?_; (focus omega)) | (refine InB.mk ?_ ?_ ?_; (focus omega); (focus omega)))); (try (conv => whnf)); exact RetN.fz ⟨[true], [], rfl, rfl, rfl⟩)
end Go.Ev.W
namespace Go.Ev
end Go.Ev
namespace Go.Ev.X
open Go.Ev Go.Ev.N

def fieldsOf (k : Int) : List UInt8 :=
  if k = 1 then [83] else if k = 2 then [78, 83] else if k = 3 then [83, 65] else if k = 4 then [80, 83] else if k = 5 then [80] else if k = 6 then [80] else if k = 7 then [80, 78] else if k = 8 then [80, 78] else []

theorem fields_told (k : Int) : Told P T wire_fields [] [.int .i64 k] (.str ⟨(fieldsOf k).toArray⟩) [] := by
  refine told_of_ev (fn := wire_fields_fn) tabOk mixed (by kernel_rfl) (by kernel_rfl) (by kernel_rfl) (by kernel_rfl) ?_
  refine IfB.mk (fun h1 => ?_) (fun h1 => ?_)
  · refine RetN.mk ⟨[], rfl, ?_, rfl⟩
    simp only [beq_iff_eq] at h1; subst h1; rfl
  refine IfB.mk (fun h2 => ?_) (fun h2 => ?_)
  · refine RetN.mk ⟨[], rfl, ?_, rfl⟩
    simp only [beq_iff_eq] at h2; subst h2; rfl
  refine IfB.mk (fun h3 => ?_) (fun h3 => ?_)
  · refine RetN.mk ⟨[], rfl, ?_, rfl⟩
    simp only [beq_iff_eq] at h3; subst h3; rfl
  refine IfB.mk (fun h4 => ?_) (fun h4 => ?_)
  · refine RetN.mk ⟨[], rfl, ?_, rfl⟩
    simp only [beq_iff_eq] at h4; subst h4; rfl
  refine IfB.mk (fun h5 => ?_) (fun h5 => ?_)
  · refine IfB.tt h5 ?_
    refine RetN.mk ⟨[], rfl, ?_, rfl⟩
    simp only [beq_iff_eq] at h5; subst h5; rfl
  refine IfB.mk (fun h6 => ?_) (fun h6 => ?_)
  · refine RetN.mk ⟨[], rfl, ?_, rfl⟩
    simp only [beq_iff_eq] at h6; subst h6; rfl
  refine IfB.mk (fun h7 => ?_) (fun h7 => ?_)
  · refine IfB.tt h7 ?_
    refine RetN.mk ⟨[], rfl, ?_, rfl⟩
    simp only [beq_iff_eq] at h7; subst h7; rfl
  refine IfB.mk (fun h8 => ?_) (fun h8 => ?_)
  · refine RetN.mk ⟨[], rfl, ?_, rfl⟩
    simp only [beq_iff_eq] at h8; subst h8; rfl
  · refine RetN.mk ⟨[], rfl, ?_, rfl⟩
    show AV.str _ = AV.str _
    simp only [beq_eq_false_iff_ne, ne_eq] at h1 h2 h3 h4 h5 h6 h7 h8
    simp [fieldsOf, *]

/-- Which cell a letter names. -/
def cellOf (b : Int) : Nat := if b = 80 then 1 else if b = 83 then 2 else if b = 65 then 3 else 4

theorem field_told (o : O) (b : Int) : Told P T wire_field [.var (encO o)] [.ptr 0 0 0, .int .u8 b] (.ptr 0 0 (cellOf b)) [.var (encO o)] := by
  refine told_of_ev (fn := wire_field_fn) tabOk mixed (by kernel_rfl) (by kernel_rfl) (by kernel_rfl) (by kernel_rfl) ?_
  refine IfB.mk (fun h1 => ?_) (fun h1 => ?_)
  · refine RetN.mk ⟨[], rfl, ?_, rfl⟩
    simp only [beq_iff_eq] at h1; subst h1; rfl
  refine IfB.mk (fun h2 => ?_) (fun h2 => ?_)
  · refine RetN.mk ⟨[], rfl, ?_, rfl⟩
    simp only [beq_iff_eq] at h2; subst h2; rfl
  refine IfB.mk (fun h3 => ?_) (fun h3 => ?_)
  · refine RetN.mk ⟨[], rfl, ?_, rfl⟩
    simp only [beq_iff_eq] at h3; subst h3; rfl
  · refine RetN.mk ⟨[], rfl, ?_, rfl⟩
    show AV.ptr 0 0 4 = AV.ptr 0 0 _
    simp only [beq_eq_false_iff_ne, ne_eq] at h1 h2 h3
    simp [cellOf, *]

/-- A call's number. -/
def setO (o : O) (b : UInt8) (v : Int) : O := if b = 80 then { o with p := v } else if b = 83 then { o with s := v } else if b = 65 then { o with a := v } else { o with n := v }
def rd3 (a b c : Int) : Int := a * 65536 + b * 256 + c
def fillO : List UInt8 → List Int → O → O × Option (List Int)
  | [], bs, o => (o, some bs)
  | f :: fs, b0 :: b1 :: b2 :: bs, o => fillO fs bs (setO o f (rd3 b0 b1 b2))
  | _ :: _, _, o => (o, none)
def IsB (bs : List Int) : Prop := ∀ b ∈ bs, 0 ≤ b ∧ b < 256
def encB (bs : List Int) : List AV := bs.map fun b => .int .u8 b

/-- What stands behind a kind: the call, how many bytes, is it there? -/
def one (k : Int) (bs : List Int) : O × Nat × Bool :=
  match fillO (fieldsOf k) bs ⟨k, 0, 0, 0, 0, 0⟩ with
  | (o, .none) => (o, 0, false)
  | (o, some r) => if k ≠ 8 then (o, bs.length - r.length, true) else match r with
    | [] => (o, 0, false)
    | b :: _ => ({ o with b := b }, bs.length - r.length + 1, true)

theorem or_add (x y : Nat) (i : Nat) (hy : y < 2 ^ i) (hx : x * 2 ^ i + y < 9223372036854775808) : bitsOp .or .i64 ((x * 2 ^ i : Nat) : Int) (y : Int) = ((x * 2 ^ i + y : Nat) : Int) := by
  generalize hX : x * 2 ^ i = X at hx
  have h1 : X < 2 ^ 64 := by omega
  have h2 : y < 2 ^ 64 := by omega
  have e : (BitVec.ofInt 64 (X : Int) ||| BitVec.ofInt 64 (y : Int)).toNat = X + y := by
    rw [BitVec.toNat_or, BitVec.ofInt_natCast, BitVec.ofInt_natCast, BitVec.toNat_ofNat, BitVec.toNat_ofNat, Nat.mod_eq_of_lt h1, Nat.mod_eq_of_lt h2]
    rw [← hX, ← Nat.shiftLeft_eq, ← Nat.shiftLeft_add_eq_or_of_lt hy]
  show IntKind.i64.wrap ((BitVec.ofInt 64 (X : Int) ||| BitVec.ofInt 64 (y : Int)).toNat : Int) = _
  rw [e]
  exact wrap64 (by omega) (by omega)

theorem rd3_cast (x y z : Nat) : (((x * 256 + y) * 256 + z : Nat) : Int) = rd3 x y z := by
  simp only [rd3]
  omega
theorem rd3_or {a b c : Int} (ha : 0 ≤ a ∧ a < 256) (hb : 0 ≤ b ∧ b < 256) (hc : 0 ≤ c ∧ c < 256) : bitsOp .or .i64 (bitsOp .or .i64 (a * 65536) (b * 256)) c = rd3 a b c := by
  obtain ⟨x, rfl⟩ := Int.eq_ofNat_of_zero_le ha.1
  obtain ⟨y, rfl⟩ := Int.eq_ofNat_of_zero_le hb.1
  obtain ⟨z, rfl⟩ := Int.eq_ofNat_of_zero_le hc.1
  have h1 := or_add x (y * 256) 16 (by omega) (by omega)
  have e1 : ((x * 2 ^ 16 : Nat) : Int) = (x : Int) * 65536 := by simp
  have e2 : ((y * 256 : Nat) : Int) = (y : Int) * 256 := by simp
  rw [e1, e2] at h1
  rw [h1]
  have h2 := or_add (x * 256 + y) z 8 (by omega) (by omega)
  rw [show (2 : Nat) ^ 8 = 256 from rfl] at h2
  rw [show (2 : Nat) ^ 16 = 65536 from rfl]
  rw [show x * 65536 + y * 256 = (x * 256 + y) * 256 by omega, h2]
  exact rd3_cast x y z
end Go.Ev.X
namespace Go.Ev.X
open Go.Ev Go.Ev.N

/-- The letters, as bytes. -/
def encL (fs : List UInt8) : List AV := fs.map fun b => .int .u8 b.toNat

theorem fieldsOf_mem (k : Int) : ∀ f ∈ fieldsOf k, f = 80 ∨ f = 83 ∨ f = 65 ∨ f = 78 := by
  unfold fieldsOf
  repeat' split
  all_goals simp
theorem fieldsOf_len (k : Int) : (fieldsOf k).length ≤ 2 := by
  unfold fieldsOf
  repeat' split
  all_goals simp
theorem encL_len (fs : List UInt8) : (encL fs).length = fs.length := by simp [encL]

theorem fillO_step {fs : List UInt8} {bs : List Int} {o : O} {i : Nat} (hi : i < fs.length) (h3 : 3 * i + 3 ≤ bs.length) :
    fillO (fs.drop i) (bs.drop (3 * i)) o = fillO (fs.drop (i + 1)) (bs.drop (3 * (i + 1))) (setO o fs[i] (rd3 (bs[3 * i]'(by omega)) (bs[3 * i + 1]'(by omega)) (bs[3 * i + 2]'(by omega)))) := by
  rw [List.drop_eq_getElem_cons hi, List.drop_eq_getElem_cons (show 3 * i < bs.length by omega), List.drop_eq_getElem_cons (show 3 * i + 1 < bs.length by omega), List.drop_eq_getElem_cons (show 3 * i + 1 + 1 < bs.length by omega)]
  rfl
theorem fillO_short {fs : List UInt8} {bs : List Int} {o : O} {i : Nat} (hi : i < fs.length) (h3 : ¬ 3 * i + 3 ≤ bs.length) : fillO (fs.drop i) (bs.drop (3 * i)) o = (o, .none) := by
  rw [List.drop_eq_getElem_cons hi]
  have hl : (bs.drop (3 * i)).length < 3 := by simp; omega
  match bs.drop (3 * i), hl with
  | [], _ => rfl
  | [_], _ => rfl
  | [_, _], _ => rfl
  | _ :: _ :: _ :: _, h => simp at h; omega

theorem wrap16 {b : Int} (hb : 0 ≤ b ∧ b < 256) : IntKind.i64.wrap b = b := wrap64 (by omega) (by omega)

theorem fits' {k : IntKind} {n m : Int} {Q : Int → Prop} (h : k.wrap n = n) (e : n = m) (q : Q m) : Fits k n Q := ⟨by rw [h, e]; exact q⟩

set_option maxHeartbeats 4000000 in
theorem one_told (k : Int) (bs : List Int) (hb : IsB bs) (hl : bs.length ≤ 1000000) :
    Told P T wire_one [] [.int .i64 k, .lst t_uint8 (encB bs)] (.tup [encO (one k bs).1, .int .i64 ((one k bs).2.1 : Nat), .bool (one k bs).2.2]) [] := by
  have hbl : (encB bs).length = bs.length := by simp [encB]
  have at' : ∀ i (h : i < bs.length), (encB bs)[i]? = some (.int .u8 bs[i]) := fun i h => by simp [encB, h]
  refine told_of_ev (fn := wire_one_fn) tabOk mixed (by kernel_rfl) (by kernel_rfl) (by kernel_rfl) (by kernel_rfl) ?_
  refine Choice.mk ⟨false, Choice.mk ⟨true, _, _, fields_told k, ?_⟩⟩
  refine Room.mk (Nat.le_trans (fieldsOf_len k) (by decide)) ?_
  refine LoopN.mk ⟨[0, 1, 4, 5, 13, 14, 15], fun vs L => ∃ (i : Nat) (o : O), vs = [.int .i64 k, .lst t_uint8 (encB bs), .ptr 0 0 0, .int .i64 ((3 * i : Nat) : Int), .ref 1, .int .i64 (encL (fieldsOf k)).length, .int .i64 (i : Nat)] ∧ L = [.var (encO o), .row t_uint8 (encL (fieldsOf k))] ∧
      i ≤ (fieldsOf k).length ∧ 3 * i ≤ bs.length ∧ fillO (fieldsOf k) bs ⟨k, 0, 0, 0, 0, 0⟩ = fillO ((fieldsOf k).drop i) (bs.drop (3 * i)) o,
    fun vs L => match vs with | [_, _, _, _, _, _, .int _ i] => (fieldsOf k).length - i.toNat | _ => 0, [], [0, 1], rfl, ⟨0, ⟨k, 0, 0, 0, 0, 0⟩, rfl, rfl, Nat.zero_le _, Nat.zero_le _, rfl⟩, ?_⟩
  rintro vs L ⟨i, o, rfl, rfl, hi, h3, hf⟩
  refine IfB.mk (fun h1 => ?_) (fun h1 => ?_)
  · have hlt : i < (fieldsOf k).length := by simpa [encL_len] using h1
    have hl2 := fieldsOf_len k
    obtain ⟨f, hff, hfm⟩ : ∃ f, (fieldsOf k)[i] = f ∧ (f = 80 ∨ f = 83 ∨ f = 65 ∨ f = 78) := ⟨_, rfl, fieldsOf_mem k _ (List.getElem_mem hlt)⟩
    refine InB.mk (by omega) (by rw [encL_len]; omega) ?_
    refine At.mk ⟨.int .u8 f.toNat, by simp [encL, hlt, hff], ?_⟩
    refine fits (wrap64 (by rw [hbl]; omega) (by rw [hbl]; omega)) ?_
    refine IfB.mk (fun h2 => ?_) (fun h2 => ?_)
    · refine RetN.mk ⟨[], rfl, ?_, rfl⟩
      have h4 : ¬ 3 * i + 3 ≤ bs.length := by
        have := of_decide_eq_true h2; rw [hbl] at this; omega
      have : one k bs = (o, 0, false) := by unfold one; rw [hf, fillO_short hlt h4]
      rw [this]; rfl
    · have h4 : 3 * i + 3 ≤ bs.length := by
        have := of_decide_eq_false h2; rw [hbl] at this; omega
      have b0 := hb _ (List.getElem_mem (show 3 * i < bs.length by omega))
      have b1 := hb _ (List.getElem_mem (show 3 * i + 1 < bs.length by omega))
      have b2 := hb _ (List.getElem_mem (show 3 * i + 2 < bs.length by omega))
      have step := fillO_step (o := o) hlt h4
      have hor := rd3_or b0 b1 b2
      rcases hfm with rfl | rfl | rfl | rfl
      all_goals
        refine Choice.mk ⟨true, Choice.mk ⟨false, _, _, field_told o _, ?_⟩⟩
        refine Idx.mk ⟨_, by omega, at' (3 * i) (by omega), ?_⟩
        refine fits (wrap16 b0) ?_
        refine Need.mk (by decide) ?_
        refine fits' (m := bs[3 * i] * 65536) (wrap64 (by simp [IntKind.bits]; omega) (by simp [IntKind.bits]; omega)) (by simp [IntKind.bits]) ?_
        refine fits (wrap64 (by omega) (by omega)) ?_
        refine Idx.mk ⟨_, by omega, at' (3 * i + 1) (by omega), ?_⟩
        refine fits (wrap16 b1) ?_
        refine Need.mk (by decide) ?_
        refine fits' (m := bs[3 * i + 1] * 256) (wrap64 (by simp [IntKind.bits]; omega) (by simp [IntKind.bits]; omega)) (by simp [IntKind.bits]) ?_
        refine fits (wrap64 (by omega) (by omega)) ?_
        refine Idx.mk ⟨_, by omega, at' (3 * i + 2) (by omega), ?_⟩
        refine fits (wrap16 b2) ?_
        refine Sure.mk (by kernel_rfl) ?_
        rw [hor]
        refine fits (wrap64 (by omega) (by omega)) ?_
        refine fits (wrap64 (by omega) (by omega)) ?_
        refine ⟨[], [0, 1], rfl, ⟨i + 1, setO o (fieldsOf k)[i] (rd3 bs[3 * i] bs[3 * i + 1] bs[3 * i + 2]), ?_, ?_, hlt, by omega, hf.trans step⟩, ?_⟩
        · rw [show (((3 * (i + 1) : Nat)) : Int) = ((3 * i : Nat) : Int) + 3 by omega, show (((i + 1 : Nat)) : Int) = ((i : Nat) : Int) + 1 by omega]
          rfl
        · rw [hff]; rfl
        · show (fieldsOf k).length - (((i : Nat) : Int) + 1).toNat < (fieldsOf k).length - ((i : Nat) : Int).toNat
          omega
  · have hge : i = (fieldsOf k).length := by
      have : ¬ i < (fieldsOf k).length := by simpa [encL_len] using h1
      omega
    have hfin : fillO (fieldsOf k) bs ⟨k, 0, 0, 0, 0, 0⟩ = (o, some (bs.drop (3 * i))) := by
      rw [hf, hge, List.drop_length]; rfl
    have hrest : bs.length - (bs.drop (3 * i)).length = 3 * i := by simp; omega
    refine IfB.mk (fun h5 => ?_) (fun h5 => ?_)
    · refine RetN.mk ⟨[], rfl, ?_, rfl⟩
      have hk : k ≠ 8 := by simpa using h5
      have : one k bs = (o, 3 * i, true) := by unfold one; rw [hfin]; simp only [if_pos hk, hrest]
      rw [this]; rfl
    · have hk : k = 8 := by simpa using h5
      refine IfB.mk (fun h6 => ?_) (fun h6 => ?_)
      · refine RetN.mk ⟨[], rfl, ?_, rfl⟩
        have h7 : bs.length ≤ 3 * i := by have := of_decide_eq_true h6; rw [hbl] at this; omega
        have : one k bs = (o, 0, false) := by
          unfold one; rw [hfin]
          simp only [ne_eq, hk, not_true, if_false, List.drop_eq_nil_of_le h7]
        rw [this]; rfl
      · have h7 : 3 * i < bs.length := by have := of_decide_eq_false h6; rw [hbl] at this; omega
        refine Idx.mk ⟨_, by omega, at' (3 * i) h7, ?_⟩
        refine fits (wrap64 (by omega) (by omega)) ?_
        refine RetN.mk ⟨[], rfl, ?_, rfl⟩
        have : one k bs = ({ o with b := bs[3 * i] }, 3 * i + 1, true) := by
          unfold one; rw [hfin]
          simp only [ne_eq, hk, not_true, if_false, List.drop_eq_getElem_cons h7]
          rw [← List.drop_eq_getElem_cons h7, hrest]
        rw [this]
        show AV.tup [_, .int .i64 (((3 * i : Nat) : Int) + 1), _] = AV.tup [_, .int .i64 ((3 * i + 1 : Nat) : Int), _]
        rw [show ((3 * i + 1 : Nat) : Int) = ((3 * i : Nat) : Int) + 1 by omega]
        rfl
end Go.Ev.X
namespace Go.Ev.X
open Go.Ev Go.Ev.N

def takeF : Nat → List Int → List O
  | 0, _ => []
  | _ + 1, [] => []
  | f + 1, b :: bs => if b % 11 = 0 then takeF f bs else match one (b % 11) bs with
    | (o, n, true) => o :: takeF f (bs.drop n)
    | (_, _, false) => []
def take (bs : List Int) : List O := takeF bs.length bs

theorem takeF_more : ∀ (f : Nat) (bs : List Int), bs.length ≤ f → takeF f bs = take bs := by
  intro f
  induction f using Nat.strongRecOn with
  | _ f ih =>
    intro bs hf
    cases bs with
    | nil => cases f <;> rfl
    | cons b bs =>
      cases f with
      | zero => simp at hf
      | succ f =>
        simp only [List.length_cons] at hf
        have e : ∀ m, m ≤ bs.length → takeF f (bs.drop m) = takeF bs.length (bs.drop m) := fun m hm => by
          rw [ih f (by omega) _ (by simp; omega)]
          rcases Nat.lt_or_ge bs.length (f + 1) with h | h
          · exact (ih bs.length (by omega) _ (by simp)).symm
          · omega
        have e0 := e 0 (Nat.zero_le _)
        simp only [List.drop_zero] at e0
        unfold take
        simp only [List.length_cons, takeF]
        rw [e0]
        split
        · rfl
        · split
          · rename_i o n _
            rcases Nat.lt_or_ge bs.length n with h | h
            · rw [List.drop_eq_nil_of_le (by omega)]; cases f <;> cases bs.length <;> rfl
            · rw [e n h]
          · rfl

theorem take_nil : take [] = [] := rfl
theorem take_cons (b : Int) (bs : List Int) : take (b :: bs) = if b % 11 = 0 then take bs else match one (b % 11) bs with
    | (o, n, true) => o :: take (bs.drop n)
    | (_, _, false) => [] := by
  show takeF (bs.length + 1) (b :: bs) = _
  simp only [takeF]
  split
  · rfl
  · split
    · rename_i o n _
      rw [takeF_more _ _ (by simp)]
    · rfl
end Go.Ev.X
namespace Go.Ev.X
open Go.Ev Go.Ev.N

theorem IsB.tail {b : Int} {bs : List Int} (h : IsB (b :: bs)) : IsB bs := fun x hx => h x (by simp [hx])
theorem IsB.drop {bs : List Int} (h : IsB bs) (n : Nat) : IsB (bs.drop n) := fun x hx => h x (List.mem_of_mem_drop hx)
theorem encB_drop (bs : List Int) (n : Nat) : (encB bs).drop n = encB (bs.drop n) := by simp [encB, List.map_drop]

theorem fillO_len : ∀ (fs : List UInt8) (bs : List Int) (o o' : O) (r : List Int), fillO fs bs o = (o', some r) → r.length ≤ bs.length
  | [], bs, o, o', r, h => by simp [fillO] at h; rw [h.2]; exact Nat.le_refl _
  | f :: fs, [], o, o', r, h => by simp [fillO] at h
  | f :: fs, [_], o, o', r, h => by simp [fillO] at h
  | f :: fs, [_, _], o, o', r, h => by simp [fillO] at h
  | f :: fs, _ :: _ :: _ :: bs, o, o', r, h => by
    have := fillO_len fs bs _ o' r h
    simp only [List.length_cons]; omega
theorem one_len (k : Int) (bs : List Int) : (one k bs).2.1 ≤ bs.length := by
  unfold one
  split
  · exact Nat.zero_le _
  · rename_i o r h
    have := fillO_len _ _ _ _ _ h
    split
    · exact Nat.sub_le _ _
    · split
      · exact Nat.zero_le _
      · simp only [List.length_cons] at this ⊢; omega

set_option maxHeartbeats 4000000 in
theorem take_told (bs : List Int) (hb : IsB bs) (hl : bs.length ≤ 1000000) : Told P T wire_Take [] [.lst t_uint8 (encB bs)] (.ref 0) [.row t_api_Op ((take bs).map encO)] := by
  refine told_of_ev (fn := wire_Take_fn) tabOk mixed (by kernel_rfl) (by kernel_rfl) (by kernel_rfl) (by kernel_rfl) ?_
  refine LoopN.mk ⟨[0, 2], fun vs L => ∃ (r : List Int) (acc : List O), vs = [.lst t_uint8 (encB r), .ref 0] ∧ L = [.row t_api_Op (acc.map encO)] ∧ IsB r ∧ r.length ≤ 1000000 ∧ acc.length + r.length ≤ bs.length ∧ take bs = acc ++ take r,
    fun vs L => match vs with | [.lst _ es, _] => es.length | _ => 0, [], [0], rfl, ⟨bs, [], rfl, rfl, hb, hl, by simp, rfl⟩, ?_⟩
  rintro vs L ⟨r, acc, rfl, rfl, hr, hrl, hacc, ht⟩
  refine IfB.mk (fun h1 => ?_) (fun h1 => ?_)
  · cases r with
    | nil => simp [encB] at h1
    | cons b r =>
      have hb0 := hr b (by simp)
      refine Idx.mk ⟨.int .u8 b, by omega, rfl, ?_⟩
      refine fits (wrap16 hb0) ?_
      refine Need.mk (by decide) ?_
      refine Cut.mk (by decide) (by simp [encB]; omega) (Int.le_refl _) ?_
      have hrem : b.tmod 11 = b % 11 := Int.tmod_eq_emod_of_nonneg hb0.1
      refine IfB.mk (fun h2 => ?_) (fun h2 => ?_)
      · have h0 : b % 11 = 0 := by rw [← hrem]; simpa using h2
        refine ⟨[], [0], rfl, ⟨r, acc, rfl, rfl, hr.tail, by simp at hrl; omega, by simp at hacc; omega, by rw [ht, take_cons, if_pos h0]⟩, ?_⟩
        show (encB r).length < (encB (b :: r)).length
        simp [encB]
      · have h0 : ¬ b % 11 = 0 := by rw [← hrem]; simpa using h2
        refine Choice.mk ⟨false, Choice.mk ⟨true, _, _, one_told (b.tmod 11) r hr.tail (by simp at hrl; omega), ?_⟩⟩
        have hlen := one_len (b.tmod 11) r
        have htake : take (b :: r) = match one (b.tmod 11) r with
            | (o, n, true) => o :: take (r.drop n)
            | (_, _, false) => [] := by
          rw [take_cons, if_neg h0, hrem] <;> (rcases one (b % 11) r with ⟨o, n, ok⟩; cases ok <;> rfl)
        revert hlen htake
        generalize one (b.tmod 11) r = q
        obtain ⟨o, n, ok⟩ := q
        intro hlen htake
        refine IfB.mk (fun h3 => ?_) (fun h3 => ?_)
        · have : ok = false := by simpa using h3
          subst this
          refine RetN.mk ⟨[0], rfl, rfl, ?_⟩
          show [Blk.row t_api_Op (acc.map encO)] = _
          rw [ht, htake]; simp
        · have : ok = true := by simpa using h3
          subst this
          simp only at hlen htake
          refine Room.mk (by simp; simp at hacc; omega) ?_
          refine Cut.mk (by omega) (by simp [encB]; omega) (Int.le_refl _) ?_
          refine Sure.mk (by kernel_rfl) ?_
          refine ⟨[], [3], rfl, ⟨r.drop n, acc ++ [o], ?_, ?_, hr.tail.drop n, by simp at hrl ⊢; omega, by simp at hacc ⊢; omega, by rw [ht, htake]; simp⟩, ?_⟩
          · rw [← encB_drop]; rfl
          · rw [show (acc ++ [o]).map encO = acc.map encO ++ [encO o] by simp]; rfl
          · show ((encB r).drop n).length < (encB (b :: r)).length
            simp [encB]; omega
  · have hr0 : r = [] := by
      cases r with
      | nil => rfl
      | cons b r => simp [encB] at h1
    subst hr0
    refine RetN.mk ⟨[0], rfl, rfl, ?_⟩
    show [Blk.row t_api_Op (acc.map encO)] = _
    rw [ht, take_nil, List.append_nil]
end Go.Ev.X
namespace Go.Ev.X
open Go.Ev Go.Ev.N

def getO (o : O) (b : UInt8) : Int := if b = 80 then o.p else if b = 83 then o.s else if b = 65 then o.a else o.n
def w8 (v : Int) : Int := IntKind.u8.wrap v
def three (v : Int) : List Int := [w8 (v.fdiv (2 ^ min (Int.toNat 16) IntKind.i64.bits)), w8 (v.fdiv (2 ^ min (Int.toNat 8) IntKind.i64.bits)), w8 v]
def putO (o : O) : List Int := w8 o.k :: ((fieldsOf o.k).flatMap fun f => three (getO o f)) ++ (if o.k = 8 then [o.b] else [])

theorem encB_app (a b : List Int) : encB (a ++ b) = encB a ++ encB b := by simp [encB]

set_option maxHeartbeats 8000000 in
theorem put_told (o : O) : Told P T wire_put [] [encO o] (.ref 0) [.row t_uint8 (encB (putO o))] := by
  refine told_of_ev (fn := wire_put_fn) tabOk mixed (by kernel_rfl) (by kernel_rfl) (by kernel_rfl) (by kernel_rfl) ?_
  refine Fits.mk ?_
  refine Choice.mk ⟨false, Choice.mk ⟨true, _, _, fields_told o.k, ?_⟩⟩
  refine Room.mk (Nat.le_trans (fieldsOf_len o.k) (by decide)) ?_
  refine LoopN.mk ⟨[1, 3, 14, 15, 16], fun vs L => ∃ (i : Nat) (bs : List Int), vs = [.ptr 0 0 0, .ref 1, .ref 2, .int .i64 (encL (fieldsOf o.k)).length, .int .i64 (i : Nat)] ∧ L = [.var (encO o), .row t_uint8 (encB bs), .row t_uint8 (encL (fieldsOf o.k))] ∧
      i ≤ (fieldsOf o.k).length ∧ bs = w8 o.k :: ((fieldsOf o.k).take i).flatMap fun f => three (getO o f),
    fun vs L => match vs with | [_, _, _, _, .int _ i] => (fieldsOf o.k).length - i.toNat | _ => 0, [], [0, 2, 3], rfl, ⟨0, [w8 o.k], rfl, rfl, Nat.zero_le _, rfl⟩, ?_⟩
  rintro vs L ⟨i, bs, rfl, rfl, hi, hbs⟩
  have hl2 := fieldsOf_len o.k
  have hbl : bs.length ≤ 100 := by
    rw [hbs]
    have : ((fieldsOf o.k).take i).length ≤ 2 := by simp; omega
    match (fieldsOf o.k).take i, this with
    | [], _ => simp
    | [_], _ => simp [three]
    | [_, _], _ => simp [three]
  refine IfB.mk (fun h1 => ?_) (fun h1 => ?_)
  · have hlt : i < (fieldsOf o.k).length := by simpa [encL_len] using h1
    obtain ⟨f, hff, hfm⟩ : ∃ f, (fieldsOf o.k)[i] = f ∧ (f = 80 ∨ f = 83 ∨ f = 65 ∨ f = 78) := ⟨_, rfl, fieldsOf_mem o.k _ (List.getElem_mem hlt)⟩
    refine InB.mk (by omega) (by rw [encL_len]; omega) ?_
    refine At.mk ⟨.int .u8 f.toNat, by simp [encL, hlt, hff], ?_⟩
    rcases hfm with rfl | rfl | rfl | rfl
    all_goals
      refine Choice.mk ⟨true, Choice.mk ⟨false, _, _, field_told o _, ?_⟩⟩
      refine Need.mk (by decide) ?_
      refine Fits.mk ?_
      refine Need.mk (by decide) ?_
      refine Fits.mk ?_
      refine Fits.mk ?_
      refine Room.mk (by simp [encB]; omega) ?_
      refine fits (wrap64 (by omega) (by omega)) ?_
      refine ⟨[], [0, 4, 2], rfl, ⟨i + 1, bs ++ three (getO o (fieldsOf o.k)[i]), ?_, ?_, hlt, ?_⟩, ?_⟩
      · rw [show (((i + 1 : Nat)) : Int) = ((i : Nat) : Int) + 1 by omega]
        rfl
      · rw [encB_app, hff]; rfl
      · rw [hbs, List.take_succ_eq_append_getElem hlt, List.flatMap_append, List.flatMap_cons, List.flatMap_nil, List.append_nil, List.cons_append]
      · show (fieldsOf o.k).length - (((i : Nat) : Int) + 1).toNat < (fieldsOf o.k).length - ((i : Nat) : Int).toNat
        omega
  · have hge : i = (fieldsOf o.k).length := by
      have : ¬ i < (fieldsOf o.k).length := by simpa [encL_len] using h1
      omega
    rw [hge, List.take_length] at hbs
    refine IfB.mk (fun h2 => ?_) (fun h2 => ?_)
    · refine Room.mk (by simp [encB]; omega) ?_
      refine RetN.mk ⟨[4], rfl, rfl, ?_⟩
      have hk : o.k = 8 := by simpa using h2
      have : putO o = bs ++ [o.b] := by unfold putO; rw [if_pos hk, hbs]
      rw [this, encB_app]; rfl
    · refine RetN.mk ⟨[1], rfl, rfl, ?_⟩
      have hk : ¬ o.k = 8 := by simpa using h2
      have : putO o = bs := by unfold putO; rw [if_neg hk, hbs, List.append_nil]
      rw [this]; rfl
end Go.Ev.X
namespace Go.Ev.X
open Go.Ev Go.Ev.N

def IsO (o : O) : Prop := 0 ≤ o.b ∧ o.b < 256
def putAll (l : List O) : List Int := l.flatMap fun o => if take (putO o) = [o] then putO o else []

theorem w8_range (v : Int) : 0 ≤ w8 v ∧ w8 v < 256 := by
  unfold w8
  rw [IntKind.wrap_u8]
  omega
theorem isB_three (v : Int) : IsB (three v) := by
  intro b hb
  simp only [three, List.mem_cons, List.not_mem_nil, or_false] at hb
  rcases hb with rfl | rfl | rfl <;> exact w8_range _
theorem isB_put {o : O} (h : IsO o) : IsB (putO o) := by
  intro b hb
  unfold putO at hb
  simp only [List.cons_append, List.mem_cons, List.mem_append, List.mem_flatMap] at hb
  rcases hb with rfl | ⟨f, _, hb⟩ | hb
  · exact w8_range _
  · exact isB_three _ b hb
  · split at hb
    · simp at hb; subst hb; exact h
    · simp at hb
theorem put_len (o : O) : (putO o).length ≤ 8 := by
  unfold putO
  have := fieldsOf_len o.k
  have h2 : ((fieldsOf o.k).flatMap fun f => three (getO o f)).length ≤ 6 := by
    match fieldsOf o.k, this with
    | [], _ => simp
    | [_], _ => simp [three]
    | [_, _], _ => simp [three]
  have h3 : (if o.k = 8 then [o.b] else []).length ≤ 1 := by split <;> simp
  rw [List.length_append, List.length_cons]
  omega
theorem encO_inj {x y : O} (h : (((x.k == y.k) && ((x.p == y.p) && ((x.s == y.s) && ((x.a == y.a) && ((x.n == y.n) && ((x.b == y.b) && true))))))) = true) : x = y := by
  cases x; cases y; simp at h ⊢; exact h

set_option maxHeartbeats 8000000 in
theorem putAll_told (l : List O) (hO : ∀ o ∈ l, IsO o) (hl : l.length ≤ 1000000) : Told P T wire_Put [] [.lst t_api_Op (l.map encO)] (.ref 0) [.row t_uint8 (encB (putAll l))] := by
  have hll : (l.map encO).length = l.length := by simp
  refine told_of_ev (fn := wire_Put_fn) tabOk mixed (by kernel_rfl) (by kernel_rfl) (by kernel_rfl) (by kernel_rfl) ?_
  refine LoopN.mk ⟨[2, 7, 8, 9], fun vs L => ∃ i : Nat, vs = [.ref 0, .lst t_api_Op (l.map encO), .int .i64 (l.map encO).length, .int .i64 (i : Nat)] ∧ L = [.row t_uint8 (encB (putAll (l.take i)))] ∧ i ≤ l.length ∧ (putAll (l.take i)).length ≤ 8 * i,
    fun vs L => match vs with | [_, _, _, .int _ i] => l.length - i.toNat | _ => 0, [], [0], rfl, ⟨0, rfl, rfl, Nat.zero_le _, Nat.zero_le _⟩, ?_⟩
  rintro vs L ⟨i, rfl, rfl, hi, hlen⟩
  refine IfB.mk (fun h1 => ?_) (fun h1 => ?_)
  · have hlt : i < l.length := by simpa using h1
    have ho : IsO l[i] := hO _ (List.getElem_mem hlt)
    have hsucc : putAll (l.take (i + 1)) = putAll (l.take i) ++ (if take (putO l[i]) = [l[i]] then putO l[i] else []) := by
      unfold putAll
      rw [List.take_succ_eq_append_getElem hlt, List.flatMap_append, List.flatMap_cons, List.flatMap_nil, List.append_nil]
    have hpl := put_len l[i]
    refine Idx.mk ⟨encO l[i], by omega, by simp [hlt], ?_⟩
    refine Choice.mk ⟨false, Choice.mk ⟨false, _, _, put_told l[i], ?_⟩⟩
    refine Choice.mk ⟨false, Choice.mk ⟨false, _, _, take_told (putO l[i]) (isB_put ho) (by omega), ?_⟩⟩
    refine IfB.mk (fun h2 => ?_) (fun h2 => ?_)
    · have h3 : (take (putO l[i])).length = 1 := by simp at h2; omega
      obtain ⟨x, hx⟩ : ∃ x, take (putO l[i]) = [x] := by
        match take (putO l[i]), h3 with
        | [x], _ => exact ⟨x, rfl⟩
      rw [hx] at hsucc
      rw [hx]
      refine IfB.tt rfl ?_
      refine InB.mk (Int.le_refl _) (by show (0 : Int) < 1; decide) ?_
      refine IfB.tt rfl ?_
      refine At.mk ⟨encO x, rfl, ?_⟩
      refine IfB.tt rfl ?_
      refine IfB.tt rfl ?_
      refine Sure.mk (by kernel_rfl) ?_
      refine IfB.mk (fun h4 => ?_) (fun h4 => ?_)
      · have hxe : x = l[i] := encO_inj (by simpa using h4)
        rw [if_pos (by rw [hxe])] at hsucc
        refine Room.mk (by simp [encB]; omega) ?_
        refine fits (wrap64 (by omega) (by omega)) ?_
        refine ⟨[], [4], rfl, ⟨i + 1, ?_, ?_, hlt, by rw [hsucc, List.length_append]; omega⟩, ?_⟩
        · rw [show (((i + 1 : Nat)) : Int) = ((i : Nat) : Int) + 1 by omega]; rfl
        · rw [hsucc, encB_app]; rfl
        · show l.length - (((i : Nat) : Int) + 1).toNat < l.length - ((i : Nat) : Int).toNat
          omega
      · have hxe : ¬ [x] = [l[i]] := by
          intro e; simp at e; subst e; simp at h4
        rw [if_neg hxe, List.append_nil] at hsucc
        refine fits (wrap64 (by omega) (by omega)) ?_
        refine ⟨[], [0], rfl, ⟨i + 1, ?_, ?_, hlt, by rw [hsucc]; omega⟩, ?_⟩
        · rw [show (((i + 1 : Nat)) : Int) = ((i : Nat) : Int) + 1 by omega]; rfl
        · rw [hsucc]; rfl
        · show l.length - (((i : Nat) : Int) + 1).toNat < l.length - ((i : Nat) : Int).toNat
          omega
    · have h3 : ¬ take (putO l[i]) = [l[i]] := by
        intro e; rw [e] at h2; simp at h2
      rw [if_neg h3, List.append_nil] at hsucc
      rw [h2]
      refine IfB.ff rfl ?_
      refine IfB.ff rfl ?_
      refine IfB.ff rfl ?_
      refine IfB.ff rfl ?_
      refine Sure.mk (by kernel_rfl) ?_
      refine IfB.ff rfl ?_
      refine fits (wrap64 (by omega) (by omega)) ?_
      refine ⟨[], [0], rfl, ⟨i + 1, ?_, ?_, hlt, by rw [hsucc]; omega⟩, ?_⟩
      · rw [show (((i + 1 : Nat)) : Int) = ((i : Nat) : Int) + 1 by omega]; rfl
      · rw [hsucc]; rfl
      · show l.length - (((i : Nat) : Int) + 1).toNat < l.length - ((i : Nat) : Int).toNat
        omega
  · have hge : i = l.length := by
      have : ¬ i < l.length := by simpa using h1
      omega
    subst hge
    refine RetN.mk ⟨[0], rfl, rfl, ?_⟩
    show [Blk.row t_uint8 (encB (putAll (l.take l.length)))] = _
    rw [List.take_length]
end Go.Ev.X
namespace Go.Ev.X
open Go.Ev Go.Ev.N

def o1 : O := ⟨1, 0, 258, 0, 0, 0⟩
def o2 : O := ⟨9, 0, 0, 0, 0, 0⟩
theorem put12 : putAll [o1, o2] = [1, 0, 1, 2, 9] := by decide +kernel
theorem take12 : take [1, 0, 1, 2, 9] = [o1, o2] := by decide +kernel

set_option maxHeartbeats 8000000 in
theorem begun_told : Told P T law25_begun [] [] (.bool true) [] := by
  have h14 := putAll_told [o1, o2] (by intro o ho; simp at ho; rcases ho with rfl | rfl <;> exact ⟨by decide, by decide⟩) (by decide)
  rw [put12] at h14
  have h12 := take_told [1, 0, 1, 2, 9] (by intro b hb; simp at hb; omega) (by decide)
  rw [take12] at h12
  refine told_of_ev (fn := law25_begun_fn) tabOk mixed (by kernel_rfl) (by kernel_rfl) (by kernel_rfl) (by kernel_rfl) ?_
  refine Choice.mk ⟨false, Choice.mk ⟨false, _, _, h14, ?_⟩⟩
  refine Choice.mk ⟨false, Choice.mk ⟨false, _, _, h12, ?_⟩⟩
  refine Bytes.mk ⟨⟨#[1, 0, 1, 2, 9]⟩, rfl, ?_⟩
  refine IfB.tt (beq_self_eq_true _) ?_
  refine IfB.tt rfl ?_
  refine IfB.tt rfl ?_
  refine IfB.tt rfl ?_
  refine IfB.tt rfl ?_
  refine InB.mk (Int.le_refl _) (by show (0 : Int) < 2; decide) ?_
  refine IfB.tt rfl ?_
  refine IfB.tt rfl ?_
  refine At.mk ⟨encO o1, rfl, ?_⟩
  refine IfB.tt rfl ?_
  refine IfB.tt rfl ?_
  refine IfB.tt rfl ?_
  refine InB.mk (by decide) (by show (1 : Int) < 2; decide) ?_
  refine IfB.tt rfl ?_
  refine IfB.tt rfl ?_
  refine At.mk ⟨encO o2, rfl, ?_⟩
  refine IfB.tt rfl ?_
  refine RetN.mk ⟨[], rfl, ?_, rfl⟩
  rfl
end Go.Ev.X
namespace Go.Ev.X
open Go.Ev Go.Ev.N

theorem w8_mod (v : Int) : w8 v = v % 256 := by unfold w8; rw [IntKind.wrap_u8]
theorem three_eq (v : Int) : three v = [v / 65536 % 256, v / 256 % 256, v % 256] := by
  have e1 : (2 : Int) ^ min (Int.toNat 16) IntKind.i64.bits = 65536 := by decide
  have e2 : (2 : Int) ^ min (Int.toNat 8) IntKind.i64.bits = 256 := by decide
  unfold three
  rw [e1, e2, w8_mod, w8_mod, w8_mod, Int.fdiv_eq_ediv_of_nonneg _ (by omega), Int.fdiv_eq_ediv_of_nonneg _ (by omega)]
theorem rd3_split {a b c : Int} (ha : 0 ≤ a ∧ a < 256) (hb : 0 ≤ b ∧ b < 256) (hc : 0 ≤ c ∧ c < 256) : three (rd3 a b c) = [a, b, c] := by
  rw [three_eq]
  unfold rd3
  congr 1
  · omega
  · congr 1
    · omega
    · congr 1; omega

/-- A call that its own bytes say. -/
def Good (o : O) : Prop := take (putO o) = [o]

theorem kinds {k : Int} (h : ¬ k % 11 = 0) : k % 11 = 1 ∨ k % 11 = 2 ∨ k % 11 = 3 ∨ k % 11 = 4 ∨ k % 11 = 5 ∨ k % 11 = 6 ∨ k % 11 = 7 ∨ k % 11 = 8 ∨ k % 11 = 9 ∨ k % 11 = 10 := by omega

theorem fillO_k : ∀ (fs : List UInt8) (bs : List Int) (o : O), (fillO fs bs o).1.k = o.k
  | [], bs, o => rfl
  | f :: fs, [], o => rfl
  | f :: fs, [_], o => rfl
  | f :: fs, [_, _], o => rfl
  | f :: fs, _ :: _ :: _ :: bs, o => by
    simp only [fillO]
    rw [fillO_k fs bs]
    unfold setO
    repeat' split
    all_goals rfl
theorem one_k (k : Int) (bs : List Int) : (one k bs).1.k = k := by
  have h := fillO_k (fieldsOf k) bs ⟨k, 0, 0, 0, 0, 0⟩
  unfold one
  split
  · rename_i o e; rw [e] at h; exact h
  · rename_i o r e
    rw [e] at h
    split
    · exact h
    · split <;> exact h

def setAll (v : UInt8 → Int) : List UInt8 → O → O
  | [], o => o
  | f :: fs, o => setAll v fs (setO o f (rd3 (v f / 65536 % 256) (v f / 256 % 256) (v f % 256)))
theorem fillO_flat (v : UInt8 → Int) : ∀ (fs : List UInt8) (r : List Int) (o : O), fillO fs ((fs.flatMap fun f => three (v f)) ++ r) o = (setAll v fs o, some r)
  | [], r, o => rfl
  | f :: fs, r, o => by
    rw [List.flatMap_cons, three_eq]
    simp only [List.cons_append, List.nil_append, fillO, List.append_assoc]
    exact fillO_flat v fs r _

/-- What a call's own bytes say, whatever is behind. -/
theorem one_own (o : O) (r : List Int) : one o.k (((fieldsOf o.k).flatMap fun f => three (getO o f)) ++ ((if o.k = 8 then [o.b] else []) ++ r)) =
    ((if o.k = 8 then { setAll (getO o) (fieldsOf o.k) ⟨o.k, 0, 0, 0, 0, 0⟩ with b := o.b } else setAll (getO o) (fieldsOf o.k) ⟨o.k, 0, 0, 0, 0, 0⟩),
      (((fieldsOf o.k).flatMap fun f => three (getO o f)) ++ (if o.k = 8 then [o.b] else [])).length, true) := by
  unfold one
  rw [fillO_flat]
  by_cases h8 : o.k = 8
  · simp only [h8, if_true, ne_eq, not_true, if_false, List.cons_append, List.nil_append, List.length_append, List.length_cons, List.length_nil]
    congr 2; omega
  · simp only [h8, if_false, ne_eq, not_false_iff, if_true, List.nil_append, List.append_nil, List.length_append]
    congr 2; omega

theorem take_own {o : O} (hk : w8 o.k % 11 = o.k) (h0 : o.k ≠ 0) (r : List Int) : ∃ o', take (putO o ++ r) = o' :: take r ∧ take (putO o) = [o'] := by
  have step : ∀ r, take (putO o ++ r) = (one o.k (((fieldsOf o.k).flatMap fun f => three (getO o f)) ++ ((if o.k = 8 then [o.b] else []) ++ r))).1 :: take r := by
    intro r
    unfold putO
    rw [List.cons_append, List.cons_append, take_cons, if_neg (by rw [hk]; exact h0), hk, List.append_assoc, one_own]
    simp only
    rw [← List.append_assoc, List.drop_left]
  refine ⟨(one o.k (((fieldsOf o.k).flatMap fun f => three (getO o f)) ++ ((if o.k = 8 then [o.b] else []) ++ r))).1, step r, ?_⟩
  have := step []
  rw [List.append_nil] at this
  rw [this, one_own, one_own]
  rfl

theorem fieldsOf_none {k : Int} (h1 : k < 1 ∨ 8 < k) : fieldsOf k = [] := by
  unfold fieldsOf
  repeat' split
  all_goals first
    | rfl
    | omega

theorem Good.kind {o : O} (h : Good o) : w8 o.k % 11 = o.k ∧ o.k ≠ 0 := by
  unfold Good putO at h
  rw [List.cons_append, take_cons] at h
  split at h
  · rename_i h0
    rw [w8_mod] at h0
    have hr : o.k < 1 ∨ 8 < o.k := by
      rcases Classical.em (1 ≤ o.k ∧ o.k ≤ 8) with hc | hc
      · have e : o.k % 256 = o.k := by omega
        rw [e] at h0; omega
      · omega
    rw [fieldsOf_none hr, if_neg (by omega)] at h
    simp [take_nil] at h
  · rename_i h0
    have hk := one_k (w8 o.k % 11) (((fieldsOf o.k).flatMap fun f => three (getO o f)) ++ (if o.k = 8 then [o.b] else []))
    generalize one (w8 o.k % 11) (((fieldsOf o.k).flatMap fun f => three (getO o f)) ++ (if o.k = 8 then [o.b] else [])) = q at h hk
    obtain ⟨o', n, ok⟩ := q
    cases ok with
    | false => simp at h
    | true =>
      simp only [List.cons.injEq] at h
      obtain ⟨rfl, _⟩ := h
      simp only at hk
      exact ⟨hk.symm, by rw [hk]; exact h0⟩

theorem Good.app {o : O} (h : Good o) (r : List Int) : take (putO o ++ r) = o :: take r := by
  obtain ⟨h1, h2⟩ := h.kind
  obtain ⟨o', h3, h4⟩ := take_own h1 h2 r
  unfold Good at h
  rw [h] at h4
  cases h4
  exact h3
theorem putAll_good {l : List O} (h : ∀ o ∈ l, Good o) (r : List Int) : take (putAll l ++ r) = l ++ take r := by
  induction l with
  | nil => rfl
  | cons o l ih =>
    have ho : take (putO o) = [o] := h o (by simp)
    have : putAll (o :: l) = putO o ++ putAll l := by
      unfold putAll; rw [List.flatMap_cons, if_pos ho]
    rw [this, List.append_assoc, Good.app ho, ih fun x hx => h x (by simp [hx])]
    rfl
theorem putAll_cons {o : O} {l : List O} (h : Good o) : putAll (o :: l) = putO o ++ putAll l := by
  unfold putAll; rw [List.flatMap_cons, if_pos (show take (putO o) = [o] from h)]

/-- What bytes say is said by a front of them. -/
theorem one_good {k : Int} {bs : List Int} (hb : IsB bs) (hk : 1 ≤ k ∧ k ≤ 10) {o : O} {n : Nat} (h : one k bs = (o, n, true)) : Good o ∧ IsO o := by
  have hw : w8 k = k := by rw [w8_mod]; omega
  have hm : k % 11 = k := by omega
  have B : ∀ x ∈ bs, 0 ≤ x ∧ x < 256 := hb
  have fin : ∀ (cs : List Int), putO o = k :: cs → one k cs = (o, cs.length, true) → Good o := by
    intro cs h1 h2
    unfold Good
    rw [h1, take_cons, if_neg (by omega), hm, h2]
    simp [take_nil]
  have : k = 1 ∨ k = 2 ∨ k = 3 ∨ k = 4 ∨ k = 5 ∨ k = 6 ∨ k = 7 ∨ k = 8 ∨ k = 9 ∨ k = 10 := by omega
  rcases this with rfl | rfl | rfl | rfl | rfl | rfl | rfl | rfl | rfl | rfl
  · match bs, B, h with
    | a :: b :: c :: r, B, h =>
      cases h
      have t := rd3_split (B a (by simp)) (B b (by simp)) (B c (by simp))
      exact ⟨fin [a, b, c] (by show w8 1 :: (three (rd3 a b c) ++ []) ++ [] = _; rw [t, hw]; rfl) rfl, show (0 : Int) ≤ 0 ∧ (0 : Int) < 256 by decide⟩
  · match bs, B, h with
    | a :: b :: c :: d :: e :: f :: r, B, h =>
      cases h
      have t := rd3_split (B a (by simp)) (B b (by simp)) (B c (by simp))
      have u := rd3_split (B d (by simp)) (B e (by simp)) (B f (by simp))
      exact ⟨fin [a, b, c, d, e, f] (by show w8 2 :: (three (rd3 a b c) ++ (three (rd3 d e f) ++ [])) ++ [] = _; rw [t, u, hw]; rfl) rfl, show (0 : Int) ≤ 0 ∧ (0 : Int) < 256 by decide⟩
  · match bs, B, h with
    | a :: b :: c :: d :: e :: f :: r, B, h =>
      cases h
      have t := rd3_split (B a (by simp)) (B b (by simp)) (B c (by simp))
      have u := rd3_split (B d (by simp)) (B e (by simp)) (B f (by simp))
      exact ⟨fin [a, b, c, d, e, f] (by show w8 3 :: (three (rd3 a b c) ++ (three (rd3 d e f) ++ [])) ++ [] = _; rw [t, u, hw]; rfl) rfl, show (0 : Int) ≤ 0 ∧ (0 : Int) < 256 by decide⟩
  · match bs, B, h with
    | a :: b :: c :: d :: e :: f :: r, B, h =>
      cases h
      have t := rd3_split (B a (by simp)) (B b (by simp)) (B c (by simp))
      have u := rd3_split (B d (by simp)) (B e (by simp)) (B f (by simp))
      exact ⟨fin [a, b, c, d, e, f] (by show w8 4 :: (three (rd3 a b c) ++ (three (rd3 d e f) ++ [])) ++ [] = _; rw [t, u, hw]; rfl) rfl, show (0 : Int) ≤ 0 ∧ (0 : Int) < 256 by decide⟩
  · match bs, B, h with
    | a :: b :: c :: r, B, h =>
      cases h
      have t := rd3_split (B a (by simp)) (B b (by simp)) (B c (by simp))
      exact ⟨fin [a, b, c] (by show w8 5 :: (three (rd3 a b c) ++ []) ++ [] = _; rw [t, hw]; rfl) rfl, show (0 : Int) ≤ 0 ∧ (0 : Int) < 256 by decide⟩
  · match bs, B, h with
    | a :: b :: c :: r, B, h =>
      cases h
      have t := rd3_split (B a (by simp)) (B b (by simp)) (B c (by simp))
      exact ⟨fin [a, b, c] (by show w8 6 :: (three (rd3 a b c) ++ []) ++ [] = _; rw [t, hw]; rfl) rfl, show (0 : Int) ≤ 0 ∧ (0 : Int) < 256 by decide⟩
  · match bs, B, h with
    | a :: b :: c :: d :: e :: f :: r, B, h =>
      cases h
      have t := rd3_split (B a (by simp)) (B b (by simp)) (B c (by simp))
      have u := rd3_split (B d (by simp)) (B e (by simp)) (B f (by simp))
      exact ⟨fin [a, b, c, d, e, f] (by show w8 7 :: (three (rd3 a b c) ++ (three (rd3 d e f) ++ [])) ++ [] = _; rw [t, u, hw]; rfl) rfl, show (0 : Int) ≤ 0 ∧ (0 : Int) < 256 by decide⟩
  · match bs, B, h with
    | a :: b :: c :: d :: e :: f :: g :: r, B, h =>
      cases h
      have t := rd3_split (B a (by simp)) (B b (by simp)) (B c (by simp))
      have u := rd3_split (B d (by simp)) (B e (by simp)) (B f (by simp))
      exact ⟨fin [a, b, c, d, e, f, g] (by show w8 8 :: (three (rd3 a b c) ++ (three (rd3 d e f) ++ [])) ++ [g] = _; rw [t, u, hw]; rfl) rfl, show 0 ≤ g ∧ g < 256 from B g (by simp)⟩
  · cases h
    exact ⟨fin [] (by show w8 9 :: [] ++ [] = _; rw [hw]; rfl) rfl, show (0 : Int) ≤ 0 ∧ (0 : Int) < 256 by decide⟩
  · cases h
    exact ⟨fin [] (by show w8 10 :: [] ++ [] = _; rw [hw]; rfl) rfl, show (0 : Int) ≤ 0 ∧ (0 : Int) < 256 by decide⟩
end Go.Ev.X
namespace Go.Ev.X
open Go.Ev Go.Ev.N
def rdv (v : Int) : Int := rd3 (v / 65536 % 256) (v / 256 % 256) (v % 256)
theorem rdv_own {v : Int} (h : 0 ≤ v ∧ v < 16777216) : rdv v = v := by unfold rdv rd3; omega
theorem rdv_nonneg (v : Int) : 0 ≤ rdv v := by unfold rdv rd3; omega
def own (o : O) : O := if o.k = 8 then { setAll (getO o) (fieldsOf o.k) ⟨o.k, 0, 0, 0, 0, 0⟩ with b := o.b } else setAll (getO o) (fieldsOf o.k) ⟨o.k, 0, 0, 0, 0, 0⟩
theorem own_eq {o : O} (hk : w8 o.k % 11 = o.k) (h0 : o.k ≠ 0) : take (putO o) = [own o] := by
  have e : putO o = w8 o.k :: (((fieldsOf o.k).flatMap fun f => three (getO o f)) ++ ((if o.k = 8 then [o.b] else []) ++ [])) := by
    unfold putO; rw [List.append_nil]; rfl
  have hw : w8 o.k % 11 ≠ 0 := by rw [hk]; exact h0
  rw [e, take_cons, if_neg hw, hk, one_own]
  simp only [List.append_nil]
  rw [List.drop_of_length_le (by simp), take_nil]
  rfl
theorem own_k {k p s a n b : Int} (h : 1 ≤ k ∧ k ≤ 10) : own ⟨k, p, s, a, n, b⟩ = ⟨k, if 4 ≤ k ∧ k ≤ 8 then rdv p else 0, if k ≤ 4 then rdv s else 0, if k = 3 then rdv a else 0, if k = 2 ∨ k = 7 ∨ k = 8 then rdv n else 0, if k = 8 then b else 0⟩ := by
  rcases (by omega : k = 1 ∨ k = 2 ∨ k = 3 ∨ k = 4 ∨ k = 5 ∨ k = 6 ∨ k = 7 ∨ k = 8 ∨ k = 9 ∨ k = 10) with h | h | h | h | h | h | h | h | h | h <;> subst h <;> rfl
theorem putO_len {k p s a n b : Int} (h : 1 ≤ k ∧ k ≤ 10) : (putO ⟨k, p, s, a, n, b⟩).length = ([0, 4, 7, 7, 7, 4, 4, 7, 8, 1, 1] : List Nat).getD k.toNat 0 := by
  rcases (by omega : k = 1 ∨ k = 2 ∨ k = 3 ∨ k = 4 ∨ k = 5 ∨ k = 6 ∨ k = 7 ∨ k = 8 ∨ k = 9 ∨ k = 10) with h | h | h | h | h | h | h | h | h | h <;> subst h <;> rfl
theorem w8_k {k : Int} (h : 1 ≤ k ∧ k ≤ 10) : w8 k = k := by rw [w8_mod]; omega
end Go.Ev.X
namespace Go.Ev.W
open Go.Ev Go.Ev.N
def wd (k : Int) : Nat := ([0, 4, 7, 7, 7, 4, 4, 7, 8, 1, 1] : List Nat).getD k.toNat 0
def nnO (o : X.O) : Bool := decide (0 ≤ o.p) && (decide (0 ≤ o.s) && (decide (0 ≤ o.a) && decide (0 ≤ o.n)))
theorem good_iff {c : Cf} (hc : c.Ok) {o : X.O} (h : OpG c o) : X.Good o ↔ nnO o = true := by
  have hN := hc.nM
  have hM := hc.mH
  obtain ⟨hk, hp, hs, ha, hn, hb, p0, s0, a0, n0, b0⟩ := h
  obtain ⟨k, p, s, a, n, b⟩ := o
  simp only at *
  have e := X.own_k (p := p) (s := s) (a := a) (n := n) (b := b) hk
  have h8 := X.w8_k hk
  unfold X.Good nnO
  rw [X.own_eq (o := ⟨k, p, s, a, n, b⟩) (by rw [h8]; show k % 11 = k; omega) (by show k ≠ 0; omega), e]
  simp only [Bool.and_eq_true, decide_eq_true_eq, List.cons.injEq, and_true, X.O.mk.injEq, true_and]
  have r1 := X.rdv_nonneg p
  have r2 := X.rdv_nonneg s
  have r3 := X.rdv_nonneg a
  have r4 := X.rdv_nonneg n
  have q1 := fun h => X.rdv_own (v := p) h
  have q2 := fun h => X.rdv_own (v := s) h
  have q3 := fun h => X.rdv_own (v := a) h
  have q4 := fun h => X.rdv_own (v := n) h
  generalize X.rdv p = rp at *
  generalize X.rdv s = rs at *
  generalize X.rdv a = ra at *
  generalize X.rdv n = rn at *
  constructor
  · rintro ⟨h1, h2, h3, h4, h5⟩
    split at h1 <;> split at h2 <;> split at h3 <;> split at h4 <;> omega
  · rintro ⟨h1, h2, h3, h4⟩
    have q1 := q1 ⟨h1, by omega⟩
    have q2 := q2 ⟨h2, by omega⟩
    have q3 := q3 ⟨h3, by omega⟩
    have q4 := q4 ⟨h4, by omega⟩
    refine ⟨?_, ?_, ?_, ?_, ?_⟩
    all_goals split <;> omega
theorem putO_wd {c : Cf} {o : X.O} (h : OpG c o) : (X.putO o).length = wd o.k := X.putO_len h.k
def sumW (l : List X.O) : Nat := (l.map fun o => if nnO o = true then wd o.k else 0).sum
theorem sumW_succ {l : List X.O} {i : Nat} (h : i < l.length) : sumW (l.take (i + 1)) = sumW (l.take i) + if nnO l[i] = true then wd l[i].k else 0 := by
  unfold sumW; rw [List.take_succ_eq_append_getElem h, List.map_append, List.sum_append]; simp
theorem wd_le {k : Int} : wd k ≤ 8 := by
  unfold wd
  rw [List.getD_eq_getElem?_getD]
  generalize k.toNat = j
  rcases Nat.lt_or_ge j 11 with h | h
  · rcases (by omega : j = 0 ∨ j = 1 ∨ j = 2 ∨ j = 3 ∨ j = 4 ∨ j = 5 ∨ j = 6 ∨ j = 7 ∨ j = 8 ∨ j = 9 ∨ j = 10) with h | h | h | h | h | h | h | h | h | h | h <;> subst h <;> decide
  · rw [List.getElem?_eq_none (by simpa using h)]; simp
theorem sumW_le : ∀ l : List X.O, sumW l ≤ 8 * l.length
  | [] => by simp [sumW]
  | o :: l => by
    have := sumW_le l
    have := wd_le (k := o.k)
    have e : sumW (o :: l) = (if nnO o = true then wd o.k else 0) + sumW l := by simp [sumW]
    rw [e, List.length_cons]; split <;> omega
theorem putAll_len : ∀ {l : List X.O}, (∀ o ∈ l, ∃ c : Cf, c.Ok ∧ OpG c o) → (X.putAll l).length = sumW l
  | [], _ => rfl
  | o :: l, h => by
    have ih := putAll_len (l := l) fun x hx => h x (by simp [hx])
    obtain ⟨c, hc, ho⟩ := h o (by simp)
    have e : sumW (o :: l) = (if nnO o = true then wd o.k else 0) + sumW l := by simp [sumW]
    have e2 : X.putAll (o :: l) = (if X.take (X.putO o) = [o] then X.putO o else []) ++ X.putAll l := by unfold X.putAll; rw [List.flatMap_cons]
    rw [e, e2, List.length_append, ih]
    congr 1
    have hg := good_iff hc ho
    unfold X.Good at hg
    by_cases hn : nnO o = true
    · rw [if_pos hn, if_pos (hg.2 hn)]; exact putO_wd ho
    · rw [if_neg hn, if_neg fun hh => hn (hg.1 hh)]; rfl
end Go.Ev.W
namespace Go.Ev.W
open Go.Ev Go.Ev.N

def WD : List Nat := [0, 4, 7, 7, 7, 4, 4, 7, 8, 1, 1]
theorem wd_get {k : Int} (h : 1 ≤ k ∧ k ≤ 10) : ∃ hk : k.toNat < WD.length, WD[k.toNat] = wd k := by
  have hk : k.toNat < WD.length := by show k.toNat < 11; omega
  refine ⟨hk, ?_⟩
  unfold wd
  rw [List.getD_eq_getElem?_getD]
  show _ = (WD[k.toNat]?).getD 0
  rw [List.getElem?_eq_getElem hk]; rfl
theorem idx_wd {k : Int} (h : 1 ≤ k ∧ k ≤ 10) {Q : AV → Prop} (q : Q (i64 (wd k : Nat))) : Idx (WD.map fun n => i64 (n : Nat)) k Q := by
  obtain ⟨hk, e⟩ := wd_get h
  exact idx_map' k.toNat (by omega) hk (by rw [e]; exact q)
theorem OpG.isO {c : Cf} {o : X.O} (h : OpG c o) : X.IsO o := h.b
set_option maxRecDepth 20000 in
set_option maxHeartbeats 8000000 in
theorem wireLong_told {a b : List Nat} (ha : IsB a) (hla : a.length ≤ maxLen) (hb : IsB b) (hlb : b.length ≤ maxLen) : Told P T law25_WireLong [] [lB a, lB b] (.bool true) [] := by
  have hua : (a.map u8).length = a.length := by simp
  have hub : (b.map u8).length = b.length := by simp
  have oka : (⟨a, 0⟩ : Pk).Ok := ⟨ha, Nat.zero_le _, hla⟩
  have okb : (⟨b, 0⟩ : Pk).Ok := ⟨hb, Nat.zero_le _, hlb⟩
  have t1 := raw_told ⟨a, 0⟩ oka false
  generalize rawF ⟨a, 0⟩ false = R at *
  obtain ⟨r, pa⟩ := R
  have t2 := ops_told r (n := 30) (by omega) okb
  obtain ⟨_, hlo, hop⟩ := opsA_ok (r := r) 30 okb
  generalize opsA r 30 ⟨b, 0⟩ = S at *
  obtain ⟨os, pb⟩ := S
  have t2 : Told P T mk_Picks_Ops [pkB ⟨b, 0⟩] [.ptr 0 0 0, eR r, i64 30] (.lst t_api_Op (os.map X.encO)) [pkB pb] := t2
  simp only at hlo hop
  have hom : (os.map X.encO).length = os.length := by simp
  have hall := putAll_len hop
  have hso := sumW_le os
  refine told_of_ev (fn := law25_WireLong_fn) tabOk mixed (by kernel_rfl) (by kernel_rfl) (by kernel_rfl) (by kernel_rfl) ?_
  ((repeat ((conv => whnf); first | (refine Sure.mk (by kernel_rfl) ?_) | (refine IfB.tt rfl ?_) | (refine IfB.ff rfl ?_) | (refine IfB.tt ?_ ?_; (focus (simp <;> fail))) | (refine IfB.ff ?_ ?_; (focus (simp <;> fail))) | (refine fits (wrap64 ?_ ?_) ?_; (focus omega); (focus omega)) | (refine fits (wrapU64 ?_ ?_) ?_; (focus omega); (focus omega)) | (refine Need.mk ?_ ?_; (focus omega)) | (refine InB.mk ?_ ?_ ?_; (focus omega); (focus omega)))); (try (conv => whnf)); refine Choice.mk ⟨false, Choice.mk ⟨false, _, _, X.begun_told, ?_⟩⟩)
  by_cases h6 : a.length > 6
  · ((repeat ((conv => whnf); first | (refine Sure.mk (by kernel_rfl) ?_) | (refine IfB.tt rfl ?_) | (refine IfB.ff rfl ?_) | (refine IfB.tt ?_ ?_; (focus (simp <;> fail))) | (refine IfB.ff ?_ ?_; (focus (simp <;> fail))) | (refine fits (wrap64 ?_ ?_) ?_; (focus omega); (focus omega)) | (refine fits (wrapU64 ?_ ?_) ?_; (focus omega); (focus omega)) | (refine Need.mk ?_ ?_; (focus omega)) | (refine InB.mk ?_ ?_ ?_; (focus omega); (focus omega)))); (try (conv => whnf)); refine IfB.tt (by rw [hua]; simp; omega) ?_)
    ((repeat ((conv => whnf); first | (refine Sure.mk (by kernel_rfl) ?_) | (refine IfB.tt rfl ?_) | (refine IfB.ff rfl ?_) | (refine IfB.tt ?_ ?_; (focus (simp <;> fail))) | (refine IfB.ff ?_ ?_; (focus (simp <;> fail))) | (refine fits (wrap64 ?_ ?_) ?_; (focus omega); (focus omega)) | (refine fits (wrapU64 ?_ ?_) ?_; (focus omega); (focus omega)) | (refine Need.mk ?_ ?_; (focus omega)) | (refine InB.mk ?_ ?_ ?_; (focus omega); (focus omega)))); (try (conv => whnf)); exact RetN.mk ⟨[], rfl, rfl, rfl⟩)
  ((repeat ((conv => whnf); first | (refine Sure.mk (by kernel_rfl) ?_) | (refine IfB.tt rfl ?_) | (refine IfB.ff rfl ?_) | (refine IfB.tt ?_ ?_; (focus (simp <;> fail))) | (refine IfB.ff ?_ ?_; (focus (simp <;> fail))) | (refine fits (wrap64 ?_ ?_) ?_; (focus omega); (focus omega)) | (refine fits (wrapU64 ?_ ?_) ?_; (focus omega); (focus omega)) | (refine Need.mk ?_ ?_; (focus omega)) | (refine InB.mk ?_ ?_ ?_; (focus omega); (focus omega)))); (try (conv => whnf)); refine IfB.ff (by rw [hua]; simp; omega) ?_)
  by_cases h7 : b.length > 100
  · ((repeat ((conv => whnf); first | (refine Sure.mk (by kernel_rfl) ?_) | (refine IfB.tt rfl ?_) | (refine IfB.ff rfl ?_) | (refine IfB.tt ?_ ?_; (focus (simp <;> fail))) | (refine IfB.ff ?_ ?_; (focus (simp <;> fail))) | (refine fits (wrap64 ?_ ?_) ?_; (focus omega); (focus omega)) | (refine fits (wrapU64 ?_ ?_) ?_; (focus omega); (focus omega)) | (refine Need.mk ?_ ?_; (focus omega)) | (refine InB.mk ?_ ?_ ?_; (focus omega); (focus omega)))); (try (conv => whnf)); refine IfB.tt (by rw [hub]; simp; omega) ?_)
    ((repeat ((conv => whnf); first | (refine Sure.mk (by kernel_rfl) ?_) | (refine IfB.tt rfl ?_) | (refine IfB.ff rfl ?_) | (refine IfB.tt ?_ ?_; (focus (simp <;> fail))) | (refine IfB.ff ?_ ?_; (focus (simp <;> fail))) | (refine fits (wrap64 ?_ ?_) ?_; (focus omega); (focus omega)) | (refine fits (wrapU64 ?_ ?_) ?_; (focus omega); (focus omega)) | (refine Need.mk ?_ ?_; (focus omega)) | (refine InB.mk ?_ ?_ ?_; (focus omega); (focus omega)))); (try (conv => whnf)); exact RetN.mk ⟨[], rfl, rfl, rfl⟩)
  ((repeat ((conv => whnf); first | (refine Sure.mk (by kernel_rfl) ?_) | (refine IfB.tt rfl ?_) | (refine IfB.ff rfl ?_) | (refine IfB.tt ?_ ?_; (focus (simp <;> fail))) | (refine IfB.ff ?_ ?_; (focus (simp <;> fail))) | (refine fits (wrap64 ?_ ?_) ?_; (focus omega); (focus omega)) | (refine fits (wrapU64 ?_ ?_) ?_; (focus omega); (focus omega)) | (refine Need.mk ?_ ?_; (focus omega)) | (refine InB.mk ?_ ?_ ?_; (focus omega); (focus omega)))); (try (conv => whnf)); refine IfB.ff (by rw [hub]; simp; omega) ?_)
  ((repeat ((conv => whnf); first | (refine Sure.mk (by kernel_rfl) ?_) | (refine IfB.tt rfl ?_) | (refine IfB.ff rfl ?_) | (refine IfB.tt ?_ ?_; (focus (simp <;> fail))) | (refine IfB.ff ?_ ?_; (focus (simp <;> fail))) | (refine fits (wrap64 ?_ ?_) ?_; (focus omega); (focus omega)) | (refine fits (wrapU64 ?_ ?_) ?_; (focus omega); (focus omega)) | (refine Need.mk ?_ ?_; (focus omega)) | (refine InB.mk ?_ ?_ ?_; (focus omega); (focus omega)))); (try (conv => whnf)); refine Choice.mk ⟨false, Choice.mk ⟨false, _, _, made_told a, ?_⟩⟩)
  ((repeat ((conv => whnf); first | (refine Sure.mk (by kernel_rfl) ?_) | (refine IfB.tt rfl ?_) | (refine IfB.ff rfl ?_) | (refine IfB.tt ?_ ?_; (focus (simp <;> fail))) | (refine IfB.ff ?_ ?_; (focus (simp <;> fail))) | (refine fits (wrap64 ?_ ?_) ?_; (focus omega); (focus omega)) | (refine fits (wrapU64 ?_ ?_) ?_; (focus omega); (focus omega)) | (refine Need.mk ?_ ?_; (focus omega)) | (refine InB.mk ?_ ?_ ?_; (focus omega); (focus omega)))); (try (conv => whnf)); refine Choice.mk ⟨true, Choice.mk ⟨false, _, _, t1, ?_⟩⟩)
  ((repeat ((conv => whnf); first | (refine Sure.mk (by kernel_rfl) ?_) | (refine IfB.tt rfl ?_) | (refine IfB.ff rfl ?_) | (refine IfB.tt ?_ ?_; (focus (simp <;> fail))) | (refine IfB.ff ?_ ?_; (focus (simp <;> fail))) | (refine fits (wrap64 ?_ ?_) ?_; (focus omega); (focus omega)) | (refine fits (wrapU64 ?_ ?_) ?_; (focus omega); (focus omega)) | (refine Need.mk ?_ ?_; (focus omega)) | (refine InB.mk ?_ ?_ ?_; (focus omega); (focus omega)))); (try (conv => whnf)); refine Choice.mk ⟨false, Choice.mk ⟨false, _, _, made_told b, ?_⟩⟩)
  ((repeat ((conv => whnf); first | (refine Sure.mk (by kernel_rfl) ?_) | (refine IfB.tt rfl ?_) | (refine IfB.ff rfl ?_) | (refine IfB.tt ?_ ?_; (focus (simp <;> fail))) | (refine IfB.ff ?_ ?_; (focus (simp <;> fail))) | (refine fits (wrap64 ?_ ?_) ?_; (focus omega); (focus omega)) | (refine fits (wrapU64 ?_ ?_) ?_; (focus omega); (focus omega)) | (refine Need.mk ?_ ?_; (focus omega)) | (refine InB.mk ?_ ?_ ?_; (focus omega); (focus omega)))); (try (conv => whnf)); refine Choice.mk ⟨true, Choice.mk ⟨false, _, _, t2, ?_⟩⟩)
  ((repeat ((conv => whnf); first | (refine Sure.mk (by kernel_rfl) ?_) | (refine IfB.tt rfl ?_) | (refine IfB.ff rfl ?_) | (refine IfB.tt ?_ ?_; (focus (simp <;> fail))) | (refine IfB.ff ?_ ?_; (focus (simp <;> fail))) | (refine fits (wrap64 ?_ ?_) ?_; (focus omega); (focus omega)) | (refine fits (wrapU64 ?_ ?_) ?_; (focus omega); (focus omega)) | (refine Need.mk ?_ ?_; (focus omega)) | (refine InB.mk ?_ ?_ ?_; (focus omega); (focus omega)))); (try (conv => whnf)); refine LoopN.mk ⟨[6,7,8,9], fun vs L => ∃ k : Nat, vs = [.lst t_api_Op (os.map X.encO), .lst t_int (WD.map fun n => i64 (n : Nat)), i64 (sumW (os.take k) : Nat), i64 k] ∧ L = [] ∧ k ≤ os.length, fun vs L => match vs with | [_, _, _, .int _ i] => os.length - i.toNat | _ => 0, [7], [], rfl, ⟨0, rfl, rfl, by omega⟩, ?_⟩)
  rintro vs L ⟨k, rfl, rfl, hk⟩
  by_cases hko : k < os.length
  · obtain ⟨c, hc, ho⟩ := hop _ (List.getElem_mem hko)
    have hsu := sumW_succ hko
    have hg := good_iff hc ho
    have hw := putO_wd ho
    have hsl := sumW_le (os.take k)
    rw [List.length_take] at hsl
    have hk10 := ho.k
    have hp1 := putAll_len (l := [os[k]]) (fun o h => by simp at h; subst h; exact ⟨c, hc, ho⟩)
    obtain ⟨hwk, hwe⟩ := wd_get hk10
    have hw8 := wd_le (k := os[k].k)
    ((repeat ((conv => whnf); first | (refine Sure.mk (by kernel_rfl) ?_) | (refine IfB.tt rfl ?_) | (refine IfB.ff rfl ?_) | (refine IfB.tt ?_ ?_; (focus (simp <;> fail))) | (refine IfB.ff ?_ ?_; (focus (simp <;> fail))) | (refine fits (wrap64 ?_ ?_) ?_; (focus omega); (focus omega)) | (refine fits (wrapU64 ?_ ?_) ?_; (focus omega); (focus omega)) | (refine Need.mk ?_ ?_; (focus omega)) | (refine InB.mk ?_ ?_ ?_; (focus omega); (focus omega)))); (try (conv => whnf)); refine IfB.tt (by simp; omega) ?_)
    ((repeat ((conv => whnf); first | (refine Sure.mk (by kernel_rfl) ?_) | (refine IfB.tt rfl ?_) | (refine IfB.ff rfl ?_) | (refine IfB.tt ?_ ?_; (focus (simp <;> fail))) | (refine IfB.ff ?_ ?_; (focus (simp <;> fail))) | (refine fits (wrap64 ?_ ?_) ?_; (focus omega); (focus omega)) | (refine fits (wrapU64 ?_ ?_) ?_; (focus omega); (focus omega)) | (refine Need.mk ?_ ?_; (focus omega)) | (refine InB.mk ?_ ?_ ?_; (focus omega); (focus omega)))); (try (conv => whnf)); refine idx_map (hko) ?_)
    have hpa : X.putAll [os[k]] = if X.take (X.putO os[k]) = [os[k]] then X.putO os[k] else [] := by unfold X.putAll; simp
    have hnn : nnO os[k] = (decide (0 ≤ os[k].p) && (decide (0 ≤ os[k].s) && (decide (0 ≤ os[k].a) && decide (0 ≤ os[k].n)))) := rfl
    have hput := X.putAll_told [os[k]] (fun o h => by simp at h; subst h; exact ho.isO) (by simp)
    generalize os[k] = o at *
    by_cases hn : nnO o = true
    · have hn' := hn
      rw [hnn] at hn'
      simp only [Bool.and_eq_true, decide_eq_true_eq] at hn'
      obtain ⟨n1, n2, n3, n4⟩ := hn'
      have hgo := hg.2 hn
      unfold X.Good at hgo
      rw [if_pos hgo] at hpa
      rw [hpa] at hput
      rw [if_pos hn] at hsu
      ((repeat ((conv => whnf); first | (refine Sure.mk (by kernel_rfl) ?_) | (refine IfB.tt rfl ?_) | (refine IfB.ff rfl ?_) | (refine IfB.tt ?_ ?_; (focus (simp <;> fail))) | (refine IfB.ff ?_ ?_; (focus (simp <;> fail))) | (refine fits (wrap64 ?_ ?_) ?_; (focus omega); (focus omega)) | (refine fits (wrapU64 ?_ ?_) ?_; (focus omega); (focus omega)) | (refine Need.mk ?_ ?_; (focus omega)) | (refine InB.mk ?_ ?_ ?_; (focus omega); (focus omega)))); (try (conv => whnf)); refine IfB.tt (by simpa using n1) ?_)
      ((repeat ((conv => whnf); first | (refine Sure.mk (by kernel_rfl) ?_) | (refine IfB.tt rfl ?_) | (refine IfB.ff rfl ?_) | (refine IfB.tt ?_ ?_; (focus (simp <;> fail))) | (refine IfB.ff ?_ ?_; (focus (simp <;> fail))) | (refine fits (wrap64 ?_ ?_) ?_; (focus omega); (focus omega)) | (refine fits (wrapU64 ?_ ?_) ?_; (focus omega); (focus omega)) | (refine Need.mk ?_ ?_; (focus omega)) | (refine InB.mk ?_ ?_ ?_; (focus omega); (focus omega)))); (try (conv => whnf)); refine IfB.tt (by simpa using n2) ?_)
      ((repeat ((conv => whnf); first | (refine Sure.mk (by kernel_rfl) ?_) | (refine IfB.tt rfl ?_) | (refine IfB.ff rfl ?_) | (refine IfB.tt ?_ ?_; (focus (simp <;> fail))) | (refine IfB.ff ?_ ?_; (focus (simp <;> fail))) | (refine fits (wrap64 ?_ ?_) ?_; (focus omega); (focus omega)) | (refine fits (wrapU64 ?_ ?_) ?_; (focus omega); (focus omega)) | (refine Need.mk ?_ ?_; (focus omega)) | (refine InB.mk ?_ ?_ ?_; (focus omega); (focus omega)))); (try (conv => whnf)); refine IfB.tt (by simpa using n3) ?_)
      ((repeat ((conv => whnf); first | (refine Sure.mk (by kernel_rfl) ?_) | (refine IfB.tt rfl ?_) | (refine IfB.ff rfl ?_) | (refine IfB.tt ?_ ?_; (focus (simp <;> fail))) | (refine IfB.ff ?_ ?_; (focus (simp <;> fail))) | (refine fits (wrap64 ?_ ?_) ?_; (focus omega); (focus omega)) | (refine fits (wrapU64 ?_ ?_) ?_; (focus omega); (focus omega)) | (refine Need.mk ?_ ?_; (focus omega)) | (refine InB.mk ?_ ?_ ?_; (focus omega); (focus omega)))); (try (conv => whnf)); refine IfB.tt (by simpa using n4) ?_)
      have hle : (X.encB (X.putO o)).length = wd o.k := by unfold X.encB; rw [List.length_map]; exact hw
      have hcons : ∃ t, X.encB (X.putO o) = .int .u8 o.k :: t := by
        unfold X.putO X.encB
        rw [X.w8_k hk10]
        exact ⟨_, rfl⟩
      obtain ⟨tl, htl⟩ := hcons
      ((repeat ((conv => whnf); first | (refine Sure.mk (by kernel_rfl) ?_) | (refine IfB.tt rfl ?_) | (refine IfB.ff rfl ?_) | (refine IfB.tt ?_ ?_; (focus (simp <;> fail))) | (refine IfB.ff ?_ ?_; (focus (simp <;> fail))) | (refine fits (wrap64 ?_ ?_) ?_; (focus omega); (focus omega)) | (refine fits (wrapU64 ?_ ?_) ?_; (focus omega); (focus omega)) | (refine Need.mk ?_ ?_; (focus omega)) | (refine InB.mk ?_ ?_ ?_; (focus omega); (focus omega)))); (try (conv => whnf)))
      refine idx_wd hk10 ?_
      ((repeat ((conv => whnf); first | (refine Sure.mk (by kernel_rfl) ?_) | (refine IfB.tt rfl ?_) | (refine IfB.ff rfl ?_) | (refine IfB.tt ?_ ?_; (focus (simp <;> fail))) | (refine IfB.ff ?_ ?_; (focus (simp <;> fail))) | (refine fits (wrap64 ?_ ?_) ?_; (focus omega); (focus omega)) | (refine fits (wrapU64 ?_ ?_) ?_; (focus omega); (focus omega)) | (refine Need.mk ?_ ?_; (focus omega)) | (refine InB.mk ?_ ?_ ?_; (focus omega); (focus omega)))); (try (conv => whnf)); refine Choice.mk ⟨false, Choice.mk ⟨false, _, _, hput, ?_⟩⟩)
      ((repeat ((conv => whnf); first | (refine Sure.mk (by kernel_rfl) ?_) | (refine IfB.tt rfl ?_) | (refine IfB.ff rfl ?_) | (refine IfB.tt ?_ ?_; (focus (simp <;> fail))) | (refine IfB.ff ?_ ?_; (focus (simp <;> fail))) | (refine fits (wrap64 ?_ ?_) ?_; (focus omega); (focus omega)) | (refine fits (wrapU64 ?_ ?_) ?_; (focus omega); (focus omega)) | (refine Need.mk ?_ ?_; (focus omega)) | (refine InB.mk ?_ ?_ ?_; (focus omega); (focus omega)))); (try (conv => whnf)))
      refine idx_wd hk10 ?_
      ((repeat ((conv => whnf); first | (refine Sure.mk (by kernel_rfl) ?_) | (refine IfB.tt rfl ?_) | (refine IfB.ff rfl ?_) | (refine IfB.tt ?_ ?_; (focus (simp <;> fail))) | (refine IfB.ff ?_ ?_; (focus (simp <;> fail))) | (refine fits (wrap64 ?_ ?_) ?_; (focus omega); (focus omega)) | (refine fits (wrapU64 ?_ ?_) ?_; (focus omega); (focus omega)) | (refine Need.mk ?_ ?_; (focus omega)) | (refine InB.mk ?_ ?_ ?_; (focus omega); (focus omega)))); (try (conv => whnf)); refine IfB.ff (by rw [hle]; simp) ?_)
      ((repeat ((conv => whnf); first | (refine Sure.mk (by kernel_rfl) ?_) | (refine IfB.tt rfl ?_) | (refine IfB.ff rfl ?_) | (refine IfB.tt ?_ ?_; (focus (simp <;> fail))) | (refine IfB.ff ?_ ?_; (focus (simp <;> fail))) | (refine fits (wrap64 ?_ ?_) ?_; (focus omega); (focus omega)) | (refine fits (wrapU64 ?_ ?_) ?_; (focus omega); (focus omega)) | (refine Need.mk ?_ ?_; (focus omega)) | (refine InB.mk ?_ ?_ ?_; (focus omega); (focus omega)))); (try (conv => whnf)))
      rw [htl]
      refine InB.mk (by omega) (by simp) ?_
      ((repeat ((conv => whnf); first | (refine Sure.mk (by kernel_rfl) ?_) | (refine IfB.tt rfl ?_) | (refine IfB.ff rfl ?_) | (refine IfB.tt ?_ ?_; (focus (simp <;> fail))) | (refine IfB.ff ?_ ?_; (focus (simp <;> fail))) | (refine fits (wrap64 ?_ ?_) ?_; (focus omega); (focus omega)) | (refine fits (wrapU64 ?_ ?_) ?_; (focus omega); (focus omega)) | (refine Need.mk ?_ ?_; (focus omega)) | (refine InB.mk ?_ ?_ ?_; (focus omega); (focus omega)))); (try (conv => whnf)))
      first | (refine At.mk ⟨_, rfl, ?_⟩) | skip
      ((repeat ((conv => whnf); first | (refine Sure.mk (by kernel_rfl) ?_) | (refine IfB.tt rfl ?_) | (refine IfB.ff rfl ?_) | (refine IfB.tt ?_ ?_; (focus (simp <;> fail))) | (refine IfB.ff ?_ ?_; (focus (simp <;> fail))) | (refine fits (wrap64 ?_ ?_) ?_; (focus omega); (focus omega)) | (refine fits (wrapU64 ?_ ?_) ?_; (focus omega); (focus omega)) | (refine Need.mk ?_ ?_; (focus omega)) | (refine InB.mk ?_ ?_ ?_; (focus omega); (focus omega)))); (try (conv => whnf)); refine ⟨[], [], rfl, ⟨k + 1, by rw [hsu]; rfl, rfl, hko⟩, (by omega : os.length - ((k : Int) + 1).toNat < os.length - (k : Int).toNat)⟩)
    · rw [if_neg hn] at hsu
      by_cases n1 : 0 ≤ o.p
      · ((repeat ((conv => whnf); first | (refine Sure.mk (by kernel_rfl) ?_) | (refine IfB.tt rfl ?_) | (refine IfB.ff rfl ?_) | (refine IfB.tt ?_ ?_; (focus (simp <;> fail))) | (refine IfB.ff ?_ ?_; (focus (simp <;> fail))) | (refine fits (wrap64 ?_ ?_) ?_; (focus omega); (focus omega)) | (refine fits (wrapU64 ?_ ?_) ?_; (focus omega); (focus omega)) | (refine Need.mk ?_ ?_; (focus omega)) | (refine InB.mk ?_ ?_ ?_; (focus omega); (focus omega)))); (try (conv => whnf)); refine IfB.tt (by simpa using n1) ?_)
        by_cases n2 : 0 ≤ o.s
        · ((repeat ((conv => whnf); first | (refine Sure.mk (by kernel_rfl) ?_) | (refine IfB.tt rfl ?_) | (refine IfB.ff rfl ?_) | (refine IfB.tt ?_ ?_; (focus (simp <;> fail))) | (refine IfB.ff ?_ ?_; (focus (simp <;> fail))) | (refine fits (wrap64 ?_ ?_) ?_; (focus omega); (focus omega)) | (refine fits (wrapU64 ?_ ?_) ?_; (focus omega); (focus omega)) | (refine Need.mk ?_ ?_; (focus omega)) | (refine InB.mk ?_ ?_ ?_; (focus omega); (focus omega)))); (try (conv => whnf)); refine IfB.tt (by simpa using n2) ?_)
          by_cases n3 : 0 ≤ o.a
          · ((repeat ((conv => whnf); first | (refine Sure.mk (by kernel_rfl) ?_) | (refine IfB.tt rfl ?_) | (refine IfB.ff rfl ?_) | (refine IfB.tt ?_ ?_; (focus (simp <;> fail))) | (refine IfB.ff ?_ ?_; (focus (simp <;> fail))) | (refine fits (wrap64 ?_ ?_) ?_; (focus omega); (focus omega)) | (refine fits (wrapU64 ?_ ?_) ?_; (focus omega); (focus omega)) | (refine Need.mk ?_ ?_; (focus omega)) | (refine InB.mk ?_ ?_ ?_; (focus omega); (focus omega)))); (try (conv => whnf)); refine IfB.tt (by simpa using n3) ?_)
            by_cases n4 : 0 ≤ o.n
            · exfalso; apply hn; rw [hnn]; simp [n1, n2, n3, n4]
            · ((repeat ((conv => whnf); first | (refine Sure.mk (by kernel_rfl) ?_) | (refine IfB.tt rfl ?_) | (refine IfB.ff rfl ?_) | (refine IfB.tt ?_ ?_; (focus (simp <;> fail))) | (refine IfB.ff ?_ ?_; (focus (simp <;> fail))) | (refine fits (wrap64 ?_ ?_) ?_; (focus omega); (focus omega)) | (refine fits (wrapU64 ?_ ?_) ?_; (focus omega); (focus omega)) | (refine Need.mk ?_ ?_; (focus omega)) | (refine InB.mk ?_ ?_ ?_; (focus omega); (focus omega)))); (try (conv => whnf)); refine IfB.ff (by simpa using n4) ?_)
              ((repeat ((conv => whnf); first | (refine Sure.mk (by kernel_rfl) ?_) | (refine IfB.tt rfl ?_) | (refine IfB.ff rfl ?_) | (refine IfB.tt ?_ ?_; (focus (simp <;> fail))) | (refine IfB.ff ?_ ?_; (focus (simp <;> fail))) | (refine fits (wrap64 ?_ ?_) ?_; (focus omega); (focus omega)) | (refine fits (wrapU64 ?_ ?_) ?_; (focus omega); (focus omega)) | (refine Need.mk ?_ ?_; (focus omega)) | (refine InB.mk ?_ ?_ ?_; (focus omega); (focus omega)))); (try (conv => whnf)); refine ⟨[], [], rfl, ⟨k + 1, by rw [hsu]; rfl, rfl, hko⟩, (by omega : os.length - ((k : Int) + 1).toNat < os.length - (k : Int).toNat)⟩)
          · ((repeat ((conv => whnf); first | (refine Sure.mk (by kernel_rfl) ?_) | (refine IfB.tt rfl ?_) | (refine IfB.ff rfl ?_) | (refine IfB.tt ?_ ?_; (focus (simp <;> fail))) | (refine IfB.ff ?_ ?_; (focus (simp <;> fail))) | (refine fits (wrap64 ?_ ?_) ?_; (focus omega); (focus omega)) | (refine fits (wrapU64 ?_ ?_) ?_; (focus omega); (focus omega)) | (refine Need.mk ?_ ?_; (focus omega)) | (refine InB.mk ?_ ?_ ?_; (focus omega); (focus omega)))); (try (conv => whnf)); refine IfB.ff (by simpa using n3) ?_)
            ((repeat ((conv => whnf); first | (refine Sure.mk (by kernel_rfl) ?_) | (refine IfB.tt rfl ?_) | (refine IfB.ff rfl ?_) | (refine IfB.tt ?_ ?_; (focus (simp <;> fail))) | (refine IfB.ff ?_ ?_; (focus (simp <;> fail))) | (refine fits (wrap64 ?_ ?_) ?_; (focus omega); (focus omega)) | (refine fits (wrapU64 ?_ ?_) ?_; (focus omega); (focus omega)) | (refine Need.mk ?_ ?_; (focus omega)) | (refine InB.mk ?_ ?_ ?_; (focus omega); (focus omega)))); (try (conv => whnf)); refine ⟨[], [], rfl, ⟨k + 1, by rw [hsu]; rfl, rfl, hko⟩, (by omega : os.length - ((k : Int) + 1).toNat < os.length - (k : Int).toNat)⟩)
        · ((repeat ((conv => whnf); first | (refine Sure.mk (by kernel_rfl) ?_) | (refine IfB.tt rfl ?_) | (refine IfB.ff rfl ?_) | (refine IfB.tt ?_ ?_; (focus (simp <;> fail))) | (refine IfB.ff ?_ ?_; (focus (simp <;> fail))) | (refine fits (wrap64 ?_ ?_) ?_; (focus omega); (focus omega)) | (refine fits (wrapU64 ?_ ?_) ?_; (focus omega); (focus omega)) | (refine Need.mk ?_ ?_; (focus omega)) | (refine InB.mk ?_ ?_ ?_; (focus omega); (focus omega)))); (try (conv => whnf)); refine IfB.ff (by simpa using n2) ?_)
          ((repeat ((conv => whnf); first | (refine Sure.mk (by kernel_rfl) ?_) | (refine IfB.tt rfl ?_) | (refine IfB.ff rfl ?_) | (refine IfB.tt ?_ ?_; (focus (simp <;> fail))) | (refine IfB.ff ?_ ?_; (focus (simp <;> fail))) | (refine fits (wrap64 ?_ ?_) ?_; (focus omega); (focus omega)) | (refine fits (wrapU64 ?_ ?_) ?_; (focus omega); (focus omega)) | (refine Need.mk ?_ ?_; (focus omega)) | (refine InB.mk ?_ ?_ ?_; (focus omega); (focus omega)))); (try (conv => whnf)); refine ⟨[], [], rfl, ⟨k + 1, by rw [hsu]; rfl, rfl, hko⟩, (by omega : os.length - ((k : Int) + 1).toNat < os.length - (k : Int).toNat)⟩)
      · ((repeat ((conv => whnf); first | (refine Sure.mk (by kernel_rfl) ?_) | (refine IfB.tt rfl ?_) | (refine IfB.ff rfl ?_) | (refine IfB.tt ?_ ?_; (focus (simp <;> fail))) | (refine IfB.ff ?_ ?_; (focus (simp <;> fail))) | (refine fits (wrap64 ?_ ?_) ?_; (focus omega); (focus omega)) | (refine fits (wrapU64 ?_ ?_) ?_; (focus omega); (focus omega)) | (refine Need.mk ?_ ?_; (focus omega)) | (refine InB.mk ?_ ?_ ?_; (focus omega); (focus omega)))); (try (conv => whnf)); refine IfB.ff (by simpa using n1) ?_)
        ((repeat ((conv => whnf); first | (refine Sure.mk (by kernel_rfl) ?_) | (refine IfB.tt rfl ?_) | (refine IfB.ff rfl ?_) | (refine IfB.tt ?_ ?_; (focus (simp <;> fail))) | (refine IfB.ff ?_ ?_; (focus (simp <;> fail))) | (refine fits (wrap64 ?_ ?_) ?_; (focus omega); (focus omega)) | (refine fits (wrapU64 ?_ ?_) ?_; (focus omega); (focus omega)) | (refine Need.mk ?_ ?_; (focus omega)) | (refine InB.mk ?_ ?_ ?_; (focus omega); (focus omega)))); (try (conv => whnf)); refine ⟨[], [], rfl, ⟨k + 1, by rw [hsu]; rfl, rfl, hko⟩, (by omega : os.length - ((k : Int) + 1).toNat < os.length - (k : Int).toNat)⟩)
  · have e : k = os.length := by omega
    subst e
    rw [List.take_length]
    have hput := X.putAll_told os (fun o h => by obtain ⟨c, _, h⟩ := hop o h; exact h.isO) (by omega)
    ((repeat ((conv => whnf); first | (refine Sure.mk (by kernel_rfl) ?_) | (refine IfB.tt rfl ?_) | (refine IfB.ff rfl ?_) | (refine IfB.tt ?_ ?_; (focus (simp <;> fail))) | (refine IfB.ff ?_ ?_; (focus (simp <;> fail))) | (refine fits (wrap64 ?_ ?_) ?_; (focus omega); (focus omega)) | (refine fits (wrapU64 ?_ ?_) ?_; (focus omega); (focus omega)) | (refine Need.mk ?_ ?_; (focus omega)) | (refine InB.mk ?_ ?_ ?_; (focus omega); (focus omega)))); (try (conv => whnf)); refine Choice.mk ⟨false, Choice.mk ⟨false, _, _, hput, ?_⟩⟩)
    have hle : (X.encB (X.putAll os)).length = sumW os := by unfold X.encB; rw [List.length_map]; exact hall
    ((repeat ((conv => whnf); first | (refine Sure.mk (by kernel_rfl) ?_) | (refine IfB.tt rfl ?_) | (refine IfB.ff rfl ?_) | (refine IfB.tt ?_ ?_; (focus (simp <;> fail))) | (refine IfB.ff ?_ ?_; (focus (simp <;> fail))) | (refine fits (wrap64 ?_ ?_) ?_; (focus omega); (focus omega)) | (refine fits (wrapU64 ?_ ?_) ?_; (focus omega); (focus omega)) | (refine Need.mk ?_ ?_; (focus omega)) | (refine InB.mk ?_ ?_ ?_; (focus omega); (focus omega)))); (try (conv => whnf)); refine RetN.mk ⟨[], rfl, ?_, rfl⟩)
    rw [hle]
    refine congrArg AV.bool ?_
    exact beq_self_eq_true _
theorem wireLong {x0 x1 : AV} (h0 : Shp T 8 ts_uint8 x0) (h1 : Shp T 8 ts_uint8 x1) : Told P T law25_WireLong [] [x0, x1] (.bool true) [] := by
  obtain ⟨a, rfl, ha, hla⟩ := shp_bytes h0
  obtain ⟨b, rfl, hb, hlb⟩ := shp_bytes h1
  exact wireLong_told ha hla hb hlb
end Go.Ev.W
