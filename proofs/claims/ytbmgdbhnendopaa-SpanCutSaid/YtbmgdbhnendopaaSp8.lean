/- Words and lemmas for the law s of this seat (a part of its proof). -/
import Derived.Test.YtbmgdbhnendopaaSp7
set_option linter.unusedVariables false
set_option linter.unusedSimpArgs false
namespace Go.Ev.W
open Go.Ev Go.Ev.N

theorem lowS_append {y : Int} : ∀ {l1 l2 : List Sp}, (∀ x ∈ l1, x.a < y) → (∀ x ∈ l2, y ≤ x.a) → lowS y (l1 ++ l2) = l1.length
  | [], [], _, _ => rfl
  | [], x :: l2, _, h => by simp [lowS]; have := h x (by simp); omega
  | x :: l1, l2, h1, h2 => by
    have := lowS_append (l1 := l1) (l2 := l2) (fun z hz => h1 z (by simp [hz])) h2
    have hx := h1 x (by simp)
    simp [lowS, hx, this]
theorem apart_mid {l1 l2 : List Sp} {s : Sp} (h : Apart (l1 ++ s :: l2)) : Apart (l1 ++ l2) ∧ oneB s = true ∧ (∀ x ∈ l1, x.a + x.n ≤ s.a) ∧ (∀ x ∈ l2, s.a + s.n ≤ x.a) := by
  obtain ⟨ho, hp⟩ := h
  rw [List.pairwise_append, List.pairwise_cons] at hp
  refine ⟨⟨fun x hx => ho x (by simp at hx ⊢; rcases hx with h | h <;> simp [h]), ?_⟩, ho s (by simp), fun x hx => hp.2.2 x hx s (by simp), hp.2.1.1⟩
  rw [List.pairwise_append]
  exact ⟨hp.1, hp.2.1.2, fun x hx y hy => hp.2.2 x hx y (by simp [hy])⟩
theorem put_mid {l1 l2 : List Sp} {s : Sp} (h : Apart (l1 ++ s :: l2)) : putR (l1 ++ l2) s = (l1 ++ s :: l2, true) := by
  obtain ⟨ha, hs, h1, h2⟩ := apart_mid h
  have hs' := (oneB_iff _).1 hs
  have g1 : ∀ x ∈ l1, x.a < s.a := fun x hx => by have := h1 x hx; have := (oneB_iff _).1 (ha.1 x (by simp [hx])); omega
  have g2 : ∀ x ∈ l2, s.a ≤ x.a := fun x hx => by have := h2 x hx; omega
  have hl := lowS_append g1 g2
  have hc := clash_iff hs ha hl g1 g2
  have : ((l1 ++ l2).any fun x => overB x s) = false := by
    rw [List.any_eq_false]
    intro x hx
    rw [over_iff]
    rcases List.mem_append.1 hx with hx | hx
    · have := h1 x hx; omega
    · have := h2 x hx; omega
  unfold putR
  rw [if_pos ⟨hs, by rw [hc, this]⟩, hl, List.take_left, List.drop_left]
theorem posS_none' {y : Int} {l1 l2 : List Sp} {s : Sp} (h : Apart (l1 ++ s :: l2)) : posS s.a (l1 ++ l2) = none := by
  obtain ⟨ha, hs, h1, h2⟩ := apart_mid h
  have hs' := (oneB_iff _).1 hs
  refine posS_none fun x hx => ?_
  have := (oneB_iff _).1 (ha.1 x hx)
  rcases List.mem_append.1 hx with hx | hx
  · have := h1 x hx; omega
  · have := h2 x hx; omega
theorem total_append (l1 l2 : List Sp) : total (l1 ++ l2) = total l1 + total l2 := by simp [total]

set_option maxHeartbeats 4000000 in
theorem spanCut_told (bs : List Nat) (hb : IsB bs) (hl : bs.length ≤ maxLen) (w : Nat) (hw : w < 256) : Told P T law8_SpanCut [] [lB bs, u8 w] (.bool true) [] := by
  have hmb : (bs.map u8).length = bs.length := by simp
  refine told_of_ev (fn := law8_SpanCut_fn) tabOk mixed (by kernel_rfl) (by kernel_rfl) (by kernel_rfl) (by kernel_rfl) ?_
  ((repeat ((conv => whnf); first | (refine Sure.mk (by kernel_rfl) ?_) | (refine IfB.tt rfl ?_) | (refine IfB.ff rfl ?_) | (refine IfB.tt ?_ ?_; (focus (simp <;> fail))) | (refine IfB.ff ?_ ?_; (focus (simp <;> fail))) | (refine fits (wrap64 ?_ ?_) ?_; (focus omega); (focus omega)) | (refine Need.mk ?_ ?_; (focus omega)) | (refine InB.mk ?_ ?_ ?_; (focus omega); (focus omega)))); (try (conv => whnf)); refine Choice.mk ⟨false, Choice.mk ⟨true, _, _, begun8_told, ?_⟩⟩)
  ((repeat ((conv => whnf); first | (refine Sure.mk (by kernel_rfl) ?_) | (refine IfB.tt rfl ?_) | (refine IfB.ff rfl ?_) | (refine IfB.tt ?_ ?_; (focus (simp <;> fail))) | (refine IfB.ff ?_ ?_; (focus (simp <;> fail))) | (refine fits (wrap64 ?_ ?_) ?_; (focus omega); (focus omega)) | (refine Need.mk ?_ ?_; (focus omega)) | (refine InB.mk ?_ ?_ ?_; (focus omega); (focus omega)))); (try (conv => whnf)); first | refine IfB.dec (fun h1 => ?_) (fun h1 => ?_) | refine IfB.eq (fun h1 => ?_) (fun h1 => ?_) | refine IfB.ne (fun h1 => ?_) (fun h1 => ?_) | refine IfB.mk (fun h1 => ?_) (fun h1 => ?_))
  · ((repeat ((conv => whnf); first | (refine Sure.mk (by kernel_rfl) ?_) | (refine IfB.tt rfl ?_) | (refine IfB.ff rfl ?_) | (refine IfB.tt ?_ ?_; (focus (simp <;> fail))) | (refine IfB.ff ?_ ?_; (focus (simp <;> fail))) | (refine fits (wrap64 ?_ ?_) ?_; (focus omega); (focus omega)) | (refine Need.mk ?_ ?_; (focus omega)) | (refine InB.mk ?_ ?_ ?_; (focus omega); (focus omega)))); (try (conv => whnf)); exact RetN.mk ⟨[], rfl, rfl, rfl⟩)
  · ((repeat ((conv => whnf); first | (refine Sure.mk (by kernel_rfl) ?_) | (refine IfB.tt rfl ?_) | (refine IfB.ff rfl ?_) | (refine IfB.tt ?_ ?_; (focus (simp <;> fail))) | (refine IfB.ff ?_ ?_; (focus (simp <;> fail))) | (refine fits (wrap64 ?_ ?_) ?_; (focus omega); (focus omega)) | (refine Need.mk ?_ ?_; (focus omega)) | (refine InB.mk ?_ ?_ ?_; (focus omega); (focus omega)))); (try (conv => whnf)); refine Choice.mk ⟨false, Choice.mk ⟨false, _, _, spans_told bs hb hl, ?_⟩⟩)
    obtain ⟨l, hl⟩ : ∃ l, spansF 10 ⟨bs, 0⟩ [] = l := ⟨_, rfl⟩
    have hs : Small l 10 := by
      have := spansF_small 10 ⟨bs, 0⟩ [] 0 ⟨⟨by simp, List.Pairwise.nil⟩, by simp, by simp⟩
      rw [hl] at this; exact this
    rw [hl]
    have hn := hs.n
    have hml : (l.map eS).length = l.length := by simp
    ((repeat ((conv => whnf); first | (refine Sure.mk (by kernel_rfl) ?_) | (refine IfB.tt rfl ?_) | (refine IfB.ff rfl ?_) | (refine IfB.tt ?_ ?_; (focus (simp <;> fail))) | (refine IfB.ff ?_ ?_; (focus (simp <;> fail))) | (refine fits (wrap64 ?_ ?_) ?_; (focus omega); (focus omega)) | (refine Need.mk ?_ ?_; (focus omega)) | (refine InB.mk ?_ ?_ ?_; (focus omega); (focus omega)))); (try (conv => whnf)); first | refine IfB.dec (fun h2 => ?_) (fun h2 => ?_) | refine IfB.eq (fun h2 => ?_) (fun h2 => ?_) | refine IfB.ne (fun h2 => ?_) (fun h2 => ?_) | refine IfB.mk (fun h2 => ?_) (fun h2 => ?_))
    · ((repeat ((conv => whnf); first | (refine Sure.mk (by kernel_rfl) ?_) | (refine IfB.tt rfl ?_) | (refine IfB.ff rfl ?_) | (refine IfB.tt ?_ ?_; (focus (simp <;> fail))) | (refine IfB.ff ?_ ?_; (focus (simp <;> fail))) | (refine fits (wrap64 ?_ ?_) ?_; (focus omega); (focus omega)) | (refine Need.mk ?_ ?_; (focus omega)) | (refine InB.mk ?_ ?_ ?_; (focus omega); (focus omega)))); (try (conv => whnf)); exact RetN.mk ⟨[], rfl, rfl, rfl⟩)
    · have hk : w % l.length < l.length := Nat.mod_lt _ (by omega)
      obtain ⟨k, hke⟩ : ∃ k, w % l.length = k := ⟨_, rfl⟩
      rw [hke] at hk
      have em : ((w : Nat) : Int).tmod (l.map eS).length = ((k : Nat) : Int) := by rw [hml, Int.tmod_eq_emod_of_nonneg (by omega)]; omega
      repeat ((conv => whnf); first | (refine Sure.mk (by kernel_rfl) ?_) | (refine IfB.tt rfl ?_) | (refine IfB.ff rfl ?_) | (refine IfB.tt ?_ ?_; (focus (simp <;> fail))) | (refine IfB.ff ?_ ?_; (focus (simp <;> fail))) | (refine fits (wrap64 ?_ ?_) ?_; (focus omega); (focus omega)) | (refine Need.mk ?_ ?_; (focus omega)) | (refine InB.mk ?_ ?_ ?_; (focus omega); (focus omega)))
      refine idx_map' k em hk ?_
      obtain ⟨l1, l2, s, e1, e2, e3⟩ : ∃ l1 l2 s, l = l1 ++ s :: l2 ∧ l1.length = k ∧ l[k] = s := ⟨l.take k, l.drop (k + 1), l[k], by rw [List.getElem_cons_drop, List.take_append_drop], by simp; omega, rfl⟩
      have ha := hs.a
      have hp : posS s.a l = some k := by
        refine posS_some hk (fun j hj h5 h6 => ?_) (by rw [e3])
        have := (mayFrom_lt (may0_iff.2 ha) hk h5).2
        rw [e3] at this; omega
      have hc : cutF l s.a = (l1 ++ l2, s, true) := by
        unfold cutF; rw [hp]
        simp only [List.getElem?_eq_getElem hk, e3]
        subst e1; subst e2; simp
      have hc2 : cutF (l1 ++ l2) s.a = (l1 ++ l2, ⟨0, 0⟩, false) := by unfold cutF; rw [posS_none' (y := 0) (e1 ▸ ha)]
      have hp2 : putR (l1 ++ l2) s = (l, true) := by rw [e1]; exact put_mid (e1 ▸ ha)
      obtain ⟨ha2, hs2, _, _⟩ := apart_mid (e1 ▸ ha)
      have hn2 : l.length = (l1 ++ l2).length + 1 := by rw [e1]; simp; omega
      have ht : total l = total (l1 ++ l2) + s.n := by
        rw [e1, total_append, total_append]; simp [total]; omega
      have c1 := cut_told l s.a (by omega) (may0_iff.2 ha)
      rw [hc] at c1
      have c2 := cut_told (l1 ++ l2) s.a (by omega) (may0_iff.2 ha2)
      rw [hc2] at c2
      have c3 := put_told (l1 ++ l2) s (by omega) ha2.1
      rw [hp2] at c3
      have b1 : ∀ j, j ≤ l.length → 0 ≤ total (l.take j) ∧ total (l.take j) ≤ 9223372036854775807 := fun j hj => by have := total_le hs j hj; omega
      have hs3 : Small (l1 ++ l2) 10 := ⟨ha2, by omega, fun x hx => hs.e x (by rw [e1]; simp at hx ⊢; rcases hx with h | h <;> simp [h])⟩
      have b2 : ∀ j, j ≤ (l1 ++ l2).length → 0 ≤ total ((l1 ++ l2).take j) ∧ total ((l1 ++ l2).take j) ≤ 9223372036854775807 := fun j hj => by have := total_le hs3 j hj; omega
      have b3 := b1 l.length (by omega)
      have b4 := (oneB_iff _).1 hs2
      rw [List.take_length] at b3
      rw [e3]
      have hml2 : ((l1 ++ l2).map eS).length = (l1 ++ l2).length := by simp
      have b5 := b2 (l1 ++ l2).length (Nat.le_refl _)
      rw [List.take_length] at b5
      ((repeat ((conv => whnf); first | (refine Sure.mk (by kernel_rfl) ?_) | (refine IfB.tt rfl ?_) | (refine IfB.ff rfl ?_) | (refine IfB.tt ?_ ?_; (focus (simp <;> fail))) | (refine IfB.ff ?_ ?_; (focus (simp <;> fail))) | (refine fits (wrap64 ?_ ?_) ?_; (focus omega); (focus omega)) | (refine Need.mk ?_ ?_; (focus omega)) | (refine InB.mk ?_ ?_ ?_; (focus omega); (focus omega)))); (try (conv => whnf)); refine Choice.mk ⟨false, Choice.mk ⟨false, _, _, c1, ?_⟩⟩)
      ((repeat ((conv => whnf); first | (refine Sure.mk (by kernel_rfl) ?_) | (refine IfB.tt rfl ?_) | (refine IfB.ff rfl ?_) | (refine IfB.tt ?_ ?_; (focus (simp <;> fail))) | (refine IfB.ff ?_ ?_; (focus (simp <;> fail))) | (refine fits (wrap64 ?_ ?_) ?_; (focus omega); (focus omega)) | (refine Need.mk ?_ ?_; (focus omega)) | (refine InB.mk ?_ ?_ ?_; (focus omega); (focus omega)))); (try (conv => whnf)); refine IfB.ff (by rw [hml2, hml, hn2]; simp) ?_)
      ((repeat ((conv => whnf); first | (refine Sure.mk (by kernel_rfl) ?_) | (refine IfB.tt rfl ?_) | (refine IfB.ff rfl ?_) | (refine IfB.tt ?_ ?_; (focus (simp <;> fail))) | (refine IfB.ff ?_ ?_; (focus (simp <;> fail))) | (refine fits (wrap64 ?_ ?_) ?_; (focus omega); (focus omega)) | (refine Need.mk ?_ ?_; (focus omega)) | (refine InB.mk ?_ ?_ ?_; (focus omega); (focus omega)))); (try (conv => whnf)); refine Choice.mk ⟨false, Choice.mk ⟨true, _, _, total_told (l1 ++ l2) (by omega) b2, ?_⟩⟩)
      ((repeat ((conv => whnf); first | (refine Sure.mk (by kernel_rfl) ?_) | (refine IfB.tt rfl ?_) | (refine IfB.ff rfl ?_) | (refine IfB.tt ?_ ?_; (focus (simp <;> fail))) | (refine IfB.ff ?_ ?_; (focus (simp <;> fail))) | (refine fits (wrap64 ?_ ?_) ?_; (focus omega); (focus omega)) | (refine Need.mk ?_ ?_; (focus omega)) | (refine InB.mk ?_ ?_ ?_; (focus omega); (focus omega)))); (try (conv => whnf)); refine Choice.mk ⟨false, Choice.mk ⟨true, _, _, total_told l (by omega) b1, ?_⟩⟩)
      ((repeat ((conv => whnf); first | (refine Sure.mk (by kernel_rfl) ?_) | (refine IfB.tt rfl ?_) | (refine IfB.ff rfl ?_) | (refine IfB.tt ?_ ?_; (focus (simp <;> fail))) | (refine IfB.ff ?_ ?_; (focus (simp <;> fail))) | (refine fits (wrap64 ?_ ?_) ?_; (focus omega); (focus omega)) | (refine Need.mk ?_ ?_; (focus omega)) | (refine InB.mk ?_ ?_ ?_; (focus omega); (focus omega)))); (try (conv => whnf)); refine IfB.ff (by rw [ht]; simp) ?_)
      ((repeat ((conv => whnf); first | (refine Sure.mk (by kernel_rfl) ?_) | (refine IfB.tt rfl ?_) | (refine IfB.ff rfl ?_) | (refine IfB.tt ?_ ?_; (focus (simp <;> fail))) | (refine IfB.ff ?_ ?_; (focus (simp <;> fail))) | (refine fits (wrap64 ?_ ?_) ?_; (focus omega); (focus omega)) | (refine Need.mk ?_ ?_; (focus omega)) | (refine InB.mk ?_ ?_ ?_; (focus omega); (focus omega)))); (try (conv => whnf)); refine Choice.mk ⟨false, Choice.mk ⟨false, _, _, c2, ?_⟩⟩)
      ((repeat ((conv => whnf); first | (refine Sure.mk (by kernel_rfl) ?_) | (refine IfB.tt rfl ?_) | (refine IfB.ff rfl ?_) | (refine IfB.tt ?_ ?_; (focus (simp <;> fail))) | (refine IfB.ff ?_ ?_; (focus (simp <;> fail))) | (refine fits (wrap64 ?_ ?_) ?_; (focus omega); (focus omega)) | (refine Need.mk ?_ ?_; (focus omega)) | (refine InB.mk ?_ ?_ ?_; (focus omega); (focus omega)))); (try (conv => whnf)); refine Choice.mk ⟨false, Choice.mk ⟨false, _, _, c3, ?_⟩⟩)
      ((repeat ((conv => whnf); first | (refine Sure.mk (by kernel_rfl) ?_) | (refine IfB.tt rfl ?_) | (refine IfB.ff rfl ?_) | (refine IfB.tt ?_ ?_; (focus (simp <;> fail))) | (refine IfB.ff ?_ ?_; (focus (simp <;> fail))) | (refine fits (wrap64 ?_ ?_) ?_; (focus omega); (focus omega)) | (refine Need.mk ?_ ?_; (focus omega)) | (refine InB.mk ?_ ?_ ?_; (focus omega); (focus omega)))); (try (conv => whnf)); refine Choice.mk ⟨false, Choice.mk ⟨true, _, _, sameSpans_told l l (by omega) (by omega), ?_⟩⟩)
      ((repeat ((conv => whnf); first | (refine Sure.mk (by kernel_rfl) ?_) | (refine IfB.tt rfl ?_) | (refine IfB.ff rfl ?_) | (refine IfB.tt ?_ ?_; (focus (simp <;> fail))) | (refine IfB.ff ?_ ?_; (focus (simp <;> fail))) | (refine fits (wrap64 ?_ ?_) ?_; (focus omega); (focus omega)) | (refine Need.mk ?_ ?_; (focus omega)) | (refine InB.mk ?_ ?_ ?_; (focus omega); (focus omega)))); (try (conv => whnf)); refine RetN.mk ⟨[], rfl, ?_, rfl⟩)
      ((try (conv => lhs; whnf)); (try simp []); (try omega))

