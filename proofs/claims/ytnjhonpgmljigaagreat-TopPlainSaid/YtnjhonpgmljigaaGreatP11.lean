/- Words and lemmas, part 11, for laws of this seat (a part of their proofs). -/
import Derived.Test.YtnjhonpgmljigaaGreatP7
import Derived.Test.YtnjhonpgmljigaaGreatP8
import Derived.Test.YtnjhonpgmljigaaGreatP10
import Derived.Test.YtnjhonpgmljigaaGreatNm
import Derived.Test.YtnjhonpgmljigaaGreatEvOpen
import Derived.Test.YtnjhonpgmljigaaGreatEvLib
import Derived.Test.YtnjhonpgmljigaaGreatEvGrid
import Derived.Test.YtnjhonpgmljigaaGreatEvTrim
set_option linter.unusedVariables false
set_option linter.unusedSimpArgs false
namespace Go.Ev.W
open Go.Ev Go.Ev.N

/-- An operation as it is picked. -/
structure OpG (c : Cf) (o : X.O) : Prop where
  k : 1 ≤ o.k ∧ o.k ≤ 10
  p : -3 ≤ o.p ∧ o.p ≤ 65536
  s : -1 ≤ o.s ∧ o.s ≤ (c.N : Int) + 2
  a : 0 ≤ o.a ∧ o.a ≤ 16
  n : 0 ≤ o.n ∧ o.n ≤ 8
  b : 0 ≤ o.b ∧ o.b < 256
  p0 : (4 ≤ o.k ∧ o.k ≤ 8) ∨ o.p = 0
  s0 : o.k ≤ 4 ∨ o.s = 0
  a0 : o.k = 3 ∨ o.a = 0
  n0 : (o.k = 2 ∨ o.k = 7 ∨ o.k = 8) ∨ o.n = 0
  b0 : o.k = 8 ∨ o.b = 0
theorem OpG.ok {c : Cf} (hc : c.Ok) {o : X.O} (h : OpG c o) : OpOk o := by
  have hN := hc.nM
  have hM := hc.mH
  have := h.k; have := h.p; have := h.s; have := h.a; have := h.n
  exact ⟨by omega, by omega, by omega, by omega, by omega, h.b⟩
set_option maxHeartbeats 4000000 in
theorem size_told {c : Cf} (hc : c.Ok) (p : Pk) (ok : p.Ok) : ∃ (v : Int) (p' : Pk), Told P T mk_Picks_Size [pkB p] [.ptr 0 0 0, eC c] (i64 v) [pkB p'] ∧ p'.Ok ∧ -1 ≤ v ∧ v ≤ (c.N : Int) + 2 := by
  have hN := hc.nM
  have hM := hc.mH
  have hL := hc.lL
  have hG := hc.gpos
  have k1 := ok.next 12
  have b1 := p.num_lt (m := 12) (by omega)
  have t1 := num_told p ok 12 (by omega)
  have t2 := num_told _ k1 3 (by omega)
  have b2 := (p.next 12).num_lt (m := 3) (by omega)
  have emax : ∀ a b : Int, max a b = if b > a then b else a := fun a b => by split <;> omega
  generalize hx : p.num 12 = x at *
  rcases (by omega : x = 0 ∨ x = 1 ∨ x = 2 ∨ 3 ≤ x) with h | h | h | h
  · subst h
    refine ⟨0, p.next 12, ?_, k1, by omega, by omega⟩
    refine told_of_ev (fn := mk_Picks_Size_fn) tabOk mixed (by kernel_rfl) (by kernel_rfl) (by kernel_rfl) (by kernel_rfl) ?_
    (refine gw ?_; refine Choice.mk ⟨true, Choice.mk ⟨false, _, _, t1, ?_⟩⟩)
    (refine gw ?_; exact RetN.mk ⟨[], rfl, rfl, rfl⟩)
  · subst h
    refine ⟨(c.N : Int) + ((p.next 12).num 3 : Nat), (p.next 12).next 3, ?_, k1.next 3, by omega, by omega⟩
    refine told_of_ev (fn := mk_Picks_Size_fn) tabOk mixed (by kernel_rfl) (by kernel_rfl) (by kernel_rfl) (by kernel_rfl) ?_
    (refine gw ?_; refine Choice.mk ⟨true, Choice.mk ⟨false, _, _, t1, ?_⟩⟩)
    (refine gw ?_; refine Choice.mk ⟨true, Choice.mk ⟨false, _, _, t2, ?_⟩⟩)
    (refine gw ?_; exact RetN.mk ⟨[], rfl, rfl, rfl⟩)
  · subst h
    refine ⟨-1, p.next 12, ?_, k1, by omega, by omega⟩
    refine told_of_ev (fn := mk_Picks_Size_fn) tabOk mixed (by kernel_rfl) (by kernel_rfl) (by kernel_rfl) (by kernel_rfl) ?_
    (refine gw ?_; refine Choice.mk ⟨true, Choice.mk ⟨false, _, _, t1, ?_⟩⟩)
    (refine gw ?_; exact RetN.mk ⟨[], rfl, rfl, rfl⟩)
  · have b3 := (p.next 12).num_lt (m := c.L + 1) (by omega)
    have k2 := k1.next (c.L + 1)
    have t3 := num_told _ k1 (c.L + 1) (by omega)
    have t4 := num_told _ k2 3 (by omega)
    have b4 := ((p.next 12).next (c.L + 1)).num_lt (m := 3) (by omega)
    have hGN : c.G ≤ 65536 := by have := hc.n; have := Nat.le_mul_of_pos_right c.G (Nat.two_pow_pos c.L); omega
    have t5 := refSize_told c ((p.next 12).num (c.L + 1)) (by omega) hGN
    have hsz : c.G * 2 ^ (p.next 12).num (c.L + 1) ≤ c.N := by
      rw [hc.n]; exact Nat.mul_le_mul_left _ (Nat.pow_le_pow_right (by omega) (by omega))
    generalize c.G * 2 ^ (p.next 12).num (c.L + 1) = z at *
    generalize (p.next 12).num (c.L + 1) = y at *
    refine ⟨max 1 ((z : Int) - (((p.next 12).next (c.L + 1)).num 3 : Nat)), ((p.next 12).next (c.L + 1)).next 3, ?_, k2.next 3, by omega, by omega⟩
    rw [emax]
    refine told_of_ev (fn := mk_Picks_Size_fn) tabOk mixed (by kernel_rfl) (by kernel_rfl) (by kernel_rfl) (by kernel_rfl) ?_
    (refine gw ?_; refine Choice.mk ⟨true, Choice.mk ⟨false, _, _, t1, ?_⟩⟩)
    (refine gw ?_; refine IfB.ff (by simp; omega) ?_)
    (refine gw ?_; refine IfB.ff (by simp; omega) ?_)
    (refine gw ?_; refine IfB.ff (by simp; omega) ?_)
    (refine gw ?_; refine Choice.mk ⟨true, Choice.mk ⟨false, _, _, t3, ?_⟩⟩)
    (refine gw ?_; refine Choice.mk ⟨false, Choice.mk ⟨true, _, _, t5, ?_⟩⟩)
    (refine gw ?_; refine Choice.mk ⟨true, Choice.mk ⟨false, _, _, t4, ?_⟩⟩)
    (refine gw ?_; exact RetN.mk ⟨[], rfl, rfl, rfl⟩)
set_option maxHeartbeats 4000000 in
theorem block_told {H : Nat} (hH : H ≤ 65536) {l : List Bk} (ha : ApB H l) (p : Pk) (ok : p.Ok) : ∃ (v : Int) (p' : Pk), Told P T mk_Picks_Block [pkB p] [.ptr 0 0 0, lK l] (i64 v) [pkB p'] ∧ p'.Ok ∧ -3 ≤ v ∧ v ≤ 65536 := by
  have hml : (l.map eB).length = l.length := by simp
  have hlen := ha.len
  by_cases h0 : l.length = 0
  · have b1 := p.num_lt (m := 200) (by omega)
    refine ⟨(p.num 200 : Nat) - 3, p.next 200, ?_, ok.next 200, by omega, by omega⟩
    refine told_of_ev (fn := mk_Picks_Block_fn) tabOk mixed (by kernel_rfl) (by kernel_rfl) (by kernel_rfl) (by kernel_rfl) ?_
    (refine gw ?_; refine IfB.tt (by rw [hml, h0]; simp) ?_)
    (refine gw ?_; refine Choice.mk ⟨true, Choice.mk ⟨false, _, _, num_told p ok 200 (by omega), ?_⟩⟩)
    (refine gw ?_; exact RetN.mk ⟨[], rfl, rfl, rfl⟩)
  · have k1 := ok.next 12
    by_cases h1 : p.num 12 = 0
    · have b1 := (p.next 12).num_lt (m := 200) (by omega)
      refine ⟨((p.next 12).num 200 : Nat) - 3, (p.next 12).next 200, ?_, k1.next 200, by omega, by omega⟩
      refine told_of_ev (fn := mk_Picks_Block_fn) tabOk mixed (by kernel_rfl) (by kernel_rfl) (by kernel_rfl) (by kernel_rfl) ?_
      (refine gw ?_; refine IfB.ff (by rw [hml]; exact decide_eq_false (by omega)) ?_)
      (refine gw ?_; refine Choice.mk ⟨true, Choice.mk ⟨false, _, _, num_told p ok 12 (by omega), ?_⟩⟩)
      (refine gw ?_; refine IfB.tt (by simp [h1]) ?_)
      (refine gw ?_; refine Choice.mk ⟨true, Choice.mk ⟨false, _, _, num_told _ k1 200 (by omega), ?_⟩⟩)
      (refine gw ?_; exact RetN.mk ⟨[], rfl, rfl, rfl⟩)
    · have b1 := (p.next 12).num_lt (m := l.length) (by omega)
      have hx := ha.b _ (List.getElem_mem b1)
      refine ⟨l[(p.next 12).num l.length].a, (p.next 12).next l.length, ?_, k1.next l.length, by omega, by omega⟩
      have t2 := num_told _ k1 l.length (by omega)
      refine told_of_ev (fn := mk_Picks_Block_fn) tabOk mixed (by kernel_rfl) (by kernel_rfl) (by kernel_rfl) (by kernel_rfl) ?_
      (refine gw ?_; refine IfB.ff (by rw [hml]; exact decide_eq_false (by omega)) ?_)
      (refine gw ?_; refine Choice.mk ⟨true, Choice.mk ⟨false, _, _, num_told p ok 12 (by omega), ?_⟩⟩)
      (refine gw ?_; refine IfB.ff (by simp; omega) ?_)
      (refine gw ?_)
      rw [hml]
      (refine gw ?_; refine Choice.mk ⟨true, Choice.mk ⟨false, _, _, t2, ?_⟩⟩)
      (refine gw ?_; refine idx_map (b1) ?_)
      (refine gw ?_; exact RetN.mk ⟨[], rfl, rfl, rfl⟩)
end Go.Ev.W
namespace Go.Ev.W
open Go.Ev Go.Ev.N

set_option maxRecDepth 20000 in
set_option maxHeartbeats 8000000 in
theorem op_told {c : Cf} (hc : c.Ok) {l : List Bk} (ha : ApB c.H l) (p : Pk) (ok : p.Ok) : ∃ (o : X.O) (p' : Pk), Told P T mk_Picks_Op [pkB p] [.ptr 0 0 0, eC c, lK l] (X.encO o) [pkB p'] ∧ p'.Ok ∧ OpG c o := by
  have hH := hc.h2
  have k1 := ok.next 20
  have b1 := p.num_lt (m := 20) (by omega)
  have t1 := num_told p ok 20 (by omega)
  generalize p.next 20 = p1 at *
  generalize p.num 20 = x at *
  rcases (by omega : x < 6 ∨ x = 6 ∨ x = 7 ∨ (8 ≤ x ∧ x < 11) ∨ (11 ≤ x ∧ x < 14) ∨ x = 14 ∨ (15 ≤ x ∧ x < 17) ∨ x = 17 ∨ x = 18 ∨ x = 19) with h | h | h | h | h | h | h | h | h | h
  · obtain ⟨v, p2, t2, k2, b2⟩ := size_told hc p1 k1
    refine ⟨⟨1, 0, v, 0, 0, 0⟩, p2, ?_, k2, ⟨by simp, by simp, b2, by simp, by simp, by simp, by simp, by simp, by simp, by simp, by simp⟩⟩
    refine told_of_ev (fn := mk_Picks_Op_fn) tabOk mixed (by kernel_rfl) (by kernel_rfl) (by kernel_rfl) (by kernel_rfl) ?_
    (refine gw ?_; refine Choice.mk ⟨true, Choice.mk ⟨false, _, _, t1, ?_⟩⟩)
    (refine gw ?_; refine IfB.tt (by simp; omega) ?_)
    (refine gw ?_; refine Choice.mk ⟨true, Choice.mk ⟨false, _, _, t2, ?_⟩⟩)
    (refine gw ?_; exact RetN.mk ⟨[], rfl, rfl, rfl⟩)
  · obtain ⟨v, p2, t2, k2, b2⟩ := size_told hc (p1.next 4) (k1.next 4)
    have t3 := num_told p1 k1 4 (by omega)
    have b3 := p1.num_lt (m := 4) (by omega)
    subst h
    refine ⟨⟨2, 0, v, 0, (p1.num 4 : Nat), 0⟩, p2, ?_, k2, ⟨by simp, by simp, b2, by simp, by simp only; omega, by simp, by simp, by simp, by simp, by simp, by simp⟩⟩
    refine told_of_ev (fn := mk_Picks_Op_fn) tabOk mixed (by kernel_rfl) (by kernel_rfl) (by kernel_rfl) (by kernel_rfl) ?_
    (refine gw ?_; refine Choice.mk ⟨true, Choice.mk ⟨false, _, _, t1, ?_⟩⟩)
    (refine gw ?_; refine Choice.mk ⟨true, Choice.mk ⟨false, _, _, t3, ?_⟩⟩)
    (refine gw ?_; refine Choice.mk ⟨true, Choice.mk ⟨false, _, _, t2, ?_⟩⟩)
    (refine gw ?_; exact RetN.mk ⟨[], rfl, rfl, rfl⟩)
  · obtain ⟨v, p2, t2, k2, b2⟩ := size_told hc p1 k1
    have t3 := num_told p2 k2 7 (by omega)
    have b3 := p2.num_lt (m := 7) (by omega)
    subst h
    obtain ⟨j, hj⟩ : ∃ j, p2.num 7 = j := ⟨_, rfl⟩
    rw [hj] at t3 b3
    rcases (by omega : j = 0 ∨ j = 1 ∨ j = 2 ∨ j = 3 ∨ j = 4 ∨ j = 5 ∨ j = 6) with h | h | h | h | h | h | h
    · subst h
      refine ⟨⟨3, 0, v, 1, 0, 0⟩, p2.next 7, ?_, k2.next 7, ⟨by simp, by simp, b2, by simp, by simp, by simp, by simp, by simp, by simp, by simp, by simp⟩⟩
      refine told_of_ev (fn := mk_Picks_Op_fn) tabOk mixed (by kernel_rfl) (by kernel_rfl) (by kernel_rfl) (by kernel_rfl) ?_
      (refine gw ?_; refine Choice.mk ⟨true, Choice.mk ⟨false, _, _, t1, ?_⟩⟩)
      (refine gw ?_; refine Choice.mk ⟨true, Choice.mk ⟨false, _, _, t2, ?_⟩⟩)
      (refine gw ?_; refine Choice.mk ⟨true, Choice.mk ⟨false, _, _, t3, ?_⟩⟩)
      (refine gw ?_)
      refine InB.mk (by simp) (by simp) ?_
      (refine gw ?_)
      first | (refine At.mk ⟨_, rfl, ?_⟩) | skip
      (refine gw ?_; exact RetN.mk ⟨[], rfl, rfl, rfl⟩)
    · subst h
      refine ⟨⟨3, 0, v, 2, 0, 0⟩, p2.next 7, ?_, k2.next 7, ⟨by simp, by simp, b2, by simp, by simp, by simp, by simp, by simp, by simp, by simp, by simp⟩⟩
      refine told_of_ev (fn := mk_Picks_Op_fn) tabOk mixed (by kernel_rfl) (by kernel_rfl) (by kernel_rfl) (by kernel_rfl) ?_
      (refine gw ?_; refine Choice.mk ⟨true, Choice.mk ⟨false, _, _, t1, ?_⟩⟩)
      (refine gw ?_; refine Choice.mk ⟨true, Choice.mk ⟨false, _, _, t2, ?_⟩⟩)
      (refine gw ?_; refine Choice.mk ⟨true, Choice.mk ⟨false, _, _, t3, ?_⟩⟩)
      (refine gw ?_)
      refine InB.mk (by simp) (by simp) ?_
      (refine gw ?_)
      first | (refine At.mk ⟨_, rfl, ?_⟩) | skip
      (refine gw ?_; exact RetN.mk ⟨[], rfl, rfl, rfl⟩)
    · subst h
      refine ⟨⟨3, 0, v, 4, 0, 0⟩, p2.next 7, ?_, k2.next 7, ⟨by simp, by simp, b2, by simp, by simp, by simp, by simp, by simp, by simp, by simp, by simp⟩⟩
      refine told_of_ev (fn := mk_Picks_Op_fn) tabOk mixed (by kernel_rfl) (by kernel_rfl) (by kernel_rfl) (by kernel_rfl) ?_
      (refine gw ?_; refine Choice.mk ⟨true, Choice.mk ⟨false, _, _, t1, ?_⟩⟩)
      (refine gw ?_; refine Choice.mk ⟨true, Choice.mk ⟨false, _, _, t2, ?_⟩⟩)
      (refine gw ?_; refine Choice.mk ⟨true, Choice.mk ⟨false, _, _, t3, ?_⟩⟩)
      (refine gw ?_)
      refine InB.mk (by simp) (by simp) ?_
      (refine gw ?_)
      first | (refine At.mk ⟨_, rfl, ?_⟩) | skip
      (refine gw ?_; exact RetN.mk ⟨[], rfl, rfl, rfl⟩)
    · subst h
      refine ⟨⟨3, 0, v, 3, 0, 0⟩, p2.next 7, ?_, k2.next 7, ⟨by simp, by simp, b2, by simp, by simp, by simp, by simp, by simp, by simp, by simp, by simp⟩⟩
      refine told_of_ev (fn := mk_Picks_Op_fn) tabOk mixed (by kernel_rfl) (by kernel_rfl) (by kernel_rfl) (by kernel_rfl) ?_
      (refine gw ?_; refine Choice.mk ⟨true, Choice.mk ⟨false, _, _, t1, ?_⟩⟩)
      (refine gw ?_; refine Choice.mk ⟨true, Choice.mk ⟨false, _, _, t2, ?_⟩⟩)
      (refine gw ?_; refine Choice.mk ⟨true, Choice.mk ⟨false, _, _, t3, ?_⟩⟩)
      (refine gw ?_)
      refine InB.mk (by simp) (by simp) ?_
      (refine gw ?_)
      first | (refine At.mk ⟨_, rfl, ?_⟩) | skip
      (refine gw ?_; exact RetN.mk ⟨[], rfl, rfl, rfl⟩)
    · subst h
      refine ⟨⟨3, 0, v, 0, 0, 0⟩, p2.next 7, ?_, k2.next 7, ⟨by simp, by simp, b2, by simp, by simp, by simp, by simp, by simp, by simp, by simp, by simp⟩⟩
      refine told_of_ev (fn := mk_Picks_Op_fn) tabOk mixed (by kernel_rfl) (by kernel_rfl) (by kernel_rfl) (by kernel_rfl) ?_
      (refine gw ?_; refine Choice.mk ⟨true, Choice.mk ⟨false, _, _, t1, ?_⟩⟩)
      (refine gw ?_; refine Choice.mk ⟨true, Choice.mk ⟨false, _, _, t2, ?_⟩⟩)
      (refine gw ?_; refine Choice.mk ⟨true, Choice.mk ⟨false, _, _, t3, ?_⟩⟩)
      (refine gw ?_)
      refine InB.mk (by simp) (by simp) ?_
      (refine gw ?_)
      first | (refine At.mk ⟨_, rfl, ?_⟩) | skip
      (refine gw ?_; exact RetN.mk ⟨[], rfl, rfl, rfl⟩)
    · subst h
      refine ⟨⟨3, 0, v, 8, 0, 0⟩, p2.next 7, ?_, k2.next 7, ⟨by simp, by simp, b2, by simp, by simp, by simp, by simp, by simp, by simp, by simp, by simp⟩⟩
      refine told_of_ev (fn := mk_Picks_Op_fn) tabOk mixed (by kernel_rfl) (by kernel_rfl) (by kernel_rfl) (by kernel_rfl) ?_
      (refine gw ?_; refine Choice.mk ⟨true, Choice.mk ⟨false, _, _, t1, ?_⟩⟩)
      (refine gw ?_; refine Choice.mk ⟨true, Choice.mk ⟨false, _, _, t2, ?_⟩⟩)
      (refine gw ?_; refine Choice.mk ⟨true, Choice.mk ⟨false, _, _, t3, ?_⟩⟩)
      (refine gw ?_)
      refine InB.mk (by simp) (by simp) ?_
      (refine gw ?_)
      first | (refine At.mk ⟨_, rfl, ?_⟩) | skip
      (refine gw ?_; exact RetN.mk ⟨[], rfl, rfl, rfl⟩)
    · subst h
      refine ⟨⟨3, 0, v, 16, 0, 0⟩, p2.next 7, ?_, k2.next 7, ⟨by simp, by simp, b2, by simp, by simp, by simp, by simp, by simp, by simp, by simp, by simp⟩⟩
      refine told_of_ev (fn := mk_Picks_Op_fn) tabOk mixed (by kernel_rfl) (by kernel_rfl) (by kernel_rfl) (by kernel_rfl) ?_
      (refine gw ?_; refine Choice.mk ⟨true, Choice.mk ⟨false, _, _, t1, ?_⟩⟩)
      (refine gw ?_; refine Choice.mk ⟨true, Choice.mk ⟨false, _, _, t2, ?_⟩⟩)
      (refine gw ?_; refine Choice.mk ⟨true, Choice.mk ⟨false, _, _, t3, ?_⟩⟩)
      (refine gw ?_)
      refine InB.mk (by simp) (by simp) ?_
      (refine gw ?_)
      first | (refine At.mk ⟨_, rfl, ?_⟩) | skip
      (refine gw ?_; exact RetN.mk ⟨[], rfl, rfl, rfl⟩)
  · obtain ⟨v, p2, t2, k2, b2⟩ := block_told hH ha p1 k1
    obtain ⟨w, p3, t3, k3, b3⟩ := size_told hc p2 k2
    refine ⟨⟨4, v, w, 0, 0, 0⟩, p3, ?_, k3, ⟨by simp, b2, b3, by simp, by simp, by simp, by simp, by simp, by simp, by simp, by simp⟩⟩
    refine told_of_ev (fn := mk_Picks_Op_fn) tabOk mixed (by kernel_rfl) (by kernel_rfl) (by kernel_rfl) (by kernel_rfl) ?_
    (refine gw ?_; refine Choice.mk ⟨true, Choice.mk ⟨false, _, _, t1, ?_⟩⟩)
    (refine gw ?_; refine IfB.ff (by simp; omega) ?_)
    (refine gw ?_; refine IfB.ff (by simp; omega) ?_)
    (refine gw ?_; refine IfB.ff (by simp; omega) ?_)
    (refine gw ?_; refine IfB.tt (by simp; omega) ?_)
    (refine gw ?_; refine Choice.mk ⟨true, Choice.mk ⟨false, _, _, t2, ?_⟩⟩)
    (refine gw ?_; refine Choice.mk ⟨true, Choice.mk ⟨false, _, _, t3, ?_⟩⟩)
    (refine gw ?_; exact RetN.mk ⟨[], rfl, rfl, rfl⟩)
  · obtain ⟨v, p2, t2, k2, b2⟩ := block_told hH ha p1 k1
    refine ⟨⟨5, v, 0, 0, 0, 0⟩, p2, ?_, k2, ⟨by simp, b2, by simp; omega, by simp, by simp, by simp, by simp, by simp, by simp, by simp, by simp⟩⟩
    refine told_of_ev (fn := mk_Picks_Op_fn) tabOk mixed (by kernel_rfl) (by kernel_rfl) (by kernel_rfl) (by kernel_rfl) ?_
    (refine gw ?_; refine Choice.mk ⟨true, Choice.mk ⟨false, _, _, t1, ?_⟩⟩)
    (refine gw ?_; refine IfB.ff (by simp; omega) ?_)
    (refine gw ?_; refine IfB.ff (by simp; omega) ?_)
    (refine gw ?_; refine IfB.ff (by simp; omega) ?_)
    (refine gw ?_; refine IfB.ff (by simp; omega) ?_)
    (refine gw ?_; refine IfB.tt (by simp; omega) ?_)
    (refine gw ?_; refine Choice.mk ⟨true, Choice.mk ⟨false, _, _, t2, ?_⟩⟩)
    (refine gw ?_; exact RetN.mk ⟨[], rfl, rfl, rfl⟩)
  · obtain ⟨v, p2, t2, k2, b2⟩ := block_told hH ha p1 k1
    subst h
    refine ⟨⟨6, v, 0, 0, 0, 0⟩, p2, ?_, k2, ⟨by simp, b2, by simp; omega, by simp, by simp, by simp, by simp, by simp, by simp, by simp, by simp⟩⟩
    refine told_of_ev (fn := mk_Picks_Op_fn) tabOk mixed (by kernel_rfl) (by kernel_rfl) (by kernel_rfl) (by kernel_rfl) ?_
    (refine gw ?_; refine Choice.mk ⟨true, Choice.mk ⟨false, _, _, t1, ?_⟩⟩)
    (refine gw ?_; refine Choice.mk ⟨true, Choice.mk ⟨false, _, _, t2, ?_⟩⟩)
    (refine gw ?_; exact RetN.mk ⟨[], rfl, rfl, rfl⟩)
  · obtain ⟨v, p2, t2, k2, b2⟩ := block_told hH ha p1 k1
    have t3 := num_told p2 k2 9 (by omega)
    have b3 := p2.num_lt (m := 9) (by omega)
    refine ⟨⟨7, v, 0, 0, (p2.num 9 : Nat), 0⟩, p2.next 9, ?_, k2.next 9, ⟨by simp, b2, by simp; omega, by simp, by simp only; omega, by simp, by simp, by simp, by simp, by simp, by simp⟩⟩
    refine told_of_ev (fn := mk_Picks_Op_fn) tabOk mixed (by kernel_rfl) (by kernel_rfl) (by kernel_rfl) (by kernel_rfl) ?_
    (refine gw ?_; refine Choice.mk ⟨true, Choice.mk ⟨false, _, _, t1, ?_⟩⟩)
    (refine gw ?_; refine IfB.ff (by simp; omega) ?_)
    (refine gw ?_; refine IfB.ff (by simp; omega) ?_)
    (refine gw ?_; refine IfB.ff (by simp; omega) ?_)
    (refine gw ?_; refine IfB.ff (by simp; omega) ?_)
    (refine gw ?_; refine IfB.ff (by simp; omega) ?_)
    (refine gw ?_; refine IfB.ff (by simp; omega) ?_)
    (refine gw ?_; refine IfB.tt (by simp; omega) ?_)
    (refine gw ?_; refine Choice.mk ⟨true, Choice.mk ⟨false, _, _, t2, ?_⟩⟩)
    (refine gw ?_; refine Choice.mk ⟨true, Choice.mk ⟨false, _, _, t3, ?_⟩⟩)
    (refine gw ?_; exact RetN.mk ⟨[], rfl, rfl, rfl⟩)
  · subst h
    refine ⟨⟨9, 0, 0, 0, 0, 0⟩, p1, ?_, k1, ⟨by simp, by simp, by simp; omega, by simp, by simp, by simp, by simp, by simp, by simp, by simp, by simp⟩⟩
    refine told_of_ev (fn := mk_Picks_Op_fn) tabOk mixed (by kernel_rfl) (by kernel_rfl) (by kernel_rfl) (by kernel_rfl) ?_
    (refine gw ?_; refine Choice.mk ⟨true, Choice.mk ⟨false, _, _, t1, ?_⟩⟩)
    (refine gw ?_; exact RetN.mk ⟨[], rfl, rfl, rfl⟩)
  · subst h
    refine ⟨⟨10, 0, 0, 0, 0, 0⟩, p1, ?_, k1, ⟨by simp, by simp, by simp; omega, by simp, by simp, by simp, by simp, by simp, by simp, by simp, by simp⟩⟩
    refine told_of_ev (fn := mk_Picks_Op_fn) tabOk mixed (by kernel_rfl) (by kernel_rfl) (by kernel_rfl) (by kernel_rfl) ?_
    (refine gw ?_; refine Choice.mk ⟨true, Choice.mk ⟨false, _, _, t1, ?_⟩⟩)
    (refine gw ?_; exact RetN.mk ⟨[], rfl, rfl, rfl⟩)
  · obtain ⟨v, p2, t2, k2, b2⟩ := block_told hH ha p1 k1
    have t3 := num_told p2 k2 9 (by omega)
    have b3 := p2.num_lt (m := 9) (by omega)
    have t4 := num_told _ (k2.next 9) 256 (by omega)
    have b4 := (p2.next 9).num_lt (m := 256) (by omega)
    subst h
    refine ⟨⟨8, v, 0, 0, (p2.num 9 : Nat), ((p2.next 9).num 256 : Nat)⟩, (p2.next 9).next 256, ?_, (k2.next 9).next 256, ⟨by simp, b2, by simp; omega, by simp, by simp only; omega, by simp only; omega, by simp, by simp, by simp, by simp, by simp⟩⟩
    refine told_of_ev (fn := mk_Picks_Op_fn) tabOk mixed (by kernel_rfl) (by kernel_rfl) (by kernel_rfl) (by kernel_rfl) ?_
    (refine gw ?_; refine Choice.mk ⟨true, Choice.mk ⟨false, _, _, t1, ?_⟩⟩)
    (refine gw ?_; refine Choice.mk ⟨true, Choice.mk ⟨false, _, _, t2, ?_⟩⟩)
    (refine gw ?_; refine Choice.mk ⟨true, Choice.mk ⟨false, _, _, t3, ?_⟩⟩)
    (refine gw ?_; refine Choice.mk ⟨true, Choice.mk ⟨false, _, _, t4, ?_⟩⟩)
    (refine gw ?_)
    refine fits (by rw [IntKind.wrap_u8]; omega) ?_
    (refine gw ?_; exact RetN.mk ⟨[], rfl, rfl, rfl⟩)
end Go.Ev.W
namespace Go.Ev.W
open Go.Ev Go.Ev.N

set_option maxRecDepth 20000 in
set_option maxHeartbeats 4000000 in
theorem new17_told (r : Rw) : Told P T ref17_New [] [eR r] (.tup [eM (newM r).1, i64 ((newM r).2 : Nat)]) [] := by
  have c1 := refOf_told r
  have hok := ofF_ok (r := r)
  unfold newM
  generalize ofF r = R at *
  obtain ⟨c, e⟩ := R
  by_cases he : e = 0
  · subst he
    have hc : c.Ok := (hok rfl).1
    have hH := hc.h2
    have hpg := hc.pgpos
    have d1 : ((c.H : Nat) : Int).tdiv ((c.Pg : Nat) : Int) = ((c.H / c.Pg : Nat) : Int) := (Int.ofNat_tdiv c.H c.Pg).symm
    have d2 := Nat.div_le_self c.H c.Pg
    simp only [ne_eq, not_true_eq_false, if_false]
    generalize hD : c.H / c.Pg = D at *
    have c1 : Told P T ref1_Of [] [eR r] (.tup [eC c, i64 ((0 : Nat) : Int)]) [] := c1
    refine told_of_ev (fn := ref17_New_fn) tabOk mixed (by kernel_rfl) (by kernel_rfl) (by kernel_rfl) (by kernel_rfl) ?_
    (refine gw ?_; refine Choice.mk ⟨false, Choice.mk ⟨false, _, _, c1, ?_⟩⟩)
    (refine gw ?_)
    rw [d1]
    (refine gw ?_; refine Room.mk (by first | omega | (simp; omega) | (simp <;> fail)) ?_)
    (refine gw ?_; refine Room.mk (by first | omega | (simp; omega) | (simp <;> fail)) ?_)
    (refine gw ?_; refine RetN.fz ⟨[true, true], [], rfl, ?_, rfl⟩)
    have hr1 : lT (List.replicate D false) = .lst t_bool (List.replicate D (.bool false)) := by unfold lT; rw [List.map_replicate]
    have hr2 : lU (List.replicate c.H 0) = .lst t_uint8 (List.replicate c.H (u8 0)) := by unfold lU; rw [List.map_replicate]
    refine Eq.trans ?_ (congrArg (fun z => AV.tup [z, i64 0]) (show AV.agg [i64 c.G, i64 c.N, i64 c.M, i64 c.L, i64 c.Pg, i64 c.P, i64 c.H, i64 c.Sd, lK [], i64 0, i64 0, i64 0, .lst t_bool (List.replicate ((D : Nat) : Int).toNat (.bool false)), .lst t_uint8 (List.replicate ((c.H : Nat) : Int).toNat (u8 0))] = eM ⟨c, [], 0, 0, 0, List.replicate D false, List.replicate c.H 0⟩ by
      rw [Int.toNat_natCast, Int.toNat_natCast, ← hr1, ← hr2]; rfl))
    rfl
  · simp only [ne_eq, he, not_false_eq_true, if_true]
    refine told_of_ev (fn := ref17_New_fn) tabOk mixed (by kernel_rfl) (by kernel_rfl) (by kernel_rfl) (by kernel_rfl) ?_
    have c1 : Told P T ref1_Of [] [eR r] (.tup [eC c, i64 ((e : Nat) : Int)]) [] := c1
    (refine gw ?_; refine Choice.mk ⟨false, Choice.mk ⟨false, _, _, c1, ?_⟩⟩)
    (refine gw ?_; refine IfB.tt (by simpa using he) ?_)
    (refine gw ?_; exact RetN.fz ⟨[true, true], [], rfl, rfl, rfl⟩)
theorem newM_ok {r : Rw} (h : (newM r).2 = 0) : MoOk (newM r).1 := by
  have hok := ofF_ok (r := r)
  unfold newM at h ⊢
  split at h
  · rename_i h1; exact absurd h h1
  · rename_i h1
    rw [if_neg h1]
    have hc := (hok (Decidable.of_not_not h1)).1
    refine ⟨hc, ApB.nil _, by simp, by simp [totalB], by simp, by simp, by simp, by simp, ?_, by simp, ?_⟩
    · show cntB (List.replicate _ false) ≤ _
      unfold cntB
      rw [List.filter_eq_nil_iff.2 (by intro a ha; rw [List.eq_of_mem_replicate ha]; simp)]
      simp
    · intro x hx
      rw [List.eq_of_mem_replicate hx]; omega
end Go.Ev.W
namespace Go.Ev.W
open Go.Ev Go.Ev.N

theorem newM_of (r : Rw) : (newM r).2 = (ofF r).2 := by
  unfold newM
  split <;> simp_all
theorem hpNewI {r : Rw} (h : (newM r).2 = 0) : ∃ s, Hr (newM r).1 s ∧ Told P T heap_New [] [eR r] (.tup [.ptr 0 0 0, i64 0]) (hsL (newM r).1.c ((newM r).1.c.H / (newM r).1.c.G) ((newM r).1.c.L + 1) s ++ [.fz t_bool ((newM r).1.on.map .bool)]) := by
  have h2 : (ofF r).2 = 0 := by rw [← newM_of]; exact h
  refine ⟨_, newH_rel h2, ?_⟩
  have := hpNew_told r h2
  unfold newM
  rw [if_neg (by simpa using h2)]
  exact this
theorem hpNewE {r : Rw} (h : (newM r).2 ≠ 0) : Told P T heap_New [] [eR r] (.tup [.npt, i64 ((newM r).2 : Nat)]) [] := by
  rw [newM_of] at h ⊢
  exact hpNewE_told r h
abbrev hI (m : Mo) (s : Hs) : List Blk := hsL m.c (m.c.H / m.c.G) (m.c.L + 1) s
end Go.Ev.W
namespace Go.Ev.W
open Go.Ev Go.Ev.N

theorem memWithin_told {mem : List Nat} (hl : mem.length ≤ 65536) {a n : Nat} (h : a + n ≤ mem.length) : Told P T mem_within [] [lU mem, i64 a, i64 n] (.bool true) [] := by
  have hmu : (mem.map u8).length = mem.length := by simp
  refine told_of_ev (fn := mem_within_fn) tabOk mixed (by kernel_rfl) (by kernel_rfl) (by kernel_rfl) (by kernel_rfl) ?_
  (refine gw ?_; refine IfB.tt (by simp; omega) ?_)
  (refine gw ?_; refine RetN.mk ⟨[], rfl, ?_, rfl⟩)
  rw [hmu]
  refine congrArg AV.bool (decide_eq_true ?_)
  omega
end Go.Ev.W
namespace Go.Ev.W
open Go.Ev Go.Ev.N

theorem clone_Block (es : List AV) (hl : es.length ≤ 1000000) : Told P T slices_Clone_api_Block_api_Block [] [.lst t_api_Block es] (.ref 0) [.row t_api_Block es] := by
  refine told_of_ev (fn := slices_Clone_api_Block_api_Block_fn) tabOk mixed (by kernel_rfl) (by kernel_rfl) (by kernel_rfl) (by kernel_rfl) ?_
  refine AnyB.mk (fun b hb => ?_)
  refine IfB.mk (fun h1 => ?_) (fun h1 => ?_)
  · obtain rfl := hb h1
    exact RetN.mk ⟨[1], rfl, rfl, rfl⟩
  · refine Room.mk (by first | omega | (simp; omega) | (simp; done)) ?_
    exact RetN.mk ⟨[2], rfl, rfl, rfl⟩
theorem zero_list {mem : List Nat} {a n : Nat} (h : a + n ≤ mem.length) : (zeroF mem a n).map u8 = (mem.map u8).take a ++ (List.replicate n (.int .u8 0) ++ (mem.map u8).drop (a + n)) := by
  refine List.ext_getElem (by simp [zeroF]; omega) fun i h1 h2 => ?_
  have hi : i < mem.length := by simpa [zeroF] using h1
  have hz : ∀ (hx : i < (zeroF mem a n).length), (zeroF mem a n)[i] = if a ≤ i ∧ i < a + n then 0 else mem.getD i 0 := fun hx => by simp [zeroF]
  rw [List.getElem_map, hz, List.getElem_append]
  have hg : mem.getD i 0 = mem[i] := by simp [List.getD_eq_getElem?_getD, hi]
  have hta : ((mem.map u8).take a).length = a := by simp; omega
  by_cases h3 : i < a
  · rw [dif_pos (by omega), if_neg (by omega), List.getElem_take, List.getElem_map, hg]
  · rw [dif_neg (by omega), List.getElem_append]
    by_cases h4 : i < a + n
    · rw [dif_pos (by rw [List.length_replicate]; omega), if_pos (by omega), List.getElem_replicate]; rfl
    · rw [dif_neg (by rw [List.length_replicate]; omega), if_neg (by omega), List.getElem_drop, List.getElem_map, hg]
      congr 2
      simp only [hta, List.length_replicate]; omega
set_option maxHeartbeats 4000000 in
theorem memPut_told {mem : List Nat} (hl : mem.length ≤ 65536) {a : Nat} {b : Int} (h : a + 1 ≤ mem.length) : Told P T mem_Put [] [lU mem, i64 a, .int .u8 b] (.tup [.lst t_uint8 ((mem.map u8).set a (.int .u8 b)), .bool true]) [] := by
  have hmu : (mem.map u8).length = mem.length := by simp
  have c1 := clone_byte (mem.map u8) (by omega)
  have c2 := memWithin_told hl h
  refine told_of_ev (fn := mem_Put_fn) tabOk mixed (by kernel_rfl) (by kernel_rfl) (by kernel_rfl) (by kernel_rfl) ?_
  (refine gw ?_; refine Choice.mk ⟨false, Choice.mk ⟨false, _, _, c1, ?_⟩⟩)
  (refine gw ?_; refine Choice.mk ⟨false, Choice.mk ⟨true, _, _, c2, ?_⟩⟩)
  (refine gw ?_)
  (refine gw ?_; refine RetN.fz ⟨[true, true], [], rfl, ?_, rfl⟩)
  rfl
set_option maxHeartbeats 4000000 in
theorem memGet_told {mem : List Nat} (hl : mem.length ≤ 65536) {a : Nat} (h : a + 1 ≤ mem.length) : Told P T mem_Get [] [lU mem, i64 a] (.tup [u8 (mem.getD a 0), .bool true]) [] := by
  have hmu : (mem.map u8).length = mem.length := by simp
  have c2 := memWithin_told hl h
  have ha : a < mem.length := by omega
  have hg : mem.getD a 0 = mem[a] := by simp [List.getD_eq_getElem?_getD, ha]
  rw [hg]
  refine told_of_ev (fn := mem_Get_fn) tabOk mixed (by kernel_rfl) (by kernel_rfl) (by kernel_rfl) (by kernel_rfl) ?_
  (refine gw ?_; refine Choice.mk ⟨false, Choice.mk ⟨true, _, _, c2, ?_⟩⟩)
  (refine gw ?_; refine idx_map (ha) ?_)
  (refine gw ?_; exact RetN.mk ⟨[], rfl, rfl, rfl⟩)
set_option maxHeartbeats 4000000 in
theorem memZero_told {mem : List Nat} (hl : mem.length ≤ 65536) {a n : Nat} (h : a + n ≤ mem.length) : Told P T mem_Zero [] [lU mem, i64 a, i64 n] (.tup [lU (zeroF mem a n), .bool true]) [] := by
  have hmu : (mem.map u8).length = mem.length := by simp
  have c1 := clone_byte (mem.map u8) (by omega)
  have c2 := memWithin_told hl h
  refine told_of_ev (fn := mem_Zero_fn) tabOk mixed (by kernel_rfl) (by kernel_rfl) (by kernel_rfl) (by kernel_rfl) ?_
  (refine gw ?_; refine Choice.mk ⟨false, Choice.mk ⟨false, _, _, c1, ?_⟩⟩)
  (refine gw ?_; refine Choice.mk ⟨false, Choice.mk ⟨true, _, _, c2, ?_⟩⟩)
  (refine gw ?_; refine Cut.mk (by first | omega | (simp; omega) | (simp <;> fail)) (by first | omega | (simp; omega) | (simp <;> fail)) (by first | omega | (simp; omega) | (simp <;> fail)) ?_)
  have e : (zeroF mem a n).map u8 = (mem.map u8).take ((a : Nat) : Int).toNat ++ (List.replicate ((((a : Nat) : Int) + ((n : Nat) : Int)).toNat - ((a : Nat) : Int).toNat) (.int .u8 0) ++ (mem.map u8).drop (((a : Nat) : Int).toNat + ((((a : Nat) : Int) + ((n : Nat) : Int)).toNat - ((a : Nat) : Int).toNat))) := by
    rw [show (((a : Nat) : Int) + ((n : Nat) : Int)).toNat - ((a : Nat) : Int).toNat = n by omega, Int.toNat_natCast]
    exact zero_list h
  (refine gw ?_; refine RetN.fz ⟨[true, true], [], rfl, ?_, rfl⟩)
  refine Eq.trans ?_ (congrArg (fun z => AV.tup [.lst t_uint8 z, .bool true]) e.symm)
  rfl
end Go.Ev.W
namespace Go.Ev.W
open Go.Ev Go.Ev.N

set_option maxHeartbeats 4000000 in
theorem junkFillR_told {mem : List Nat} (hl : mem.length ≤ 65536) {seed page size : Nat} (hs : 0 < size) (hp : (page + 1) * size ≤ mem.length) : Told P T junk_Fill [] [lU mem, i64 seed, i64 page, i64 size] (.ref 0) [.row t_uint8 ((fillF mem seed page size).map u8)] := by
  have hmu : (mem.map u8).length = mem.length := by simp
  obtain ⟨D, hD⟩ : ∃ D, mem.length = D := ⟨_, rfl⟩
  have c1 := clone_byte (mem.map u8) (by omega)
  have d1 : ((D : Nat) : Int).tdiv ((size : Nat) : Int) = ((D / size : Nat) : Int) := (Int.ofNat_tdiv D size).symm
  have hmul : (page + 1) * size = page * size + size := by rw [Nat.succ_mul]
  have hdv : page + 1 ≤ D / size := (Nat.le_div_iff_mul_le hs).2 (by omega)
  have hdl := Nat.div_le_self D size
  have eps : ((page : Nat) : Int) * ((size : Nat) : Int) = ((page * size : Nat) : Int) := by rw [Int.natCast_mul]
  have hfs : ∀ k, k < size → fAt mem seed page size (page * size + k) = byteF seed page k := fun k hk => by
    have e1 : (page * size + k) / size = page := by rw [Nat.mul_comm, Nat.mul_add_div hs, Nat.div_eq_of_lt hk]; rfl
    have e2 : (page * size + k) % size = k := by rw [Nat.mul_comm, Nat.mul_add_mod, Nat.mod_eq_of_lt hk]
    unfold fAt; rw [if_pos e1, e2]
  have hfo : ∀ j, ¬ (page * size ≤ j ∧ j < page * size + size) → fAt mem seed page size j = mem.getD j 0 := fun j hj => by
    unfold fAt
    rw [if_neg]
    intro e
    apply hj
    have h1 := Nat.div_mul_le_self j size
    have h2 := Nat.lt_mul_div_succ j hs
    rw [e] at h1 h2
    rw [Nat.mul_comm, Nat.succ_mul] at h2
    omega
  rw [hD] at hmu hp
  generalize D / size = q at *
  generalize page * size = ps at *
  have hg := fun k => tabF_len D (fun j => u8 (if ps ≤ j ∧ j < ps + k then fAt mem seed page size j else mem.getD j 0))
  refine told_of_ev (fn := junk_Fill_fn) tabOk mixed (by kernel_rfl) (by kernel_rfl) (by kernel_rfl) (by kernel_rfl) ?_
  (refine gw ?_; refine Choice.mk ⟨false, Choice.mk ⟨false, _, _, c1, ?_⟩⟩)
  (refine gw ?_; refine IfB.ff (by simp; omega) ?_)
  (refine gw ?_)
  rw [hmu, d1]
  (refine gw ?_; refine IfB.ff (by simp; omega) ?_)
  (refine gw ?_; refine LoopN.mk ⟨[0,1,2,3,9], fun vs L => ∃ k : Nat, vs = [.ref 0, i64 seed, i64 page, i64 size, i64 k] ∧ L = [.row t_uint8 (tabF D fun j => u8 (if ps ≤ j ∧ j < ps + k then fAt mem seed page size j else mem.getD j 0))] ∧ k ≤ size, fun vs L => match vs with | [_, _, _, _, .int _ i] => size - i.toNat | _ => 0, [], [1], rfl, ⟨0, rfl, ?_, by omega⟩, ?_⟩)
  · show [Blk.row t_uint8 (mem.map u8)] = _
    rw [lU_tab, hD]
    exact congrArg (fun z => [Blk.row t_uint8 z]) (tabF_congr fun j _ => by rw [if_neg (by omega)])
  rintro vs L ⟨k, rfl, rfl, hk⟩
  have hgk := hg k
  by_cases hks : k < size
  · have hset : (tabF D fun j => u8 (if ps ≤ j ∧ j < ps + k then fAt mem seed page size j else mem.getD j 0)).set (((ps : Nat) : Int) + ((k : Nat) : Int)).toNat (u8 (byteF seed page k)) = tabF D fun j => u8 (if ps ≤ j ∧ j < ps + (k + 1) then fAt mem seed page size j else mem.getD j 0) := by
      rw [show (((ps : Nat) : Int) + ((k : Nat) : Int)).toNat = ps + k by omega]
      refine tabF_set (by omega) fun j hj => ?_
      by_cases e : j = ps + k
      · subst e; rw [if_pos rfl, if_pos (by omega), hfs k hks]
      · rw [if_neg e]
        by_cases e2 : ps ≤ j ∧ j < ps + k
        · rw [if_pos e2, if_pos (by omega)]
        · rw [if_neg e2, if_neg (by omega)]
    (refine gw ?_; refine IfB.tt (by simp; omega) ?_)
    (refine gw ?_)
    rw [eps]
    (refine gw ?_)
    rw [hgk]
    (refine gw ?_; refine IfB.tt (by simp; omega) ?_)
    (refine gw ?_; refine Choice.mk ⟨false, Choice.mk ⟨true, _, _, junkByte_told seed page k, ?_⟩⟩)
    (refine gw ?_)
    rw [eps]
    (refine gw ?_; refine ⟨[], [0], rfl, ⟨k + 1, rfl, by rw [← hset]; rfl, by omega⟩, (by omega : size - ((k : Int) + 1).toNat < size - (k : Int).toNat)⟩)
  · have e : k = size := by omega
    subst e
    have f1 : (tabF D fun j => u8 (if ps ≤ j ∧ j < ps + k then fAt mem seed page k j else mem.getD j 0)) = (fillF mem seed page k).map u8 := by
      rw [fillF_eq, hD, ← tabF_of]
      refine tabF_congr fun j hj => ?_
      by_cases e2 : ps ≤ j ∧ j < ps + k
      · rw [if_pos e2]
      · rw [if_neg e2, hfo j e2]
    rw [f1]
    (refine gw ?_; exact RetN.mk ⟨[0], rfl, rfl, rfl⟩)
end Go.Ev.W
namespace Go.Ev.W
open Go.Ev Go.Ev.N

set_option maxHeartbeats 8000000 in
theorem pinMetR_told {pg size : Nat} (hp : 1 ≤ pg) (hs : size ≤ 65536) (hps : pg ≤ size) {l : List Bk} (hl : l.length ≤ 1000000) (hb : ∀ x ∈ l, 0 ≤ x.a ∧ 1 ≤ x.c ∧ x.a + x.c ≤ size) : Told P T pin_Met [] [i64 pg, i64 size, lK l] (.ref 0) [.row t_bool ((metF pg size l).map .bool)] := by
  have hml : (l.map eB).length = l.length := by simp
  have e1 : ((size : Nat) : Int).tdiv (pg : Nat) = ((size / pg : Nat) : Int) := by rw [Int.tdiv_eq_ediv_of_nonneg (by omega)]; omega
  have d1 := Nat.div_le_self size pg
  have d2 : 1 ≤ size / pg := (Nat.le_div_iff_mul_le (by omega)).2 (by omega)
  obtain ⟨D, hD⟩ : ∃ D, size / pg = D := ⟨_, rfl⟩
  have hmet : metF pg size l = (List.range D).map fun i => anyK l pg i l.length := by
    unfold metF; rw [hD]
    refine List.map_congr_left fun i _ => ?_
    unfold anyK; rw [List.take_length]
  rw [hD] at e1 d1 d2
  have hlen : ∀ f : Nat → AV, (tabF D f).length = D := tabF_len D
  rw [hmet]
  refine told_of_ev (fn := pin_Met_fn) tabOk mixed (by kernel_rfl) (by kernel_rfl) (by kernel_rfl) (by kernel_rfl) ?_
  (refine gw ?_; refine IfB.ff (by simp; omega) ?_)
  (refine gw ?_; refine IfB.ff (by simp; omega) ?_)
  (refine gw ?_)
  rw [e1]
  (refine gw ?_; refine IfB.ff (by simp; omega) ?_)
  (refine gw ?_)
  rw [e1]
  (refine gw ?_; refine Room.mk (by first | omega | (simp; omega) | (simp <;> fail)) ?_)
  (refine gw ?_; refine LoopN.mk ⟨[0,1,7,33,34,35], fun vs L => ∃ k : Nat, vs = [i64 pg, i64 size, .ref 0, lK l, i64 (l.map eB).length, i64 k] ∧ L = [.row t_bool (tabF D fun j => .bool (anyK l pg j k))] ∧ k ≤ l.length, fun vs L => match vs with | [_, _, _, _, _, .int _ i] => l.length - i.toNat | _ => 0, [], [1], rfl, ⟨0, rfl, ?_, by omega⟩, ?_⟩)
  · show [Blk.row t_bool (List.replicate ((D : Nat) : Int).toNat (AV.bool false))] = _
    rw [Int.toNat_natCast, tabF_rep]; rfl
  rintro vs L ⟨k, rfl, rfl, hk⟩
  (refine gw ?_; first | refine IfB.dec (fun g1 => ?_) (fun g1 => ?_) | refine IfB.eq (fun g1 => ?_) (fun g1 => ?_) | refine IfB.ne (fun g1 => ?_) (fun g1 => ?_) | refine IfB.mk (fun g1 => ?_) (fun g1 => ?_))
  · have hkl : k < l.length := by omega
    have hx := hb _ (List.getElem_mem hkl)
    have hsu := fun i => anyK_succ (pg := pg) (i := i) hkl
    have emax : ∀ a b : Int, (if b > a then b else a) = max a b := fun a b => by split <;> omega
    (refine gw ?_; refine idx_map (hkl) ?_)
    generalize l[k] = x at *
    obtain ⟨a, ha⟩ : ∃ a : Nat, x.a = (a : Nat) := ⟨x.a.toNat, by omega⟩
    obtain ⟨c, hc⟩ : ∃ c : Nat, x.c = (c : Nat) := ⟨x.c.toNat, by omega⟩
    have hx1 := hx.2.1
    have hx2 := hx.2.2
    rw [hc] at hx1
    rw [ha, hc] at hx2
    have em : (if (0 : Int) > x.a then 0 else x.a) = ((a : Nat) : Int) := by rw [if_neg (by omega), ha]
    have f1 : ((a : Nat) : Int).tdiv (pg : Nat) = ((a / pg : Nat) : Int) := (Int.ofNat_tdiv a pg).symm
    have f2 : (((a + c - 1 : Nat)) : Int).tdiv (pg : Nat) = (((a + c - 1) / pg : Nat) : Int) := (Int.ofNat_tdiv _ pg).symm
    have f0 : ((a + c : Nat) : Int) - 1 = ((a + c - 1 : Nat) : Int) := by omega
    have q1 := Nat.div_le_self a pg
    have q2 := Nat.div_le_self (a + c - 1) pg
    have q3 : a / pg ≤ (a + c - 1) / pg := Nat.div_le_div_right (by omega)
    have hov : ∀ i, ovr (i * pg : Nat) pg a c = (decide (a / pg ≤ i) && decide (i ≤ (a + c - 1) / pg)) := fun i => by
      unfold ovr
      rw [← Bool.decide_and]
      refine decide_eq_decide.2 ?_
      rw [Nat.le_div_iff_mul_le (by omega), ← Nat.lt_succ_iff (m := a / pg), Nat.div_lt_iff_lt_mul (by omega), Nat.succ_mul]
      omega
    have hs' : ∀ i, anyK l pg i (k + 1) = (anyK l pg i k || (decide (a / pg ≤ i) && decide (i ≤ (a + c - 1) / pg))) := fun i => by rw [hsu, ha, hc, hov]
    clear hsu hov
    generalize a / pg = A at *
    generalize (a + c - 1) / pg = C at *
    by_cases hlt : x.c < (size : Int) - x.a
    · have eu : (if (size : Int) < x.a + x.c then (size : Int) else x.a + x.c) = ((a + c : Nat) : Int) := by rw [if_neg (by omega)]; omega
      (refine gw ?_; refine IfB.tt (by simp; omega) ?_)
      (refine gw ?_)
      rw [em]
      (refine gw ?_; refine IfB.ff (by simp; omega) ?_)
      (refine gw ?_)
      rw [eu]
      (refine gw ?_; refine IfB.ff (by simp; omega) ?_)
      (refine gw ?_)
      rw [f1]
      (refine gw ?_; refine LoopN.mk ⟨[0,1,7,11,12,33,34,35], fun vs L => ∃ p : Nat, vs = [i64 pg, i64 size, .ref 0, i64 (a + c : Nat), i64 p, lK l, i64 (l.map eB).length, i64 k] ∧ L = [.row t_bool (tabF D fun j => .bool (or (anyK l pg j k) (decide (A ≤ j) && decide (j < p))))] ∧ A ≤ p ∧ p ≤ C + 1, fun vs L => match vs with | [_, _, _, _, .int _ i, _, _, _] => C + 1 - i.toNat | _ => 0, [], [0], rfl, ⟨A, by rw [← eu]; rfl, ?_, by omega, by omega⟩, ?_⟩)
      · refine congrArg (fun z => [Blk.row t_bool z]) (tabF_congr fun j _ => ?_)
        have : (decide (A ≤ j) && decide (j < A)) = false := by rw [Bool.and_eq_false_iff]; by_cases h : A ≤ j <;> simp [h]
        rw [this, Bool.or_false]
      rintro vs L ⟨p, rfl, rfl, hp1, hp2⟩
      have hlp := hlen fun j => .bool (or (anyK l pg j k) (decide (A ≤ j) && decide (j < p)))
      have hend : ¬ (p ≤ C ∧ p < D) → (tabF D fun j => AV.bool (or (anyK l pg j k) (decide (A ≤ j) && decide (j < p)))) = tabF D fun j => AV.bool (anyK l pg j (k + 1)) := fun hn => by
        refine tabF_congr fun j hj => ?_
        rw [hs']
        have : decide (j < p) = decide (j ≤ C) := decide_eq_decide.2 (by omega)
        rw [this]
      (refine gw ?_)
      rw [f0]
      (refine gw ?_)
      rw [f2]
      by_cases hpC : p ≤ C
      · (refine gw ?_; refine IfB.tt (by simp; omega) ?_)
        (refine gw ?_)
        rw [hlp]
        by_cases hpD : p < D
        · have hset : (tabF D fun j => AV.bool (or (anyK l pg j k) (decide (A ≤ j) && decide (j < p)))).set ((p : Nat) : Int).toNat (.bool true) = tabF D fun j => AV.bool (or (anyK l pg j k) (decide (A ≤ j) && decide (j < p + 1))) := by
            rw [Int.toNat_natCast]
            refine tabF_set hpD fun j hj => ?_
            by_cases e : j = p
            · subst e; rw [if_pos rfl, decide_eq_true hp1, decide_eq_true (show j < j + 1 by omega)]; simp
            · rw [if_neg e]
              have : decide (j < p + 1) = decide (j < p) := decide_eq_decide.2 (by omega)
              rw [this]
          (refine gw ?_; refine IfB.tt (by simp; omega) ?_)
          (refine gw ?_; refine ⟨[], [0], rfl, ⟨p + 1, rfl, by rw [← hset]; rfl, by omega, by omega⟩, (by omega : C + 1 - ((p : Int) + 1).toNat < C + 1 - (p : Int).toNat)⟩)
        · (refine gw ?_; refine IfB.ff (by simp; omega) ?_)
          (refine gw ?_; refine ⟨[], [0], rfl, ⟨k + 1, rfl, by rw [← hend (by omega)]; rfl, hkl⟩, (by omega : l.length - ((k : Int) + 1).toNat < l.length - (k : Int).toNat)⟩)
      · (refine gw ?_; refine IfB.ff (by simp; omega) ?_)
        (refine gw ?_; refine ⟨[], [0], rfl, ⟨k + 1, rfl, by rw [← hend (by omega)]; rfl, hkl⟩, (by omega : l.length - ((k : Int) + 1).toNat < l.length - (k : Int).toNat)⟩)
    · have eu : (size : Int) = ((a + c : Nat) : Int) := by omega
      (refine gw ?_; refine IfB.ff (by simp; omega) ?_)
      (refine gw ?_; refine IfB.ff (by simp; omega) ?_)
      (refine gw ?_)
      rw [em]
      (refine gw ?_; refine IfB.ff (by simp; omega) ?_)
      (refine gw ?_; refine IfB.ff (by simp; omega) ?_)
      (refine gw ?_)
      rw [f1]
      (refine gw ?_; refine LoopN.mk ⟨[0,1,7,11,12,33,34,35], fun vs L => ∃ p : Nat, vs = [i64 pg, i64 size, .ref 0, i64 (a + c : Nat), i64 p, lK l, i64 (l.map eB).length, i64 k] ∧ L = [.row t_bool (tabF D fun j => .bool (or (anyK l pg j k) (decide (A ≤ j) && decide (j < p))))] ∧ A ≤ p ∧ p ≤ C + 1, fun vs L => match vs with | [_, _, _, _, .int _ i, _, _, _] => C + 1 - i.toNat | _ => 0, [], [0], rfl, ⟨A, by rw [← eu]; rfl, ?_, by omega, by omega⟩, ?_⟩)
      · refine congrArg (fun z => [Blk.row t_bool z]) (tabF_congr fun j _ => ?_)
        have : (decide (A ≤ j) && decide (j < A)) = false := by rw [Bool.and_eq_false_iff]; by_cases h : A ≤ j <;> simp [h]
        rw [this, Bool.or_false]
      rintro vs L ⟨p, rfl, rfl, hp1, hp2⟩
      have hlp := hlen fun j => .bool (or (anyK l pg j k) (decide (A ≤ j) && decide (j < p)))
      have hend : ¬ (p ≤ C ∧ p < D) → (tabF D fun j => AV.bool (or (anyK l pg j k) (decide (A ≤ j) && decide (j < p)))) = tabF D fun j => AV.bool (anyK l pg j (k + 1)) := fun hn => by
        refine tabF_congr fun j hj => ?_
        rw [hs']
        have : decide (j < p) = decide (j ≤ C) := decide_eq_decide.2 (by omega)
        rw [this]
      (refine gw ?_)
      rw [f0]
      (refine gw ?_)
      rw [f2]
      by_cases hpC : p ≤ C
      · (refine gw ?_; refine IfB.tt (by simp; omega) ?_)
        (refine gw ?_)
        rw [hlp]
        by_cases hpD : p < D
        · have hset : (tabF D fun j => AV.bool (or (anyK l pg j k) (decide (A ≤ j) && decide (j < p)))).set ((p : Nat) : Int).toNat (.bool true) = tabF D fun j => AV.bool (or (anyK l pg j k) (decide (A ≤ j) && decide (j < p + 1))) := by
            rw [Int.toNat_natCast]
            refine tabF_set hpD fun j hj => ?_
            by_cases e : j = p
            · subst e; rw [if_pos rfl, decide_eq_true hp1, decide_eq_true (show j < j + 1 by omega)]; simp
            · rw [if_neg e]
              have : decide (j < p + 1) = decide (j < p) := decide_eq_decide.2 (by omega)
              rw [this]
          (refine gw ?_; refine IfB.tt (by simp; omega) ?_)
          (refine gw ?_; refine ⟨[], [0], rfl, ⟨p + 1, rfl, by rw [← hset]; rfl, by omega, by omega⟩, (by omega : C + 1 - ((p : Int) + 1).toNat < C + 1 - (p : Int).toNat)⟩)
        · (refine gw ?_; refine IfB.ff (by simp; omega) ?_)
          (refine gw ?_; refine ⟨[], [0], rfl, ⟨k + 1, rfl, by rw [← hend (by omega)]; rfl, hkl⟩, (by omega : l.length - ((k : Int) + 1).toNat < l.length - (k : Int).toNat)⟩)
      · (refine gw ?_; refine IfB.ff (by simp; omega) ?_)
        (refine gw ?_; refine ⟨[], [0], rfl, ⟨k + 1, rfl, by rw [← hend (by omega)]; rfl, hkl⟩, (by omega : l.length - ((k : Int) + 1).toNat < l.length - (k : Int).toNat)⟩)
  · have e : k = l.length := by omega
    subst e
    have f0 : (tabF D fun j => AV.bool (anyK l pg j l.length)) = ((List.range D).map fun j => anyK l pg j l.length).map AV.bool := by rw [← tabF_of]
    rw [f0]
    (refine gw ?_; exact RetN.mk ⟨[0], rfl, rfl, rfl⟩)
end Go.Ev.W
namespace Go.Ev.W
open Go.Ev Go.Ev.N

set_option maxRecDepth 20000 in
set_option maxHeartbeats 4000000 in
theorem plainNew_told (r : Rw) : Told P T plain_New [] [eR r] (.tup [eM (newM r).1, i64 ((newM r).2 : Nat)]) [] := by
  have c1 := confOf_told r
  have hok := ofF_ok (r := r)
  unfold newM
  generalize ofF r = R at *
  obtain ⟨c, e⟩ := R
  by_cases he : e = 0
  · subst he
    have hc : c.Ok := (hok rfl).1
    have hH := hc.h2
    have hpg := hc.pgpos
    have d1 : ((c.H : Nat) : Int).tdiv ((c.Pg : Nat) : Int) = ((c.H / c.Pg : Nat) : Int) := (Int.ofNat_tdiv c.H c.Pg).symm
    have d2 := Nat.div_le_self c.H c.Pg
    simp only [ne_eq, not_true_eq_false, if_false]
    generalize hD : c.H / c.Pg = D at *
    have c1 : Told P T conf_Of [] [eR r] (.tup [eC c, i64 ((0 : Nat) : Int)]) [] := c1
    refine told_of_ev (fn := plain_New_fn) tabOk mixed (by kernel_rfl) (by kernel_rfl) (by kernel_rfl) (by kernel_rfl) ?_
    (refine gw ?_; refine Choice.mk ⟨false, Choice.mk ⟨false, _, _, c1, ?_⟩⟩)
    (refine gw ?_)
    rw [d1]
    (refine gw ?_; refine Room.mk (by first | omega | (simp; omega) | (simp <;> fail)) ?_)
    (refine gw ?_; refine Room.mk (by first | omega | (simp; omega) | (simp <;> fail)) ?_)
    (refine gw ?_; refine RetN.fz ⟨[true, true], [], rfl, ?_, rfl⟩)
    have hr1 : lT (List.replicate D false) = .lst t_bool (List.replicate D (.bool false)) := by unfold lT; rw [List.map_replicate]
    have hr2 : lU (List.replicate c.H 0) = .lst t_uint8 (List.replicate c.H (u8 0)) := by unfold lU; rw [List.map_replicate]
    refine Eq.trans ?_ (congrArg (fun z => AV.tup [z, i64 0]) (show AV.agg [i64 c.G, i64 c.N, i64 c.M, i64 c.L, i64 c.Pg, i64 c.P, i64 c.H, i64 c.Sd, lK [], i64 0, i64 0, i64 0, .lst t_bool (List.replicate ((D : Nat) : Int).toNat (.bool false)), .lst t_uint8 (List.replicate ((c.H : Nat) : Int).toNat (u8 0))] = eM ⟨c, [], 0, 0, 0, List.replicate D false, List.replicate c.H 0⟩ by
      rw [Int.toNat_natCast, Int.toNat_natCast, ← hr1, ← hr2]; rfl))
    rfl
  · simp only [ne_eq, he, not_false_eq_true, if_true]
    refine told_of_ev (fn := plain_New_fn) tabOk mixed (by kernel_rfl) (by kernel_rfl) (by kernel_rfl) (by kernel_rfl) ?_
    have c1 : Told P T conf_Of [] [eR r] (.tup [eC c, i64 ((e : Nat) : Int)]) [] := c1
    (refine gw ?_; refine Choice.mk ⟨false, Choice.mk ⟨false, _, _, c1, ?_⟩⟩)
    (refine gw ?_; refine IfB.tt (by simpa using he) ?_)
    (refine gw ?_; exact RetN.fz ⟨[true, true], [], rfl, rfl, rfl⟩)
end Go.Ev.W
namespace Go.Ev.W
open Go.Ev Go.Ev.N

theorem findB1_told (x : Bk) (y : Int) : Told P T plain_find_1 [] [eB x, .eptr (i64 y) 0] (.bool (decide (x.a = y))) [] := by
  refine told_of_ev (fn := plain_find_1_fn) tabOk mixed (by kernel_rfl) (by kernel_rfl) (by kernel_rfl) (by kernel_rfl) ?_
  refine gw ?_
  (refine gw ?_; refine RetN.mk ⟨[], rfl, ?_, rfl⟩)
  refine congrArg AV.bool ?_
  by_cases h : x.a = y
  · simp [h]
  · simp [h]
theorem indexFuncB_told (l : List Bk) (hl : l.length ≤ 1000000) (y : Int) : Told P T slices_IndexFunc_api_Block_api_Block [] [lK l, .fn plain_find_1 [.eptr (i64 y) 0]] (i64 (match findB l y with | some i => ((i : Nat) : Int) | none => -1)) [] := by
  have hml : (l.map eB).length = l.length := by simp
  refine told_of_ev (fn := slices_IndexFunc_api_Block_api_Block_fn) tabOk mixed (by kernel_rfl) (by kernel_rfl) (by kernel_rfl) (by kernel_rfl) ?_
  (refine gw ?_; refine LoopN.mk ⟨[0,1,7,8], fun vs L => ∃ i : Nat, vs = [lK l, .fn plain_find_1 [.eptr (i64 y) 0], i64 (l.map eB).length, i64 i] ∧ L = [] ∧ i ≤ l.length ∧ ∀ j (h : j < l.length), j < i → l[j].a ≠ y, fun vs L => match vs with | [_, _, _, .int _ i] => l.length - i.toNat | _ => 0, [], [], rfl, ⟨0, rfl, rfl, by omega, fun j _ h => by omega⟩, ?_⟩)
  rintro vs L ⟨i, rfl, rfl, hi, hn⟩
  (refine gw ?_; first | refine IfB.dec (fun h1 => ?_) (fun h1 => ?_) | refine IfB.eq (fun h1 => ?_) (fun h1 => ?_) | refine IfB.ne (fun h1 => ?_) (fun h1 => ?_) | refine IfB.mk (fun h1 => ?_) (fun h1 => ?_))
  · have hlt : i < l.length := by omega
    (refine gw ?_; refine idx_map (hlt) ?_)
    (refine gw ?_; refine Choice.mk ⟨false, Choice.mk ⟨true, _, _, findB1_told l[i] y, ?_⟩⟩)
    by_cases h2 : l[i].a = y
    · rw [decide_eq_true h2, findB_some hlt hn h2]
      (refine gw ?_; exact RetN.mk ⟨[], rfl, rfl, rfl⟩)
    · rw [decide_eq_false h2]
      (refine gw ?_; refine ⟨[], [], rfl, ⟨i + 1, rfl, rfl, hlt, fun j h hj => ?_⟩, (by omega : l.length - ((i : Int) + 1).toNat < l.length - (i : Int).toNat)⟩)
      rcases Nat.lt_or_ge j i with h' | h'
      · exact hn j h h'
      · have : j = i := by omega
        subst this; exact h2
  · rw [findB_none fun j hj => hn j hj (by omega)]
    (refine gw ?_; exact RetN.mk ⟨[], rfl, rfl, rfl⟩)
theorem plainFind_told (m : Mo) (hl : m.bs.length ≤ 1000000) (y : Int) : Told P T plain_find [] [eM m, i64 y] (i64 (match findB m.bs y with | some i => ((i : Nat) : Int) | none => -1)) [] := by
  have c1 := indexFuncB_told m.bs hl y
  refine told_of_ev (fn := plain_find_fn) tabOk mixed (by kernel_rfl) (by kernel_rfl) (by kernel_rfl) (by kernel_rfl) ?_
  (refine gw ?_; refine Choice.mk ⟨false, Choice.mk ⟨true, _, _, c1, ?_⟩⟩)
  (refine gw ?_; exact RetN.mk ⟨[], rfl, rfl, rfl⟩)
/-- A place is free, if the first block that ends behind it begins behind what is asked for. -/
theorem free_scan {H : Nat} {l : List Bk} (ha : ApB H l) {y n : Int} {i : Nat} (hi : i ≤ l.length) (h1 : ∀ j (h : j < l.length), j < i → l[j].a + l[j].c ≤ y) (h2 : ∀ h : i < l.length, y < l[i].a + l[i].c) : freeAt l n y = (if h : i < l.length then decide (y + n ≤ l[i].a) else true) := by
  rw [Bool.eq_iff_iff, freeAt_iff]
  constructor
  · intro hf
    split
    · rename_i h
      have := hf _ (List.getElem_mem h)
      have := h2 h
      exact decide_eq_true (by omega)
    · rfl
  · intro hf x hx
    obtain ⟨j, hj, rfl⟩ := List.getElem_of_mem hx
    rcases Nat.lt_trichotomy j i with h | h | h
    · have := h1 j hj h; omega
    · subst h
      rw [dif_pos hj] at hf
      have := of_decide_eq_true hf
      omega
    · have hil : i < l.length := by omega
      rw [dif_pos hil] at hf
      have := of_decide_eq_true hf
      have := List.pairwise_iff_getElem.1 ha.p i j hil hj h
      have := ha.b _ (List.getElem_mem hil)
      omega
set_option maxHeartbeats 2000000 in
theorem plainLowest_told {m : Mo} (hc : m.c.Ok) (ha : ApB m.c.H m.bs) {n : Nat} (hn : 1 ≤ n) (hn2 : n ≤ 65536) : Told P T plain_lowest [] [eM m, i64 n] (.tup [i64 ((lowF m.c m.bs n).1 : Nat), .bool (lowF m.c m.bs n).2]) [] := by
  have hml : (m.bs.map eB).length = m.bs.length := by simp
  have hH := hc.h2
  have hd := Nat.div_mul_le_self m.c.H n
  have hdl := Nat.div_add_mod m.c.H n
  have hdm := Nat.mod_lt m.c.H hn
  have hlen := ha.len
  obtain ⟨R, hR⟩ : ∃ R, lowF m.c m.bs n = R := ⟨_, rfl⟩
  obtain ⟨D, hD⟩ : ∃ D, m.c.H / n = D := ⟨_, rfl⟩
  rw [hD] at hd hdl
  rw [hR]
  refine told_of_ev (fn := plain_lowest_fn) tabOk mixed (by kernel_rfl) (by kernel_rfl) (by kernel_rfl) (by kernel_rfl) ?_
  (refine gw ?_; refine IfB.ff (by simp; omega) ?_)
  (refine gw ?_; refine LoopN.mk ⟨[1,2,6,7], fun vs L => ∃ k i : Nat, vs = [i64 n, .ptr 0 0 0, i64 (k * n : Nat), i64 i] ∧ L = [.var (eM m)] ∧ k ≤ D ∧ i ≤ m.bs.length ∧ R = lowGo m.bs n (D - k) k ∧ ∀ j (h : j < m.bs.length), j < i → m.bs[j].a + m.bs[j].c ≤ (k * n : Nat), fun vs L => match vs with | [_, _, .int _ i, _] => m.c.H + n - i.toNat | _ => 0, [], [0], rfl, ⟨0, 0, by rw [Nat.zero_mul]; rfl, rfl, by omega, by omega, by rw [← hR, ← hD]; rfl, fun j _ h => by omega⟩, ?_⟩)
  rintro vs L ⟨k, i, rfl, rfl, hk, hi, he, hb⟩
  have hkn : k * n ≤ D * n := Nat.mul_le_mul_right _ hk
  have hsn : (k + 1) * n = k * n + n := by rw [Nat.succ_mul]
  have hlt : k * n + n ≤ m.c.H → k < D := fun h => by
    rcases Nat.lt_or_ge k D with h' | h'
    · exact h'
    · have : D * n ≤ k * n := Nat.mul_le_mul_right _ h'
      rw [Nat.mul_comm n D] at hdl
      omega
  have hge : k < D → k * n + n ≤ m.c.H := fun h => by
    have : (k + 1) * n ≤ D * n := Nat.mul_le_mul_right _ h
    omega
  obtain ⟨y, hy⟩ : ∃ y, k * n = y := ⟨_, rfl⟩
  rw [hy] at hkn hsn hlt hge hb ⊢
  (refine gw ?_; first | refine IfB.dec (fun h1 => ?_) (fun h1 => ?_) | refine IfB.eq (fun h1 => ?_) (fun h1 => ?_) | refine IfB.ne (fun h1 => ?_) (fun h1 => ?_) | refine IfB.mk (fun h1 => ?_) (fun h1 => ?_))
  · have hkD := hlt (by omega)
    have e1 : D - k = (D - (k + 1)) + 1 := by omega
    rw [e1, lowGo, hy] at he
    (refine gw ?_; refine LoopN.mk ⟨[1,2,6,7], fun vs L => ∃ i : Nat, vs = [i64 n, .ptr 0 0 0, i64 y, i64 i] ∧ L = [.var (eM m)] ∧ i ≤ m.bs.length ∧ ∀ j (h : j < m.bs.length), j < i → m.bs[j].a + m.bs[j].c ≤ (y : Nat), fun vs L => match vs with | [_, _, _, .int _ i] => m.bs.length - i.toNat | _ => 0, [], [0], rfl, ⟨i, rfl, rfl, hi, hb⟩, ?_⟩)
    rintro vs L ⟨i, rfl, rfl, hi, hb⟩
    by_cases g1 : i < m.bs.length
    · have hbi := ha.b _ (List.getElem_mem g1)
      (refine gw ?_; refine IfB.tt (by simp; omega) ?_)
      (refine gw ?_; refine idx_map (g1) ?_)
      (refine gw ?_; refine idx_map (g1) ?_)
      (refine gw ?_; first | refine IfB.dec (fun g2 => ?_) (fun g2 => ?_) | refine IfB.eq (fun g2 => ?_) (fun g2 => ?_) | refine IfB.ne (fun g2 => ?_) (fun g2 => ?_) | refine IfB.mk (fun g2 => ?_) (fun g2 => ?_))
      · (refine gw ?_; refine ⟨[], [0], rfl, ⟨i + 1, rfl, rfl, g1, fun j h hj => ?_⟩, (by omega : m.bs.length - ((i : Int) + 1).toNat < m.bs.length - (i : Int).toNat)⟩)
        rcases Nat.lt_or_ge j i with h' | h'
        · exact hb j h h'
        · have : j = i := by omega
          subst this; exact g2
      · have hfs := free_scan ha (y := y) (n := n) hi hb fun _ => by omega
        rw [dif_pos g1] at hfs
        (refine gw ?_; refine IfB.ff (by simp; omega) ?_)
        (refine gw ?_; refine idx_map (g1) ?_)
        (refine gw ?_; first | refine IfB.dec (fun g3 => ?_) (fun g3 => ?_) | refine IfB.eq (fun g3 => ?_) (fun g3 => ?_) | refine IfB.ne (fun g3 => ?_) (fun g3 => ?_) | refine IfB.mk (fun g3 => ?_) (fun g3 => ?_))
        · rw [decide_eq_true (by omega)] at hfs
          rw [hfs, if_pos rfl] at he
          rw [he]
          (refine gw ?_; exact RetN.mk ⟨[], rfl, rfl, rfl⟩)
        · rw [decide_eq_false (by omega)] at hfs
          rw [hfs, if_neg (by simp)] at he
          (refine gw ?_; refine ⟨[], [0], rfl, ⟨k + 1, i, by rw [hsn]; rfl, rfl, hkD, hi, he, fun j h hj => by have := hb j h hj; rw [hsn]; omega⟩, (by omega : m.c.H + n - ((y : Int) + (n : Int)).toNat < m.c.H + n - (y : Int).toNat)⟩)
    · have hfs := free_scan ha (y := y) (n := n) hi hb fun h => absurd h g1
      rw [dif_neg g1] at hfs
      rw [hfs, if_pos rfl] at he
      (refine gw ?_; refine IfB.ff (by simp; omega) ?_)
      (refine gw ?_; refine IfB.tt (by simp; omega) ?_)
      rw [he]
      (refine gw ?_; exact RetN.mk ⟨[], rfl, rfl, rfl⟩)
  · have hkD : k = D := by
      rcases Nat.lt_or_ge k D with h' | h'
      · have := hge h'; omega
      · omega
    rw [hkD, Nat.sub_self, lowGo] at he
    rw [he]
    (refine gw ?_; exact RetN.mk ⟨[], rfl, rfl, rfl⟩)
end Go.Ev.W
