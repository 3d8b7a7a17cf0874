/- Words and lemmas, part 3, for laws of this seat (a part of their proofs). -/
import Derived.Test.YtdnelcadmoeeiaaC2
set_option linter.unusedVariables false
set_option linter.unusedSimpArgs false
namespace Go.Ev.W
open Go.Ev Go.Ev.N

theorem ok2644 : NwOk 2 64 4 := by decide
theorem inv2644 : Inv 2 64 4 offB [] := ⟨ok2644.eg, fun m hm => absurd hm (by simp), fun m hm => absurd hm (by simp)⟩
set_option maxRecDepth 20000 in
set_option maxHeartbeats 8000000 in
theorem placeBack_told (l : List (Nat × Nat)) (hb : ∀ p ∈ l, p.1 < 256 ∧ p.2 < 256) (cl : Nat) (hcl : cl < 256) : Told P T law11_PlaceBack [] [.lst tx_a2_uint8 (l.map enc2), u8 cl] (.bool true) [] := by
  have cb := begun11_told
  have hml : (l.map enc2).length = l.length := by simp
  by_cases h30 : l.length ≤ 30
  · have c1 := plNew_told 2 64 4 (by omega) (by omega) (by omega)
    rw [decide_eq_true ok2644, show nwE 2 64 4 = eE 2 64 4 offB [] from nw_yes ok2644] at c1
    refine told_of_ev (fn := law11_PlaceBack_fn) tabOk mixed (by kernel_rfl) (by kernel_rfl) (by kernel_rfl) (by kernel_rfl) ?_
    (refine gw ?_; refine Choice.mk ⟨false, Choice.mk ⟨false, _, _, cb, ?_⟩⟩)
    (refine gw ?_; refine IfB.ff (by rw [hml]; simp; omega) ?_)
    (refine gw ?_; refine Choice.mk ⟨false, Choice.mk ⟨false, _, _, c1, ?_⟩⟩)
    (refine gw ?_; refine LoopN.mk ⟨[0,1,5,7], fun vs L => ∃ (i : Nat) (b : Nat → Bool) (m : List M), vs = [.lst tx_a2_uint8 (l.map enc2), u8 cl, .ptr 0 0 0, i64 i] ∧ L = [.var (eE 2 64 4 b m)] ∧ i ≤ l.length ∧ Inv 2 64 4 b m ∧ m.length ≤ i, fun vs L => match vs with | [_, _, _, .int _ i] => l.length - i.toNat | _ => 0, [], [0], rfl, ⟨0, offB, [], rfl, rfl, by omega, inv2644, by simp⟩, ?_⟩)
    rintro vs L ⟨i, b, m, rfl, rfl, hi, hok, hmi⟩
    have hmm : (m.map encM).length = m.length := by simp
    by_cases hil : i < l.length
    · have hxx : ∀ Q : AV → Prop, Q (enc2 l[i]) → Idx (l.map enc2) ((i : Nat) : Int) Q := fun Q q => idx_map hil q
      have hbi := hb _ (List.getElem_mem hil)
      generalize l[i] = xy at *
      obtain ⟨x, y⟩ := xy
      have hx : x < 256 := hbi.1
      have hy : y < 256 := hbi.2
      have hm3 : ((x : Nat) : Int).tmod 3 = ((x % 3 : Nat) : Int) := (Int.ofNat_tmod x 3).symm
      have hm4 : ((y : Nat) : Int).tmod 4 = ((y % 4 : Nat) : Int) := (Int.ofNat_tmod y 4).symm
      (refine gw ?_; refine IfB.tt (by rw [hml]; simp; omega) ?_)
      (refine gw ?_)
      refine hxx _ ?_
      (refine gw ?_)
      rw [hm3]
      by_cases h3 : x % 3 > 0
      · have p1 := plPlace_told hok.eg (b := b) (y % 4 : Nat) (by omega)
        (refine gw ?_; refine IfB.tt (by simp; omega) ?_)
        (refine gw ?_)
        refine hxx _ ?_
        (refine gw ?_)
        rw [hm4]
        (refine gw ?_; refine Choice.mk ⟨false, Choice.mk ⟨false, _, _, p1, ?_⟩⟩)
        (refine gw ?_; refine ⟨[], [0], rfl, ⟨i + 1, placeB 64 4 b (y % 4 : Nat), placeL 2 64 4 b m (y % 4 : Nat), rfl, rfl, hil, hok.place (by omega) _, by have := plLen 2 64 4 b m (y % 4 : Nat); omega⟩, (by omega : l.length - ((i : Int) + 1).toNat < l.length - (i : Int).toNat)⟩)
      · (refine gw ?_; refine IfB.ff (by simp; omega) ?_)
        by_cases hm0 : m.length = 0
        · (refine gw ?_; refine IfB.ff (by rw [hmm, hm0]; rfl) ?_)
          (refine gw ?_; refine ⟨[], [0], rfl, ⟨i + 1, b, m, rfl, rfl, hil, hok, by omega⟩, (by omega : l.length - ((i : Int) + 1).toNat < l.length - (i : Int).toNat)⟩)
        · have hml1 : y % m.length < m.length := Nat.mod_lt _ (by omega)
          have hmy : ((y : Nat) : Int).tmod ((m.map encM).length : Nat) = ((y % m.length : Nat) : Int) := by rw [hmm]; exact (Int.ofNat_tmod _ _).symm
          have hmk := hok.eg.mks _ (List.getElem_mem hml1)
          have hxm : ∀ Q : AV → Prop, Q (encM m[y % m.length]) → Idx (m.map encM) ((y % m.length : Nat) : Int) Q := fun Q q => idx_map hml1 q
          have r1 := plRel_told hok.eg (b := b) (m[y % m.length]).at' (by omega)
          (refine gw ?_; refine IfB.tt (by exact decide_eq_true (by rw [hmm]; omega)) ?_)
          (refine gw ?_)
          refine hxx _ ?_
          (refine gw ?_)
          rw [hmy]
          (refine gw ?_)
          refine hxm _ ?_
          (refine gw ?_; refine Choice.mk ⟨false, Choice.mk ⟨false, _, _, r1, ?_⟩⟩)
          (refine gw ?_; refine ⟨[], [0], rfl, ⟨i + 1, relB 2 b m (m[y % m.length]).at', relL m (m[y % m.length]).at', rfl, rfl, hil, hok.rel _, by have := rlLen m (m[y % m.length]).at'; omega⟩, (by omega : l.length - ((i : Int) + 1).toNat < l.length - (i : Int).toNat)⟩)
    · have hmc : ((cl : Nat) : Int).tmod 4 = ((cl % 4 : Nat) : Int) := (Int.ofNat_tmod cl 4).symm
      have h4 : cl % 4 < 4 := Nat.mod_lt _ (by omega)
      have q1 := plPlace_told hok.eg (b := b) (cl % 4 : Nat) (by omega)
      have q0 := sameE_told hok.eg (b := b)
      (refine gw ?_; refine IfB.ff (by rw [hml]; simp; omega) ?_)
      (refine gw ?_)
      rw [hmc]
      cases hi2 : lowS 64 4 b (cl % 4 : Nat) with
      | none =>
        have e1 : placeB 64 4 b (cl % 4 : Nat) = b := by unfold placeB; rw [hi2]
        have e2 : placeL 2 64 4 b m (cl % 4 : Nat) = m := by unfold placeL; rw [hi2]
        rw [e1, e2, hi2] at q1
        have q1 : Told P T place_Place [] [eE 2 64 4 b m, i64 (cl % 4 : Nat)] (.tup [eE 2 64 4 b m, i64 _, .bool false]) [] := q1
        (refine gw ?_; refine Choice.mk ⟨false, Choice.mk ⟨false, _, _, q1, ?_⟩⟩)
        (refine gw ?_; refine Choice.mk ⟨false, Choice.mk ⟨false, _, _, q0, ?_⟩⟩)
        (refine gw ?_; exact RetN.mk ⟨[], rfl, rfl, rfl⟩)
      | some j =>
        obtain ⟨k1, k2, k3, k4⟩ := hok.back (by omega) hi2
        have hA : ∃ a : Nat, placeA 2 64 4 b (cl % 4 : Nat) = (a : Int) ∧ a ≤ 65536 ∧ a % (2 * 2 ^ (cl % 4)) = 0 := by
          obtain ⟨k, ek, hk, hik, _, _⟩ := lowS_lt hok.eg.sl hi2
          have ek : cl % 4 = k := by omega
          have hbd := sz_bound hok.eg.sl hok.eg.gG hk hik
          refine ⟨j * 2 ^ (cl % 4) * 2, ?_, by rw [ek]; omega, ?_⟩
          · unfold placeA; rw [hi2]; simp only [Int.toNat_natCast]
          · rw [Nat.mul_assoc, Nat.mul_comm (2 ^ (cl % 4)) 2]; exact Nat.mul_mod_left _ _
        obtain ⟨a, ha, ha2, ha3⟩ := hA
        have hpl := hok.place (by omega) (cl % 4 : Nat)
        have q2 := plRel_told hpl.eg (b := placeB 64 4 b (cl % 4 : Nat)) (placeA 2 64 4 b (cl % 4 : Nat)) (by omega)
        rw [k1, k2, k3, eE_congr m k4] at q2
        rw [hi2] at q1
        rw [ha] at q1 q2
        have q4 := sameE_told hpl.eg (b := placeB 64 4 b (cl % 4 : Nat))
        have q1 : Told P T place_Place [] [eE 2 64 4 b m, i64 (cl % 4 : Nat)] (.tup [eE 2 64 4 _ _, i64 a, .bool true]) [] := q1
        generalize placeB 64 4 b (cl % 4 : Nat) = b2 at *
        generalize placeL 2 64 4 b m (cl % 4 : Nat) = m2 at *
        (refine gw ?_; refine Choice.mk ⟨false, Choice.mk ⟨false, _, _, q1, ?_⟩⟩)
        (refine gw ?_; refine Choice.mk ⟨false, Choice.mk ⟨false, _, _, q2, ?_⟩⟩)
        (refine gw ?_; refine Choice.mk ⟨false, Choice.mk ⟨false, _, _, q1, ?_⟩⟩)
        (refine gw ?_; refine Choice.mk ⟨false, Choice.mk ⟨false, _, _, q0, ?_⟩⟩)
        have hs : (2 : Int) * 2 ^ min ((cl % 4 : Nat) : Int).toNat IntKind.i64.bits = ((2 * 2 ^ (cl % 4) : Nat) : Int) := by
          rw [Int.toNat_natCast, show min (cl % 4) IntKind.i64.bits = cl % 4 from Nat.min_eq_left (by show cl % 4 ≤ 64; omega)]
          simp
        have hp2 : 2 * 2 ^ (cl % 4) ≤ 2 * 2 ^ 3 := Nat.mul_le_mul_left 2 (Nat.pow_le_pow_right (by omega) (by omega))
        have hp0 : 0 < 2 * 2 ^ (cl % 4) := Nat.mul_pos (by omega) (Nat.pow_pos (by omega))
        have hfin : ((a : Nat) : Int).tmod ((2 * 2 ^ (cl % 4) : Nat) : Int) = 0 := by
          rw [← Int.ofNat_tmod a (2 * 2 ^ (cl % 4)), ha3]; rfl
        generalize 2 * 2 ^ (cl % 4) = n2 at *
        have hne : ((n2 : Nat) : Int) ≠ 0 := by omega
        (refine gw ?_; refine Choice.mk ⟨false, Choice.mk ⟨false, _, _, q4, ?_⟩⟩)
        (refine gw ?_)
        rw [hs]
        (refine gw ?_)
        rw [hfin]
        (refine gw ?_; exact RetN.mk ⟨[], rfl, rfl, rfl⟩)
  · refine told_of_ev (fn := law11_PlaceBack_fn) tabOk mixed (by kernel_rfl) (by kernel_rfl) (by kernel_rfl) (by kernel_rfl) ?_
    (refine gw ?_; refine Choice.mk ⟨false, Choice.mk ⟨false, _, _, cb, ?_⟩⟩)
    (refine gw ?_; refine IfB.tt (by rw [hml]; simp; omega) ?_)
    (refine gw ?_; exact RetN.mk ⟨[], rfl, rfl, rfl⟩)
theorem placeBack {x0 x1 : AV} (h0 : Shp T 8 22 x0) (h1 : Shp T 8 5 x1) : Told P T law11_PlaceBack [] [x0, x1] (.bool true) [] := by
  obtain ⟨l, rfl, _, hb⟩ := shp_2 (by kernel_rfl) h0
  obtain ⟨a, rfl, ha⟩ := shp_u8 (by kernel_rfl) h1
  exact placeBack_told l hb a ha
end Go.Ev.W
