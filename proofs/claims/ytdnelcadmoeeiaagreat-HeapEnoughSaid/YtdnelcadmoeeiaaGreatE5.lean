/- Words and lemmas, part 5, for laws of this seat (a part of their proofs). -/
import Derived.Test.YtdnelcadmoeeiaaGreatE1
import Derived.Test.YtdnelcadmoeeiaaGreatE4
import Derived.Test.YtdnelcadmoeeiaaGreatNm
import Derived.Test.YtdnelcadmoeeiaaGreatEvOpen
import Derived.Test.YtdnelcadmoeeiaaGreatEvLib
import Derived.Test.YtdnelcadmoeeiaaGreatEvGrid
import Derived.Test.YtdnelcadmoeeiaaGreatEvTrim
set_option linter.unusedVariables false
set_option linter.unusedSimpArgs false
namespace Go.Ev.W
open Go.Ev Go.Ev.N

theorem tdiv_rng {w s : Int} (h1 : -9223372036854775808 ≤ w) (h2 : w ≤ 9223372036854775807) (hs : 1 ≤ s) : -9223372036854775808 ≤ w.tdiv s ∧ w.tdiv s ≤ 9223372036854775807 := by
  rcases Int.lt_or_le w 0 with h | h
  · obtain ⟨y, rfl⟩ : ∃ y, w = -y := ⟨-w, by omega⟩
    rw [Int.neg_tdiv, Int.tdiv_eq_ediv_of_nonneg (show 0 ≤ y by omega)]
    have a := Int.ediv_nonneg (show 0 ≤ y by omega) (show 0 ≤ s by omega)
    have b := Int.ediv_le_self s (show 0 ≤ y by omega)
    omega
  · rw [Int.tdiv_eq_ediv_of_nonneg h]
    have a := Int.ediv_nonneg h (show 0 ≤ s by omega)
    have b := Int.ediv_le_self s h
    omega
theorem mul_over {n s : Int} (hn : 0 ≤ n) (hs : 1 ≤ s ∧ s ≤ 9223372036854775807) (h : 9223372036854775808 ≤ n * s) : (IntKind.i64.wrap (n * s)).tdiv s ≠ n := by
  intro e
  have h1 := Int.mul_tdiv_add_tmod (IntKind.i64.wrap (n * s)) s
  rw [e] at h1
  have h2 := Int.tmod_lt_of_pos (IntKind.i64.wrap (n * s)) (show (0 : Int) < s by omega)
  have h3 := Int.lt_tmod_of_pos (IntKind.i64.wrap (n * s)) (show (0 : Int) < s by omega)
  rw [Int.mul_comm s n] at h1
  generalize (IntKind.i64.wrap (n * s)).tmod s = d at *
  rw [IntKind.wrap_i64] at h1
  generalize n * s = p at *
  omega
theorem refMul_told (n s : Int) (hn : 0 ≤ n ∧ n ≤ 9223372036854775807) (hs : 0 ≤ s ∧ s ≤ 9223372036854775807) : Told P T ref1_Mul [] [i64 n, i64 s] (.tup [i64 (if n * s ≤ 9223372036854775807 then n * s else 0), .bool (decide (n * s ≤ 9223372036854775807))]) [] := by
  refine told_of_ev (fn := ref1_Mul_fn) tabOk mixed (by kernel_rfl) (by kernel_rfl) (by kernel_rfl) (by kernel_rfl) ?_
  (refine gw ?_; first | refine IfB.dec (fun h1 => ?_) (fun h1 => ?_) | refine IfB.eq (fun h1 => ?_) (fun h1 => ?_) | refine IfB.ne (fun h1 => ?_) (fun h1 => ?_) | refine IfB.mk (fun h1 => ?_) (fun h1 => ?_))
  · rw [h1, Int.zero_mul]
    (refine gw ?_; exact RetN.mk ⟨[], rfl, rfl, rfl⟩)
  · (refine gw ?_; first | refine IfB.dec (fun h2 => ?_) (fun h2 => ?_) | refine IfB.eq (fun h2 => ?_) (fun h2 => ?_) | refine IfB.ne (fun h2 => ?_) (fun h2 => ?_) | refine IfB.mk (fun h2 => ?_) (fun h2 => ?_))
    · rw [h2, Int.mul_zero]
      (refine gw ?_; exact RetN.mk ⟨[], rfl, rfl, rfl⟩)
    · have hp : 0 ≤ n * s := Int.mul_nonneg hn.1 hs.1
      (refine gw ?_)
      refine Fits.mk ?_
      by_cases h : n * s ≤ 9223372036854775807
      · rw [wrap64 (by omega) h, if_pos h, decide_eq_true h]
        have e : (n * s).tdiv s = n := Int.mul_tdiv_cancel n (by omega)
        (refine gw ?_; first | refine IfB.dec (fun h3 => ?_) (fun h3 => ?_) | refine IfB.eq (fun h3 => ?_) (fun h3 => ?_) | refine IfB.ne (fun h3 => ?_) (fun h3 => ?_) | refine IfB.mk (fun h3 => ?_) (fun h3 => ?_))
        · omega
        · (refine gw ?_; first | refine IfB.dec (fun h4 => ?_) (fun h4 => ?_) | refine IfB.eq (fun h4 => ?_) (fun h4 => ?_) | refine IfB.ne (fun h4 => ?_) (fun h4 => ?_) | refine IfB.mk (fun h4 => ?_) (fun h4 => ?_))
          · omega
          · (refine gw ?_)
            rw [e]
            (refine gw ?_; exact RetN.mk ⟨[], rfl, rfl, rfl⟩)
      · rw [if_neg h, decide_eq_false h]
        have hne := mul_over hn.1 (s := s) (by omega) (by omega)
        obtain ⟨w, hw⟩ : ∃ w, IntKind.i64.wrap (n * s) = w := ⟨_, rfl⟩
        have hwr : -9223372036854775808 ≤ w ∧ w ≤ 9223372036854775807 := by
          rw [← hw, IntKind.wrap_i64]; omega
        rw [hw] at hne ⊢
        have ht := tdiv_rng hwr.1 hwr.2 (s := s) (by omega)
        (refine gw ?_; first | refine IfB.dec (fun h3 => ?_) (fun h3 => ?_) | refine IfB.eq (fun h3 => ?_) (fun h3 => ?_) | refine IfB.ne (fun h3 => ?_) (fun h3 => ?_) | refine IfB.mk (fun h3 => ?_) (fun h3 => ?_))
        · omega
        · (refine gw ?_; first | refine IfB.dec (fun h4 => ?_) (fun h4 => ?_) | refine IfB.eq (fun h4 => ?_) (fun h4 => ?_) | refine IfB.ne (fun h4 => ?_) (fun h4 => ?_) | refine IfB.mk (fun h4 => ?_) (fun h4 => ?_))
          · omega
          · (refine gw ?_; refine IfB.tt (by simpa using hne) ?_)
            (refine gw ?_; exact RetN.mk ⟨[], rfl, rfl, rfl⟩)
theorem refProd_told {c : Cf} (hc : c.N ≤ 65536) (n s : Int) (hn : -9223372036854775808 ≤ n ∧ n ≤ 9223372036854775807) (hs : -9223372036854775808 ≤ s ∧ s ≤ 9223372036854775807) : Told P T ref1_Product [] [eC c, i64 n, i64 s] (.tup [i64 ((prodF c n s).1 : Nat), i64 ((prodF c n s).2 : Nat)]) [] := by
  refine told_of_ev (fn := ref1_Product_fn) tabOk mixed (by kernel_rfl) (by kernel_rfl) (by kernel_rfl) (by kernel_rfl) ?_
  (refine gw ?_; first | refine IfB.dec (fun h1 => ?_) (fun h1 => ?_) | refine IfB.eq (fun h1 => ?_) (fun h1 => ?_) | refine IfB.ne (fun h1 => ?_) (fun h1 => ?_) | refine IfB.mk (fun h1 => ?_) (fun h1 => ?_))
  · rw [show prodF c n s = (0, 2) by unfold prodF; rw [if_pos (.inl h1)]]
    (refine gw ?_; exact RetN.mk ⟨[], rfl, rfl, rfl⟩)
  · (refine gw ?_; first | refine IfB.dec (fun h2 => ?_) (fun h2 => ?_) | refine IfB.eq (fun h2 => ?_) (fun h2 => ?_) | refine IfB.ne (fun h2 => ?_) (fun h2 => ?_) | refine IfB.mk (fun h2 => ?_) (fun h2 => ?_))
    · rw [show prodF c n s = (0, 2) by unfold prodF; rw [if_pos (.inr h2)]]
      (refine gw ?_; exact RetN.mk ⟨[], rfl, rfl, rfl⟩)
    · have hm := refMul_told n s (by omega) (by omega)
      have hp : 0 ≤ n * s := Int.mul_nonneg (by omega) (by omega)
      by_cases h : n * s ≤ 9223372036854775807
      · rw [if_pos h, decide_eq_true h] at hm
        (refine gw ?_; refine Choice.mk ⟨false, Choice.mk ⟨true, _, _, hm, ?_⟩⟩)
        (refine gw ?_; first | refine IfB.dec (fun h3 => ?_) (fun h3 => ?_) | refine IfB.eq (fun h3 => ?_) (fun h3 => ?_) | refine IfB.ne (fun h3 => ?_) (fun h3 => ?_) | refine IfB.mk (fun h3 => ?_) (fun h3 => ?_))
        · rw [show prodF c n s = (0, 4) by unfold prodF; rw [if_neg (by omega), if_neg (by omega)]]
          (refine gw ?_; exact RetN.mk ⟨[], rfl, rfl, rfl⟩)
        · rw [show prodF c n s = ((n * s).toNat, 0) by unfold prodF; rw [if_neg (by omega), if_pos (by omega)]]
          have e : (((n * s).toNat : Nat) : Int) = n * s := by omega
          rw [e]
          (refine gw ?_; exact RetN.mk ⟨[], rfl, rfl, rfl⟩)
      · rw [if_neg h, decide_eq_false h] at hm
        rw [show prodF c n s = (0, 4) by unfold prodF; rw [if_neg (by omega), if_neg (by omega)]]
        (refine gw ?_; refine Choice.mk ⟨false, Choice.mk ⟨true, _, _, hm, ?_⟩⟩)
        (refine gw ?_; exact RetN.mk ⟨[], rfl, rfl, rfl⟩)
theorem refCharge_told {c : Cf} (hc : c.N ≤ 65536) (hg : c.G ≤ 65536) (hg1 : 1 ≤ c.G) (s a : Int) (ha : a ≤ 9223372036854775807) : Told P T ref1_Charge [] [eC c, i64 s, i64 a] (.tup [i64 ((chargeF c s a).1 : Nat), i64 ((chargeF c s a).2 : Nat)]) [] := by
  refine told_of_ev (fn := ref1_Charge_fn) tabOk mixed (by kernel_rfl) (by kernel_rfl) (by kernel_rfl) (by kernel_rfl) ?_
  (refine gw ?_; refine Choice.mk ⟨false, Choice.mk ⟨true, _, _, refLog_told a ha, ?_⟩⟩)
  cases h1 : (logF a).2 with
  | false =>
    rw [show chargeF c s a = (0, 3) by unfold chargeF; rw [if_pos (.inl h1)]]
    (refine gw ?_; exact RetN.mk ⟨[], rfl, rfl, rfl⟩)
  | true =>
    have ha1 : 1 ≤ a := by
      unfold logF at h1; split at h1
      · rename_i h; exact h.1
      · cases h1
    (refine gw ?_; first | refine IfB.dec (fun h2 => ?_) (fun h2 => ?_) | refine IfB.eq (fun h2 => ?_) (fun h2 => ?_) | refine IfB.ne (fun h2 => ?_) (fun h2 => ?_) | refine IfB.mk (fun h2 => ?_) (fun h2 => ?_))
    · rw [show chargeF c s a = (0, 3) by unfold chargeF; rw [if_pos (.inr h2)]]
      (refine gw ?_; exact RetN.mk ⟨[], rfl, rfl, rfl⟩)
    · (refine gw ?_; first | refine IfB.dec (fun h3 => ?_) (fun h3 => ?_) | refine IfB.eq (fun h3 => ?_) (fun h3 => ?_) | refine IfB.ne (fun h3 => ?_) (fun h3 => ?_) | refine IfB.mk (fun h3 => ?_) (fun h3 => ?_))
      · rw [show chargeF c s a = (0, 4) by unfold chargeF; rw [if_neg (by rw [h1]; simp; omega), if_pos (.inl h3)]]
        (refine gw ?_; exact RetN.mk ⟨[], rfl, rfl, rfl⟩)
      · (refine gw ?_; first | refine IfB.dec (fun h4 => ?_) (fun h4 => ?_) | refine IfB.eq (fun h4 => ?_) (fun h4 => ?_) | refine IfB.ne (fun h4 => ?_) (fun h4 => ?_) | refine IfB.mk (fun h4 => ?_) (fun h4 => ?_))
        · rw [show chargeF c s a = (0, 4) by unfold chargeF; rw [if_neg (by rw [h1]; simp; omega), if_pos (.inr h4)]]
          (refine gw ?_; exact RetN.mk ⟨[], rfl, rfl, rfl⟩)
        · have cu := refUp_told (max (max s.toNat a.toNat) c.G) (by omega) (by omega)
          have e1 : (if a > s then a else s) = ((max s.toNat a.toNat : Nat) : Int) := by split <;> omega
          have e2 : (if ((c.G : Nat) : Int) > ((max s.toNat a.toNat : Nat) : Int) then ((c.G : Nat) : Int) else ((max s.toNat a.toNat : Nat) : Int)) = ((max (max s.toNat a.toNat) c.G : Nat) : Int) := by split <;> omega
          rw [← e2, ← e1] at cu
          rw [show chargeF c s a = (upN (max (max s.toNat a.toNat) c.G), 0) by unfold chargeF; rw [if_neg (by rw [h1]; simp; omega), if_neg (by omega)]]
          (refine gw ?_; refine Choice.mk ⟨false, Choice.mk ⟨true, _, _, cu, ?_⟩⟩)
          (refine gw ?_; exact RetN.mk ⟨[], rfl, rfl, rfl⟩)
theorem chargeF_bd {c : Cf} (hc : c.Ok) (s a : Int) : (chargeF c s a).1 ≤ 65536 ∧ ((chargeF c s a).2 = 0 → ∃ k, k ≤ c.L ∧ (chargeF c s a).1 = c.G * 2 ^ k ∧ 0 ≤ s ∧ s ≤ (chargeF c s a).1) := by
  unfold chargeF
  split
  · simp
  · split
    · simp
    · rename_i h1 h2
      simp only [not_or] at h1 h2
      have ha : a ≤ c.N := by omega
      have hN := hc.n
      obtain ⟨g, hg⟩ := hc.g
      have hpN : c.N = 2 ^ (g + c.L) := by rw [hN, hg, Nat.pow_add]
      have hle : upN (max (max s.toNat a.toNat) c.G) ≤ 2 ^ (g + c.L) := by
        refine upN_le ?_
        rw [← hpN]
        have hgN : c.G ≤ c.N := by rw [hN]; exact Nat.le_mul_of_pos_right _ (Nat.two_pow_pos _)
        omega
      have hb := hc.nM
      have hb2 := hc.mH
      refine ⟨by rw [← hpN] at hle; omega, fun _ => ?_⟩
      obtain ⟨e, he⟩ := pow_up (v := max s.toNat a.toNat) hc.g
      refine ⟨e, ?_, he, by omega, ?_⟩
      · rw [he, hg, ← Nat.pow_add] at hle
        have := (Nat.pow_le_pow_iff_right (a := 2) (by omega)).1 hle
        omega
      · have := le_upN (max (max s.toNat a.toNat) c.G)
        show s ≤ ((upN _ : Nat) : Int)
        omega
theorem refNew_told {c : Cf} (hc : c.Ok) (live s a : Int) (hl : -9223372036854775808 ≤ live ∧ live ≤ 9223372036854775807) (ha : a ≤ 9223372036854775807) : Told P T ref1_New [] [eC c, i64 live, i64 s, i64 a] (.tup [i64 ((newF c live s a).1 : Nat), i64 ((newF c live s a).2 : Nat)]) [] := by
  have h1 := hc.nM
  have h2 := hc.mH
  have h3 := hc.gpos
  have h4 : c.G ≤ c.N := by rw [hc.n]; exact Nat.le_mul_of_pos_right _ (Nat.two_pow_pos _)
  have hb := (chargeF_bd hc s a).1
  refine told_of_ev (fn := ref1_New_fn) tabOk mixed (by kernel_rfl) (by kernel_rfl) (by kernel_rfl) (by kernel_rfl) ?_
  (refine gw ?_; refine Choice.mk ⟨false, Choice.mk ⟨true, _, _, refCharge_told (by omega) (by omega) h3 s a ha, ?_⟩⟩)
  (refine gw ?_; first | refine IfB.dec (fun g1 => ?_) (fun g1 => ?_) | refine IfB.eq (fun g1 => ?_) (fun g1 => ?_) | refine IfB.ne (fun g1 => ?_) (fun g1 => ?_) | refine IfB.mk (fun g1 => ?_) (fun g1 => ?_))
  · rw [show newF c live s a = (0, (chargeF c s a).2) by unfold newF; rw [if_pos (by omega)]]
    (refine gw ?_; exact RetN.mk ⟨[], rfl, rfl, rfl⟩)
  · (refine gw ?_; first | refine IfB.dec (fun g2 => ?_) (fun g2 => ?_) | refine IfB.eq (fun g2 => ?_) (fun g2 => ?_) | refine IfB.ne (fun g2 => ?_) (fun g2 => ?_) | refine IfB.mk (fun g2 => ?_) (fun g2 => ?_))
    · rw [show newF c live s a = (0, 5) by unfold newF; rw [if_neg (by omega), if_pos g2]]
      (refine gw ?_; exact RetN.mk ⟨[], rfl, rfl, rfl⟩)
    · rw [show newF c live s a = ((chargeF c s a).1, 0) by unfold newF; rw [if_neg (by omega), if_neg g2]]
      (refine gw ?_; exact RetN.mk ⟨[], rfl, rfl, rfl⟩)
theorem prodF_bd {c : Cf} (n s : Int) : (prodF c n s).1 ≤ c.N := by
  unfold prodF; split
  · simp
  · split
    · show (n * s).toNat ≤ _; omega
    · simp
theorem refMany_told {c : Cf} (hc : c.Ok) (live n s : Int) (hl : -9223372036854775808 ≤ live ∧ live ≤ 9223372036854775807) (hn : -9223372036854775808 ≤ n ∧ n ≤ 9223372036854775807) (hs : -9223372036854775808 ≤ s ∧ s ≤ 9223372036854775807) : Told P T ref1_Many [] [eC c, i64 live, i64 n, i64 s] (.tup [i64 ((manyF c live n s).1 : Nat), i64 ((manyF c live n s).2 : Nat)]) [] := by
  have h1 := hc.nM
  have h2 := hc.mH
  have h3 := prodF_bd (c := c) n s
  refine told_of_ev (fn := ref1_Many_fn) tabOk mixed (by kernel_rfl) (by kernel_rfl) (by kernel_rfl) (by kernel_rfl) ?_
  (refine gw ?_; refine Choice.mk ⟨false, Choice.mk ⟨true, _, _, refProd_told (c := c) (by omega) n s hn hs, ?_⟩⟩)
  (refine gw ?_; first | refine IfB.dec (fun g1 => ?_) (fun g1 => ?_) | refine IfB.eq (fun g1 => ?_) (fun g1 => ?_) | refine IfB.ne (fun g1 => ?_) (fun g1 => ?_) | refine IfB.mk (fun g1 => ?_) (fun g1 => ?_))
  · rw [show manyF c live n s = (0, (prodF c n s).2) by unfold manyF; rw [if_pos (by omega)]]
    (refine gw ?_; exact RetN.mk ⟨[], rfl, rfl, rfl⟩)
  · rw [show manyF c live n s = newF c live (prodF c n s).1 1 by unfold manyF; rw [if_neg (by omega)]]
    (refine gw ?_; refine Choice.mk ⟨false, Choice.mk ⟨true, _, _, refNew_told hc live ((prodF c n s).1 : Nat) 1 hl (by omega), ?_⟩⟩)
    (refine gw ?_; exact RetN.mk ⟨[], rfl, rfl, rfl⟩)
theorem refAnew_told {c : Cf} (hc : c.Ok) (live old s : Int) (hl : -1000000 ≤ live ∧ live ≤ 1000000) (ho : -1000000 ≤ old ∧ old ≤ 1000000) : Told P T ref1_Anew [] [eC c, i64 live, i64 old, i64 s] (.tup [i64 ((newF c (live - old) s 1).1 : Nat), i64 ((newF c (live - old) s 1).2 : Nat)]) [] := by
  refine told_of_ev (fn := ref1_Anew_fn) tabOk mixed (by kernel_rfl) (by kernel_rfl) (by kernel_rfl) (by kernel_rfl) ?_
  (refine gw ?_; refine Choice.mk ⟨false, Choice.mk ⟨true, _, _, refNew_told hc (live - old) s 1 (by omega) (by omega), ?_⟩⟩)
  (refine gw ?_; exact RetN.mk ⟨[], rfl, rfl, rfl⟩)
end Go.Ev.W
namespace Go.Ev.W
open Go.Ev Go.Ev.N

theorem ovr_told (a n b m : Int) (h : -4000000000000000000 ≤ a ∧ a ≤ 4000000000000000000 ∧ 0 ≤ n ∧ n ≤ 4000000000000000000 ∧ -4000000000000000000 ≤ b ∧ b ≤ 4000000000000000000 ∧ 0 ≤ m ∧ m ≤ 4000000000000000000) : Told P T ref8_Over [] [.agg [i64 a, i64 n], .agg [i64 b, i64 m]] (.bool (ovr a n b m)) [] := by
  refine told_of_ev (fn := ref8_Over_fn) tabOk mixed (by kernel_rfl) (by kernel_rfl) (by kernel_rfl) (by kernel_rfl) ?_
  repeat' ((conv => whnf); first | (refine Sure.mk (by kernel_rfl) ?_) | (refine IfB.tt rfl ?_) | (refine IfB.ff rfl ?_) | (refine IfB.tt ?_ ?_; (focus (simp <;> fail))) | (refine IfB.ff ?_ ?_; (focus (simp <;> fail))) | (refine fits (wrap64 ?_ ?_) ?_; (focus omega); (focus omega)) | (refine fits (wrapU64 ?_ ?_) ?_; (focus omega); (focus omega)) | (refine Need.mk ?_ ?_; (focus omega)) | (refine InB.mk ?_ ?_ ?_; (focus omega); (focus omega)) | (refine IfB.dec (fun h => ?_) (fun h => ?_)) | (refine IfB.eq (fun h => ?_) (fun h => ?_)) | (refine IfB.ne (fun h => ?_) (fun h => ?_)))
  all_goals (refine gw ?_; refine RetN.mk ⟨[], rfl, ?_, rfl⟩)
  all_goals ((try (conv => lhs; whnf)); (try simp [ovr, *]); (try omega))
def findB (l : List Bk) (y : Int) : Option Nat := l.findIdx? fun x => decide (x.a = y)
theorem findB_some {l : List Bk} {y : Int} {i : Nat} (hi : i < l.length) (h : ∀ j (h : j < l.length), j < i → l[j].a ≠ y) (h2 : l[i].a = y) : findB l y = some i := by
  unfold findB
  rw [List.findIdx?_eq_some_iff_getElem]
  exact ⟨hi, by simpa using h2, fun j hj => by simpa using h j (by omega) hj⟩
theorem findB_none {l : List Bk} {y : Int} (h : ∀ j (h : j < l.length), l[j].a ≠ y) : findB l y = none := by
  unfold findB
  rw [List.findIdx?_eq_none_iff]
  intro x hx
  obtain ⟨j, hj, rfl⟩ := List.getElem_of_mem hx
  simpa using h j hj
theorem find17_told (l : List Bk) (hl : l.length ≤ 1000000) (y : Int) : Told P T ref17_Find [] [lK l, i64 y] (i64 (match findB l y with | some i => ((i : Nat) : Int) | none => -1)) [] := by
  have hml : (l.map eB).length = l.length := by simp
  refine told_of_ev (fn := ref17_Find_fn) tabOk mixed (by kernel_rfl) (by kernel_rfl) (by kernel_rfl) (by kernel_rfl) ?_
  (refine gw ?_; refine LoopN.mk ⟨[0,1,5], fun vs L => ∃ i : Nat, vs = [lK l, i64 y, i64 i] ∧ L = [] ∧ i ≤ l.length ∧ ∀ j (h : j < l.length), j < i → l[j].a ≠ y, fun vs L => match vs with | [_, _, .int _ i] => l.length - i.toNat | _ => 0, [], [], rfl, ⟨0, rfl, rfl, by omega, fun j _ h => by omega⟩, ?_⟩)
  rintro vs L ⟨i, rfl, rfl, hi, hn⟩
  (refine gw ?_; first | refine IfB.dec (fun h1 => ?_) (fun h1 => ?_) | refine IfB.eq (fun h1 => ?_) (fun h1 => ?_) | refine IfB.ne (fun h1 => ?_) (fun h1 => ?_) | refine IfB.mk (fun h1 => ?_) (fun h1 => ?_))
  · have hlt : i < l.length := by omega
    (refine gw ?_; refine idx_map (hlt) ?_)
    (refine gw ?_; first | refine IfB.dec (fun h2 => ?_) (fun h2 => ?_) | refine IfB.eq (fun h2 => ?_) (fun h2 => ?_) | refine IfB.ne (fun h2 => ?_) (fun h2 => ?_) | refine IfB.mk (fun h2 => ?_) (fun h2 => ?_))
    · rw [findB_some hlt hn h2]
      (refine gw ?_; exact RetN.mk ⟨[], rfl, rfl, rfl⟩)
    · (refine gw ?_; refine ⟨[], [], rfl, ⟨i + 1, rfl, rfl, hlt, fun j h hj => ?_⟩, (by omega : l.length - ((i : Int) + 1).toNat < l.length - (i : Int).toNat)⟩)
      rcases Nat.lt_or_ge j i with h' | h'
      · exact hn j h h'
      · have : j = i := by omega
        subst this; exact h2
  · rw [findB_none fun j hj => hn j hj (by omega)]
    (refine gw ?_; exact RetN.mk ⟨[], rfl, rfl, rfl⟩)
theorem allB_succ {p : Bk → Bool} {l : List Bk} {i : Nat} (h : i < l.length) : (l.take (i + 1)).all p = ((l.take i).all p && p l[i]) := by
  rw [List.take_succ_eq_append_getElem h, List.all_append]; simp
set_option maxHeartbeats 1000000 in
theorem lowest17_told {c : Cf} (hc : c.Ok) {l : List Bk} (ha : ApB c.H l) {n : Nat} (hn : 1 ≤ n) (hn2 : n ≤ 65536) : Told P T ref17_Lowest [] [eC c, lK l, i64 n] (.tup [i64 ((lowF c l n).1 : Nat), .bool (lowF c l n).2]) [] := by
  have hml : (l.map eB).length = l.length := by simp
  have hH := hc.h2
  have hd := Nat.div_mul_le_self c.H n
  have hdl := Nat.div_add_mod c.H n
  have hdm := Nat.mod_lt c.H hn
  have hlen : l.length ≤ 65536 := by
    have h1 := totalB_nonneg ha
    rcases Nat.lt_or_ge 65536 l.length with h | h
    · exfalso
      -- the last one begins no lower than its number
      have key : ∀ i (h : i < l.length), (i : Int) ≤ l[i].a := by
        intro i
        induction i with
        | zero => intro h; have := ha.b _ (List.getElem_mem h); omega
        | succ i ih =>
          intro h
          have h1 := ih (by omega)
          have h2 := List.pairwise_iff_getElem.1 ha.p i (i + 1) (by omega) h (by omega)
          have h3 := ha.b _ (List.getElem_mem (show i < l.length by omega))
          omega
      have h2 := key 65536 h
      have h3 := ha.b _ (List.getElem_mem h)
      omega
    · exact h
  obtain ⟨R, hR⟩ : ∃ R, lowF c l n = R := ⟨_, rfl⟩
  obtain ⟨D, hD⟩ : ∃ D, c.H / n = D := ⟨_, rfl⟩
  rw [hD] at hd hdl
  rw [hR]
  refine told_of_ev (fn := ref17_Lowest_fn) tabOk mixed (by kernel_rfl) (by kernel_rfl) (by kernel_rfl) (by kernel_rfl) ?_
  (refine gw ?_; refine LoopN.mk ⟨[1,2,3,8], fun vs L => ∃ k : Nat, vs = [lK l, i64 n, .ptr 0 0 0, i64 (k * n : Nat)] ∧ L = [.var (eC c)] ∧ k ≤ D ∧ R = lowGo l n (D - k) k, fun vs L => match vs with | [_, _, _, .int _ i] => c.H + n - i.toNat | _ => 0, [], [0], rfl, ⟨0, by rw [Nat.zero_mul]; rfl, rfl, by omega, by rw [← hR, ← hD]; rfl⟩, ?_⟩)
  rintro vs L ⟨k, rfl, rfl, hk, he⟩
  have hkn : k * n ≤ D * n := Nat.mul_le_mul_right _ hk
  have hsn : (k + 1) * n = k * n + n := by rw [Nat.succ_mul]
  have hlt : k * n + n ≤ c.H → k < D := fun h => by
    rcases Nat.lt_or_ge k D with h' | h'
    · exact h'
    · have : D * n ≤ k * n := Nat.mul_le_mul_right _ h'
      rw [Nat.mul_comm n D] at hdl
      omega
  have hge : k < D → k * n + n ≤ c.H := fun h => by
    have : (k + 1) * n ≤ D * n := Nat.mul_le_mul_right _ h
    omega
  obtain ⟨y, hy⟩ : ∃ y, k * n = y := ⟨_, rfl⟩
  rw [hy] at hkn hsn hlt hge ⊢
  (refine gw ?_; first | refine IfB.dec (fun h1 => ?_) (fun h1 => ?_) | refine IfB.eq (fun h1 => ?_) (fun h1 => ?_) | refine IfB.ne (fun h1 => ?_) (fun h1 => ?_) | refine IfB.mk (fun h1 => ?_) (fun h1 => ?_))
  · have hkD := hlt (by omega)
    have e1 : D - k = (D - (k + 1)) + 1 := by omega
    rw [e1, lowGo, hy] at he
    (refine gw ?_; refine LoopN.mk ⟨[1,2,3,8,9,10], fun vs L => ∃ j : Nat, vs = [lK l, i64 n, .ptr 0 0 0, i64 y, .bool ((l.take j).all fun b => !ovr y n b.a b.c), i64 j] ∧ L = [.var (eC c)] ∧ j ≤ l.length, fun vs L => match vs with | [_, _, _, _, _, .int _ i] => l.length - i.toNat | _ => 0, [], [0], rfl, ⟨0, rfl, rfl, by omega⟩, ?_⟩)
    rintro vs L ⟨j, rfl, rfl, hj⟩
    have fin : ∀ v, freeAt l n (y : Nat) = v → True := fun _ _ => trivial
    (refine gw ?_; first | refine IfB.dec (fun g1 => ?_) (fun g1 => ?_) | refine IfB.eq (fun g1 => ?_) (fun g1 => ?_) | refine IfB.ne (fun g1 => ?_) (fun g1 => ?_) | refine IfB.mk (fun g1 => ?_) (fun g1 => ?_))
    · have hjl : j < l.length := by omega
      have hs := allB_succ (p := fun b => !ovr y n b.a b.c) hjl
      cases g2 : (l.take j).all (fun b => !ovr y n b.a b.c) with
      | true =>
        rw [g2, Bool.true_and] at hs
        have hb := ha.b _ (List.getElem_mem hjl)
        (refine gw ?_; refine idx_map (hjl) ?_)
        (refine gw ?_; refine idx_map (hjl) ?_)
        (refine gw ?_; refine Choice.mk ⟨false, Choice.mk ⟨true, _, _, ovr_told y n l[j].a l[j].c (by omega), ?_⟩⟩)
        (refine gw ?_; refine ⟨[], [0], rfl, ⟨j + 1, by rw [hs]; rfl, rfl, hjl⟩, (by omega : l.length - ((j : Int) + 1).toNat < l.length - (j : Int).toNat)⟩)
      | false =>
        have hf : freeAt l n (y : Nat) = false := by
          unfold freeAt
          have : l.all (fun b => !ovr y n b.a b.c) = ((l.take j).all (fun b => !ovr y n b.a b.c) && (l.drop j).all (fun b => !ovr y n b.a b.c)) := by
            rw [← List.all_append, List.take_append_drop]
          rw [this, g2]; rfl
        rw [hf, if_neg (by simp)] at he
        (refine gw ?_; refine ⟨[], [0], rfl, ⟨k + 1, by rw [hsn]; rfl, rfl, hkD, he⟩, (by omega : c.H + n - ((y : Int) + (n : Int)).toNat < c.H + n - (y : Int).toNat)⟩)
    · have e : j = l.length := by omega
      subst e
      rw [List.take_length]
      cases g2 : freeAt l n (y : Nat) with
      | true =>
        rw [g2, if_pos rfl] at he
        rw [show (l.all fun b => !ovr y n b.a b.c) = true from g2, he]
        (refine gw ?_; exact RetN.mk ⟨[], rfl, rfl, rfl⟩)
      | false =>
        rw [g2, if_neg (by simp)] at he
        rw [show (l.all fun b => !ovr y n b.a b.c) = false from g2]
        (refine gw ?_; refine ⟨[], [0], rfl, ⟨k + 1, by rw [hsn]; rfl, rfl, hkD, he⟩, (by omega : c.H + n - ((y : Int) + (n : Int)).toNat < c.H + n - (y : Int).toNat)⟩)
  · have hkD : k = D := by
      rcases Nat.lt_or_ge k D with h' | h'
      · have := hge h'; omega
      · omega
    rw [hkD, Nat.sub_self, lowGo] at he
    rw [he]
    (refine gw ?_; exact RetN.mk ⟨[], rfl, rfl, rfl⟩)
end Go.Ev.W
namespace Go.Ev.W
open Go.Ev Go.Ev.N

/-- What stands in the new row behind i. -/
def outB (l : List Bk) (b : Bk) (i : Nat) : List Bk := if i ≤ lowB b.a l then l.take i else l.take (lowB b.a l) ++ b :: (l.take i).drop (lowB b.a l)
theorem outB_lo {l : List Bk} {b : Bk} {i : Nat} (h : i < lowB b.a l) (hl : i < l.length) : outB l b (i + 1) = outB l b i ++ [l[i]] := by
  unfold outB; rw [if_pos (by omega), if_pos (by omega), List.take_succ_eq_append_getElem hl]
theorem outB_at {l : List Bk} {b : Bk} {i : Nat} (h : i = lowB b.a l) (hl : i < l.length) : outB l b (i + 1) = outB l b i ++ [b] ++ [l[i]] := by
  subst h
  unfold outB; rw [if_neg (by omega), if_pos (Nat.le_refl _), List.take_succ_eq_append_getElem hl]
  have : (l.take (lowB b.a l)).length = lowB b.a l := by rw [List.length_take]; omega
  rw [List.drop_append_of_le_length (by omega), List.drop_eq_nil_of_le (by omega)]
  simp
theorem outB_hi {l : List Bk} {b : Bk} {i : Nat} (h : lowB b.a l < i) (hl : i < l.length) : outB l b (i + 1) = outB l b i ++ [l[i]] := by
  unfold outB; rw [if_neg (by omega), if_neg (by omega), List.take_succ_eq_append_getElem hl, List.drop_append_of_le_length (by rw [List.length_take]; omega)]
  simp
theorem outB_len {l : List Bk} {b : Bk} {i : Nat} : (outB l b i).length ≤ i + 1 := by
  unfold outB; split <;> simp <;> omega
set_option maxHeartbeats 1000000 in
theorem put17_told (l : List Bk) (hl : l.length ≤ 1000000) (b : Bk) : Told P T ref17_put [] [lK l, eB b] (.ref 0) [.row t_api_Block ((putB l b).map eB)] := by
  have hml : (l.map eB).length = l.length := by simp
  have hle := lowB_le b.a l
  refine told_of_ev (fn := ref17_put_fn) tabOk mixed (by kernel_rfl) (by kernel_rfl) (by kernel_rfl) (by kernel_rfl) ?_
  (refine gw ?_; refine LoopN.mk ⟨[0,3,5,6,7], fun vs L => ∃ i : Nat, vs = [lK l, .ptr 0 0 0, .ref 1, .bool (decide (lowB b.a l < i)), i64 i] ∧ L = [.var (eB b), .row t_api_Block ((outB l b i).map eB)] ∧ i ≤ l.length, fun vs L => match vs with | [_, _, _, _, .int _ i] => l.length - i.toNat | _ => 0, [], [0, 2], rfl, ⟨0, by rw [decide_eq_false (by omega)]; rfl, by rw [show outB l b 0 = [] by simp [outB]]; rfl, by omega⟩, ?_⟩)
  rintro vs L ⟨i, rfl, rfl, hi⟩
  have hol := outB_len (l := l) (b := b) (i := i)
  have hmo : ((outB l b i).map eB).length = (outB l b i).length := by simp
  (refine gw ?_; first | refine IfB.dec (fun h1 => ?_) (fun h1 => ?_) | refine IfB.eq (fun h1 => ?_) (fun h1 => ?_) | refine IfB.ne (fun h1 => ?_) (fun h1 => ?_) | refine IfB.mk (fun h1 => ?_) (fun h1 => ?_))
  · have hlt : i < l.length := by omega
    rcases Nat.lt_trichotomy (lowB b.a l) i with h | h | h
    · rw [decide_eq_true h]
      refine gw ?_
      (refine gw ?_; refine idx_map (hlt) ?_)
      (refine gw ?_; refine Room.mk (by first | omega | (simp; omega) | (simp <;> fail)) ?_)
      (refine gw ?_; refine ⟨[], [0, 3], rfl, ⟨i + 1, by rw [decide_eq_true (show lowB b.a l < i + 1 by omega)]; rfl, show [Blk.var _, Blk.row _ _] = [Blk.var _, Blk.row _ _] by rw [outB_hi h hlt, List.map_append]; rfl, hlt⟩, (by omega : l.length - ((i : Int) + 1).toNat < l.length - (i : Int).toNat)⟩)
    · rw [decide_eq_false (show ¬ lowB b.a l < i by omega)]
      have hg := lowB_ge (y := b.a) (l := l) (by omega)
      have hg : b.a < l[i].a := by subst h; exact hg
      (refine gw ?_; refine idx_map (hlt) ?_)
      (refine gw ?_; first | refine IfB.dec (fun h2 => ?_) (fun h2 => ?_) | refine IfB.eq (fun h2 => ?_) (fun h2 => ?_) | refine IfB.ne (fun h2 => ?_) (fun h2 => ?_) | refine IfB.mk (fun h2 => ?_) (fun h2 => ?_))
      · (refine gw ?_; refine Room.mk (by first | omega | (simp; omega) | (simp <;> fail)) ?_)
        (refine gw ?_; refine idx_map (hlt) ?_)
        (refine gw ?_; refine Room.mk (by first | omega | (simp; omega) | (simp <;> fail)) ?_)
        (refine gw ?_; refine ⟨[], [0, 5], rfl, ⟨i + 1, by rw [decide_eq_true (show lowB b.a l < i + 1 by omega)]; rfl, show [Blk.var _, Blk.row _ _] = [Blk.var _, Blk.row _ _] by rw [outB_at h.symm hlt, List.map_append, List.map_append]; rfl, hlt⟩, (by omega : l.length - ((i : Int) + 1).toNat < l.length - (i : Int).toNat)⟩)
      · omega
    · rw [decide_eq_false (show ¬ lowB b.a l < i by omega)]
      have hg := lowB_lt (y := b.a) hlt h
      (refine gw ?_; refine idx_map (hlt) ?_)
      (refine gw ?_; first | refine IfB.dec (fun h2 => ?_) (fun h2 => ?_) | refine IfB.eq (fun h2 => ?_) (fun h2 => ?_) | refine IfB.ne (fun h2 => ?_) (fun h2 => ?_) | refine IfB.mk (fun h2 => ?_) (fun h2 => ?_))
      · omega
      · (refine gw ?_; refine idx_map (hlt) ?_)
        (refine gw ?_; refine Room.mk (by first | omega | (simp; omega) | (simp <;> fail)) ?_)
        (refine gw ?_; refine ⟨[], [0, 3], rfl, ⟨i + 1, by rw [decide_eq_false (show ¬ lowB b.a l < i + 1 by omega)]; rfl, show [Blk.var _, Blk.row _ _] = [Blk.var _, Blk.row _ _] by rw [outB_lo h hlt, List.map_append]; rfl, hlt⟩, (by omega : l.length - ((i : Int) + 1).toNat < l.length - (i : Int).toNat)⟩)
  · have e : i = l.length := by omega
    subst e
    rcases Nat.lt_or_ge (lowB b.a l) l.length with h | h
    · rw [decide_eq_true h]
      refine gw ?_
      ((try (conv => whnf)); refine RetN.mk ⟨[1], rfl, rfl, ?_⟩)
      have e : outB l b l.length = putB l b := by unfold outB putB; rw [if_neg (by omega), List.take_length]
      show [Blk.row t_api_Block ((outB l b l.length).map eB)] = _
      rw [e]
    · rw [decide_eq_false (show ¬ lowB b.a l < l.length by omega)]
      (refine gw ?_; refine Room.mk (by first | omega | (simp; omega) | (simp <;> fail)) ?_)
      (refine gw ?_)
      refine RetN.mk ⟨[3], rfl, rfl, ?_⟩
      have e : outB l b l.length ++ [b] = putB l b := by
        have e2 : lowB b.a l = l.length := by omega
        unfold outB putB; rw [if_pos (by omega), e2, List.take_length, List.drop_length]
      show [Blk.row t_api_Block ((outB l b l.length).map eB ++ [eB b])] = _
      rw [← e, List.map_append]; rfl

theorem refAdd_gen (a b : Nat) (h : a + b ≤ 2000000) : Told P T ref1_Add [] [i64 a, i64 b] (.tup [i64 (a + b : Nat), .bool true]) [] := by
  refine told_of_ev (fn := ref1_Add_fn) tabOk mixed (by kernel_rfl) (by kernel_rfl) (by kernel_rfl) (by kernel_rfl) ?_
  repeat' ((conv => whnf); first | (refine Sure.mk (by kernel_rfl) ?_) | (refine IfB.tt rfl ?_) | (refine IfB.ff rfl ?_) | (refine IfB.tt ?_ ?_; (focus (simp <;> fail))) | (refine IfB.ff ?_ ?_; (focus (simp <;> fail))) | (refine fits (wrap64 ?_ ?_) ?_; (focus omega); (focus omega)) | (refine fits (wrapU64 ?_ ?_) ?_; (focus omega); (focus omega)) | (refine Need.mk ?_ ?_; (focus omega)) | (refine InB.mk ?_ ?_ ?_; (focus omega); (focus omega)) | (refine IfB.dec (fun h => ?_) (fun h => ?_)) | (refine IfB.eq (fun h => ?_) (fun h => ?_)) | (refine IfB.ne (fun h => ?_) (fun h => ?_)))
  all_goals first | omega | (refine gw ?_; exact RetN.mk ⟨[], rfl, rfl, rfl⟩)
theorem pages_told {pg y n : Nat} (hp : 1 ≤ pg) (hn : 1 ≤ n) (hy : y + n ≤ 1000000) : Told P T ref8_Pages [] [i64 pg, i64 y, i64 n] (.tup [i64 (y / pg : Nat), i64 ((y + n - 1) / pg + 1 : Nat)]) [] := by
  have e1 : ((y : Nat) : Int).tdiv (pg : Nat) = ((y / pg : Nat) : Int) := by rw [Int.tdiv_eq_ediv_of_nonneg (by omega)]; omega
  have e0 : ((y : Nat) : Int) + (((n : Nat) : Int) - 1) = ((y + n - 1 : Nat) : Int) := by omega
  have e2 : (((y + n - 1 : Nat)) : Int).tdiv (pg : Nat) = (((y + n - 1) / pg : Nat) : Int) := by rw [Int.tdiv_eq_ediv_of_nonneg (by omega)]; omega
  have d1 := Nat.div_le_self y pg
  have d2 := Nat.div_le_self (y + n - 1) pg
  have ca := refAdd_gen y (n - 1) (by omega)
  rw [show y + (n - 1) = y + n - 1 by omega, show ((n - 1 : Nat) : Int) = (n : Int) - 1 by omega] at ca
  have d3 : (0 : Int) ≤ ((y / pg : Nat) : Int) := Int.natCast_nonneg _
  have d4 : (0 : Int) ≤ (((y + n - 1) / pg : Nat) : Int) := Int.natCast_nonneg _
  refine told_of_ev (fn := ref8_Pages_fn) tabOk mixed (by kernel_rfl) (by kernel_rfl) (by kernel_rfl) (by kernel_rfl) ?_
  (refine gw ?_; first | refine IfB.dec (fun h1 => ?_) (fun h1 => ?_) | refine IfB.eq (fun h1 => ?_) (fun h1 => ?_) | refine IfB.ne (fun h1 => ?_) (fun h1 => ?_) | refine IfB.mk (fun h1 => ?_) (fun h1 => ?_))
  · omega
  · (refine gw ?_; first | refine IfB.dec (fun h2 => ?_) (fun h2 => ?_) | refine IfB.eq (fun h2 => ?_) (fun h2 => ?_) | refine IfB.ne (fun h2 => ?_) (fun h2 => ?_) | refine IfB.mk (fun h2 => ?_) (fun h2 => ?_))
    · omega
    · (refine gw ?_; refine Choice.mk ⟨false, Choice.mk ⟨true, _, _, ca, ?_⟩⟩)
      (refine gw ?_)
      rw [e1, e2]
      (refine gw ?_; exact RetN.mk ⟨[], rfl, rfl, rfl⟩)
end Go.Ev.W
namespace Go.Ev.W
open Go.Ev Go.Ev.N

def anyK (l : List Bk) (pg i k : Nat) : Bool := (l.take k).any fun b => ovr (i * pg : Nat) pg b.a b.c
theorem anyK_succ {l : List Bk} {pg i k : Nat} (h : k < l.length) : anyK l pg i (k + 1) = (anyK l pg i k || ovr (i * pg : Nat) pg l[k].a l[k].c) := by
  unfold anyK; rw [List.take_succ_eq_append_getElem h, List.any_append]; simp
set_option maxHeartbeats 1000000 in
theorem met8_told {pg size : Nat} (hp : 1 ≤ pg) (hs : size ≤ 65536) {l : List Bk} (hl : l.length ≤ 1000000) (hb : ∀ x ∈ l, 0 ≤ x.a ∧ 1 ≤ x.c ∧ x.a + x.c ≤ size) : Told P T ref8_Met [] [i64 pg, i64 size, lK l] (lT (metF pg size l)) [] := by
  have hml : (l.map eB).length = l.length := by simp
  have e1 : ((size : Nat) : Int).tdiv (pg : Nat) = ((size / pg : Nat) : Int) := by rw [Int.tdiv_eq_ediv_of_nonneg (by omega)]; omega
  have d1 := Nat.div_le_self size pg
  have d2 : (0 : Int) ≤ ((size / pg : Nat) : Int) := Int.natCast_nonneg _
  have hmul := Nat.div_mul_le_self size pg
  obtain ⟨D, hD⟩ : ∃ D, size / pg = D := ⟨_, rfl⟩
  have hfin : metF pg size l = (List.range D).map fun i => anyK l pg i l.length := by
    unfold metF anyK; rw [hD]; simp only [List.take_length]
  rw [hfin]
  rw [hD] at e1 d1 d2 hmul
  have hlen : ∀ f : Nat → AV, (tabF D f).length = D := tabF_len D
  refine told_of_ev (fn := ref8_Met_fn) tabOk mixed (by kernel_rfl) (by kernel_rfl) (by kernel_rfl) (by kernel_rfl) ?_
  (refine gw ?_; first | refine IfB.dec (fun h1 => ?_) (fun h1 => ?_) | refine IfB.eq (fun h1 => ?_) (fun h1 => ?_) | refine IfB.ne (fun h1 => ?_) (fun h1 => ?_) | refine IfB.mk (fun h1 => ?_) (fun h1 => ?_))
  · omega
  · (refine gw ?_; first | refine IfB.dec (fun h2 => ?_) (fun h2 => ?_) | refine IfB.eq (fun h2 => ?_) (fun h2 => ?_) | refine IfB.ne (fun h2 => ?_) (fun h2 => ?_) | refine IfB.mk (fun h2 => ?_) (fun h2 => ?_))
    · omega
    · (refine gw ?_)
      rw [e1]
      (refine gw ?_; refine Room.mk (by first | omega | (simp; omega) | (simp <;> fail)) ?_)
      (refine gw ?_; refine LoopN.mk ⟨[0,2,7,8], fun vs L => ∃ i : Nat, vs = [i64 pg, lK l, .ref 0, i64 i] ∧ L = [.row t_bool (tabF D fun j => .bool (decide (j < i) && anyK l pg j l.length))] ∧ i ≤ D, fun vs L => match vs with | [_, _, _, .int _ i] => D - i.toNat | _ => 0, [], [1], rfl, ⟨0, rfl, ?_, by omega⟩, ?_⟩)
      · show [Blk.row t_bool (List.replicate D (AV.bool false))] = _
        rw [tabF_rep]
        refine congrArg (fun z => [Blk.row t_bool z]) (tabF_congr fun k _ => ?_)
        rw [decide_eq_false (show ¬ k < 0 by omega)]; rfl
      rintro vs L ⟨i, rfl, rfl, hi⟩
      have hl1 := hlen fun j => .bool (decide (j < i) && anyK l pg j l.length)
      (refine gw ?_; first | refine IfB.dec (fun g1 => ?_) (fun g1 => ?_) | refine IfB.eq (fun g1 => ?_) (fun g1 => ?_) | refine IfB.ne (fun g1 => ?_) (fun g1 => ?_) | refine IfB.mk (fun g1 => ?_) (fun g1 => ?_))
      · have hiD : i < D := by omega
        have hip : i * pg + pg ≤ D * pg := by rw [← Nat.succ_mul]; exact Nat.mul_le_mul_right _ hiD
        have eip : ((i : Nat) : Int) * ((pg : Nat) : Int) = ((i * pg : Nat) : Int) := by rw [Int.natCast_mul]
        (refine gw ?_; refine LoopN.mk ⟨[0,2,7,8,9], fun vs L => ∃ k : Nat, vs = [i64 pg, lK l, .ref 0, i64 i, i64 k] ∧ L = [.row t_bool (tabF D fun j => .bool (if j = i then anyK l pg i k else decide (j < i) && anyK l pg j l.length))] ∧ k ≤ l.length, fun vs L => match vs with | [_, _, _, _, .int _ i] => l.length - i.toNat | _ => 0, [], [0], rfl, ⟨0, rfl, ?_, by omega⟩, ?_⟩)
        · refine congrArg (fun z => [Blk.row t_bool z]) (tabF_congr fun j _ => ?_)
          by_cases e : j = i
          · subst e; rw [decide_eq_false (show ¬ j < j by omega), if_pos rfl]; simp [anyK]
          · rw [if_neg e]
        rintro vs L ⟨k, rfl, rfl, hk⟩
        have hl2 := hlen fun j => .bool (if j = i then anyK l pg i k else decide (j < i) && anyK l pg j l.length)
        have hget : (tabF D fun j => AV.bool (if j = i then anyK l pg i k else decide (j < i) && anyK l pg j l.length))[((i : Nat) : Int).toNat]? = some (.bool (anyK l pg i k)) := by
          rw [Int.toNat_natCast, tabF_get hiD, if_pos rfl]
        have hset : ∀ v : Bool, v = anyK l pg i (k + 1) → (tabF D fun j => AV.bool (if j = i then anyK l pg i k else decide (j < i) && anyK l pg j l.length)).set ((i : Nat) : Int).toNat (.bool v) = tabF D fun j => .bool (if j = i then anyK l pg i (k + 1) else decide (j < i) && anyK l pg j l.length) := fun v hv => by
          rw [Int.toNat_natCast]
          refine tabF_set hiD fun j hj => ?_
          by_cases e : j = i
          · rw [if_pos e, if_pos e, hv]
          · rw [if_neg e, if_neg e, if_neg e]
        (refine gw ?_; first | refine IfB.dec (fun g2 => ?_) (fun g2 => ?_) | refine IfB.eq (fun g2 => ?_) (fun g2 => ?_) | refine IfB.ne (fun g2 => ?_) (fun g2 => ?_) | refine IfB.mk (fun g2 => ?_) (fun g2 => ?_))
        · have hkl : k < l.length := by omega
          have hx := hb _ (List.getElem_mem hkl)
          have hsu := anyK_succ (pg := pg) (i := i) hkl
          refine gw ?_
          refine At.mk ⟨.bool (anyK l pg i k), hget, ?_⟩
          cases g3 : anyK l pg i k with
          | true =>
            rw [g3, Bool.true_or] at hsu
            rw [g3] at hset
            (refine gw ?_; refine InB.mk (by omega) (by rw [tabF_len]; omega) ?_)
            (refine gw ?_; refine ⟨[], [0], rfl, ⟨k + 1, rfl, by rw [← hset true hsu.symm]; rfl, hkl⟩, (by omega : l.length - ((k : Int) + 1).toNat < l.length - (k : Int).toNat)⟩)
          | false =>
            rw [g3, Bool.false_or] at hsu
            rw [g3] at hset
            (refine gw ?_)
            rw [eip]
            (refine gw ?_; refine idx_map (hkl) ?_)
            (refine gw ?_; refine idx_map (hkl) ?_)
            (refine gw ?_; refine Choice.mk ⟨false, Choice.mk ⟨true, _, _, ovr_told (i * pg : Nat) pg l[k].a l[k].c (by omega), ?_⟩⟩)
            (refine gw ?_; refine InB.mk (by omega) (by rw [tabF_len]; omega) ?_)
            (refine gw ?_; refine ⟨[], [0], rfl, ⟨k + 1, rfl, by rw [← hset _ hsu.symm]; rfl, hkl⟩, (by omega : l.length - ((k : Int) + 1).toNat < l.length - (k : Int).toNat)⟩)
        · have e : k = l.length := by omega
          subst e
          (refine gw ?_; refine ⟨[], [0], rfl, ⟨i + 1, rfl, ?_, hiD⟩, (by omega : D - ((i : Int) + 1).toNat < D - (i : Int).toNat)⟩)
          refine congrArg (fun z => [Blk.row t_bool z]) (tabF_congr fun j _ => ?_)
          by_cases e : j = i
          · subst e; rw [if_pos rfl, decide_eq_true (show j < j + 1 by omega)]; rfl
          · rw [if_neg e]
            have : decide (j < i) = decide (j < i + 1) := decide_eq_decide.2 (by omega)
            rw [this]
      · have e : i = D := by omega
        subst e
        (refine gw ?_; refine RetN.fz ⟨[true], [], rfl, ?_, rfl⟩)
        show AV.lst t_bool (tabF i fun j => AV.bool (decide (j < i) && anyK l pg j l.length)) = AV.lst t_bool (((List.range i).map fun j => anyK l pg j l.length).map AV.bool)
        rw [← tabF_of]
        congr 1
        exact tabF_congr fun j hj => by rw [decide_eq_true hj]; rfl
theorem cntB_succ {l : List Bool} {i : Nat} (h : i < l.length) : cntB (l.take (i + 1)) = cntB (l.take i) + if l[i] = true then 1 else 0 := by
  unfold cntB; rw [List.take_succ_eq_append_getElem h, List.filter_append]
  cases l[i] <;> simp
theorem cntB_le (l : List Bool) : cntB l ≤ l.length := List.length_filter_le _ _
theorem count8_told (l : List Bool) (hl : l.length ≤ 1000000) : Told P T ref8_Count [] [lT l] (i64 (cntB l : Nat)) [] := by
  have hml : (l.map AV.bool).length = l.length := by simp
  refine told_of_ev (fn := ref8_Count_fn) tabOk mixed (by kernel_rfl) (by kernel_rfl) (by kernel_rfl) (by kernel_rfl) ?_
  (refine gw ?_; refine LoopN.mk ⟨[0,3,4], fun vs L => ∃ i : Nat, vs = [lT l, i64 (cntB (l.take i) : Nat), i64 i] ∧ L = [] ∧ i ≤ l.length, fun vs L => match vs with | [_, _, .int _ i] => l.length - i.toNat | _ => 0, [], [], rfl, ⟨0, rfl, rfl, by omega⟩, ?_⟩)
  rintro vs L ⟨i, rfl, rfl, hi⟩
  (refine gw ?_; first | refine IfB.dec (fun h1 => ?_) (fun h1 => ?_) | refine IfB.eq (fun h1 => ?_) (fun h1 => ?_) | refine IfB.ne (fun h1 => ?_) (fun h1 => ?_) | refine IfB.mk (fun h1 => ?_) (fun h1 => ?_))
  · have hlt : i < l.length := by omega
    have hs := cntB_succ hlt
    have hle := cntB_le (l.take i)
    rw [List.length_take] at hle
    (refine gw ?_; refine idx_map (hlt) ?_)
    cases h2 : l[i] with
    | true =>
      rw [h2, if_pos rfl] at hs
      (refine gw ?_; refine ⟨[], [], rfl, ⟨i + 1, by rw [hs]; rfl, rfl, hlt⟩, (by omega : l.length - ((i : Int) + 1).toNat < l.length - (i : Int).toNat)⟩)
    | false =>
      rw [h2, if_neg (by simp), Nat.add_zero] at hs
      (refine gw ?_; refine ⟨[], [], rfl, ⟨i + 1, by rw [hs]; rfl, rfl, hlt⟩, (by omega : l.length - ((i : Int) + 1).toNat < l.length - (i : Int).toNat)⟩)
  · have e : i = l.length := by omega
    subst e
    rw [List.take_length]
    (refine gw ?_; exact RetN.mk ⟨[], rfl, rfl, rfl⟩)
end Go.Ev.W
namespace Go.Ev.W
open Go.Ev Go.Ev.N

theorem lT_get {l : List Bool} {i : Nat} (h : i < l.length) : l.getD i false = l[i] := by simp [List.getD_eq_getElem?_getD, h]
def isIn (f b i : Nat) : Bool := decide (f ≤ i ∧ i < b)
def needF (met : List Bool) (f b i : Nat) : Bool := met.getD i false || isIn f b i
def freshL (on : List Bool) (f b i : Nat) : List Nat := (List.range i).filter fun j => isIn f b j && !on.getD j false
theorem freshL_succ (on : List Bool) (f b i : Nat) : freshL on f b (i + 1) = freshL on f b i ++ if (isIn f b i && !on.getD i false) = true then [i] else [] := by
  unfold freshL; rw [List.range_succ, List.filter_append]; simp [List.filter_cons]
theorem freshL_len (on : List Bool) (f b i : Nat) : (freshL on f b i).length ≤ i := by
  unfold freshL
  have := List.length_filter_le (fun j => isIn f b j && !on.getD j false) (List.range i)
  simpa using this
theorem commitF_eq (on met : List Bool) (f b most : Nat) : commitF on met f b most =
    if cntB ((List.range on.length).map (needF met f b)) > most then ([], [], false)
    else (if cntB ((List.range on.length).map (needF on f b)) > most then (List.range on.length).map fun i => needF on f b i && needF met f b i else (List.range on.length).map (needF on f b), freshL on f b on.length, true) := by
  unfold commitF
  simp only
  have e1 : ((List.range on.length).map fun i => met.getD i false || decide (f ≤ i ∧ i < b)) = (List.range on.length).map (needF met f b) := rfl
  have e2 : ((List.range on.length).map fun i => on.getD i false || decide (f ≤ i ∧ i < b)) = (List.range on.length).map (needF on f b) := rfl
  rw [e1, e2]
  have e3 : ((List.range on.length).map fun i => ((List.range on.length).map (needF on f b)).getD i false && ((List.range on.length).map (needF met f b)).getD i false) = (List.range on.length).map fun i => needF on f b i && needF met f b i := by
    refine List.map_congr_left fun i hi => ?_
    have hi : i < on.length := by simpa using hi
    simp [List.getD_eq_getElem?_getD, hi]
  rw [e3]
  rfl
set_option maxHeartbeats 4000000 in
theorem commit8_told {on met : List Bool} (hN : met.length = on.length) (hl : on.length ≤ 65536) {f b most : Nat} (hf : f ≤ b) (hb : b ≤ on.length) (hm : most ≤ 65536) : Told P T ref8_Commit [] [lT on, lT met, i64 f, i64 b, i64 most] (.tup [lT (commitF on met f b most).1, .lst t_int ((commitF on met f b most).2.1.map fun n => i64 (n : Nat)), .bool (commitF on met f b most).2.2]) [] := by
  have hmo : (on.map AV.bool).length = on.length := by simp
  have hmm : (met.map AV.bool).length = met.length := by simp
  have e3 := commitF_eq on met f b most
  obtain ⟨D, hD⟩ : ∃ D, on.length = D := ⟨_, rfl⟩
  rw [hD] at hN hl hb hmo e3
  refine told_of_ev (fn := ref8_Commit_fn) tabOk mixed (by kernel_rfl) (by kernel_rfl) (by kernel_rfl) (by kernel_rfl) ?_
  (refine gw ?_; refine IfB.ff (by rw [hmm, hmo, hN]; simp) ?_)
  (refine gw ?_; first | refine IfB.dec (fun h2 => ?_) (fun h2 => ?_) | refine IfB.eq (fun h2 => ?_) (fun h2 => ?_) | refine IfB.ne (fun h2 => ?_) (fun h2 => ?_) | refine IfB.mk (fun h2 => ?_) (fun h2 => ?_))
  · omega
  · (refine gw ?_; first | refine IfB.dec (fun h3 => ?_) (fun h3 => ?_) | refine IfB.eq (fun h3 => ?_) (fun h3 => ?_) | refine IfB.ne (fun h3 => ?_) (fun h3 => ?_) | refine IfB.mk (fun h3 => ?_) (fun h3 => ?_))
    · omega
    · (refine gw ?_; refine Room.mk (by rw [hmo]; omega) ?_)
      (refine gw ?_; refine Room.mk (by rw [hmo]; omega) ?_)
      (refine gw ?_; refine LoopN.mk ⟨[0,1,2,3,4,13,14,15,16], fun vs L => ∃ i : Nat, vs = [lT on, lT met, i64 f, i64 b, i64 most, .ref 0, .ref 1, .ref 2, i64 i] ∧ L = [.row t_bool (tabF D fun j => .bool (decide (j < i) && needF met f b j)), .row t_bool (tabF D fun j => .bool (decide (j < i) && needF on f b j)), .row t_int ((freshL on f b i).map fun n => i64 (n : Nat))] ∧ i ≤ D, fun vs L => match vs with | [_, _, _, _, _, _, _, _, .int _ i] => D - i.toNat | _ => 0, [], [2,3,4], rfl, ⟨0, rfl, ?_, by omega⟩, ?_⟩)
      · show [Blk.row t_bool (List.replicate (((on.map AV.bool).length : Nat) : Int).toNat (AV.bool false)), Blk.row t_bool (List.replicate (((on.map AV.bool).length : Nat) : Int).toNat (AV.bool false)), Blk.row t_int []] = _
        rw [Int.toNat_natCast, hmo, tabF_rep]
        have e0 : ∀ g : Nat → Bool, (tabF D fun _ => AV.bool false) = tabF D fun j => AV.bool (decide (j < 0) && g j) := fun g => tabF_congr fun k _ => by
          rw [decide_eq_false (show ¬ k < 0 by omega)]; rfl
        rw [← e0, ← e0]; rfl
      rintro vs L ⟨i, rfl, rfl, hi⟩
      have hfl := freshL_len on f b i
      have hset : ∀ (g : Nat → Bool) (v : Bool), i < D → v = g i → (tabF D fun j => AV.bool (decide (j < i) && g j)).set ((i : Nat) : Int).toNat (.bool v) = tabF D fun j => AV.bool (decide (j < i + 1) && g j) := fun g v hiD hv => by
        rw [Int.toNat_natCast]
        refine tabF_set hiD fun j hj => ?_
        by_cases e : j = i
        · subst e; rw [if_pos rfl, decide_eq_true (show j < j + 1 by omega), hv]; rfl
        · rw [if_neg e]
          have : decide (j < i + 1) = decide (j < i) := decide_eq_decide.2 (by omega)
          rw [this]
      (refine gw ?_; first | refine IfB.dec (fun g1 => ?_) (fun g1 => ?_) | refine IfB.eq (fun g1 => ?_) (fun g1 => ?_) | refine IfB.ne (fun g1 => ?_) (fun g1 => ?_) | refine IfB.mk (fun g1 => ?_) (fun g1 => ?_))
      · have hiD : i < D := by omega
        have hio : i < on.length := by omega
        have him : i < met.length := by omega
        have ho := lT_get hio
        have hme := lT_get him
        have hfs := freshL_succ on f b i
        have n1 : ∀ th, isIn f b i = th → needF met f b i = (met[i] || th) := fun th h => by unfold needF; rw [hme, h]
        have n2 : ∀ th, isIn f b i = th → needF on f b i = (on[i] || th) := fun th h => by unfold needF; rw [ho, h]
        rw [ho] at hfs
        have hth : isIn f b i = true ∨ isIn f b i = false := by cases isIn f b i <;> simp
        have hth1 : isIn f b i = true → f ≤ i ∧ i < b := fun h => of_decide_eq_true h
        have hth0 : isIn f b i = false → ¬ (f ≤ i ∧ i < b) := fun h => of_decide_eq_false h
        have stepB : ∀ (v w : Bool) (z z' : List AV), needF met f b i = v → needF on f b i = w → z = z' → [Blk.row t_bool ((tabF D fun j => AV.bool (decide (j < i) && needF met f b j)).set ((i : Nat) : Int).toNat (.bool v)), Blk.row t_bool ((tabF D fun j => AV.bool (decide (j < i) && needF on f b j)).set ((i : Nat) : Int).toNat (.bool w)), Blk.row t_int z] = [Blk.row t_bool (tabF D fun j => AV.bool (decide (j < i + 1) && needF met f b j)), Blk.row t_bool (tabF D fun j => AV.bool (decide (j < i + 1) && needF on f b j)), Blk.row t_int z'] := fun v w z z' hv hw hz => by
          rw [hset (needF met f b) v hiD hv.symm, hset (needF on f b) w hiD hw.symm, hz]
        have hfm : ((freshL on f b i).map fun n => i64 (n : Nat)).length = (freshL on f b i).length := by simp
        rcases hth with hth | hth
        · obtain ⟨q1, q2⟩ := hth1 hth
          rw [hth, Bool.true_and] at hfs
          (refine gw ?_; refine IfB.tt (by simp; omega) ?_)
          (refine gw ?_)
          rw [decide_eq_true (show ((i : Nat) : Int) < ((b : Nat) : Int) by omega)]
          have n1 := n1 true hth
          have n2 := n2 true hth
          rw [Bool.or_true] at n1 n2
          (refine gw ?_; refine idx_map (him) ?_)
          rcases hmv : met[i] with _ | _
          all_goals
            (refine gw ?_; refine idx_map (hio) ?_)
            rcases hov : on[i] with _ | _
          all_goals
            rw [hov] at hfs
            (refine gw ?_; refine InB.mk (by omega) (by rw [tabF_len]; omega) ?_)
            (refine gw ?_; refine InB.mk (by omega) (by rw [tabF_len]; omega) ?_)
            (refine gw ?_; refine idx_map (hio) ?_)
            rw [hov]
          case' inl.false.false | inl.true.false =>
            have hz : (freshL on f b i).map (fun n => i64 (n : Nat)) ++ [i64 (i : Nat)] = (freshL on f b (i + 1)).map fun n => i64 (n : Nat) := by rw [hfs]; simp
            (refine gw ?_; refine Room.mk (by first | omega | (simp; omega) | (simp <;> fail)) ?_)
            (refine gw ?_; refine ⟨[], [0,1,4], rfl, ⟨i + 1, rfl, stepB true true _ _ n1 n2 hz, hiD⟩, (by omega : D - ((i : Int) + 1).toNat < D - (i : Int).toNat)⟩)
          case' inl.false.true | inl.true.true =>
            have hz : (freshL on f b i).map (fun n => i64 (n : Nat)) = (freshL on f b (i + 1)).map fun n => i64 (n : Nat) := by rw [hfs]; simp
            (refine gw ?_; refine ⟨[], [0,1,2], rfl, ⟨i + 1, rfl, stepB true true _ _ n1 n2 hz, hiD⟩, (by omega : D - ((i : Int) + 1).toNat < D - (i : Int).toNat)⟩)
        · have hq := hth0 hth
          rw [hth, Bool.false_and] at hfs
          have hz : (freshL on f b i).map (fun n => i64 (n : Nat)) = (freshL on f b (i + 1)).map fun n => i64 (n : Nat) := by rw [hfs]; simp
          have n1 := n1 false hth
          have n2 := n2 false hth
          rw [Bool.or_false] at n1 n2
          (refine gw ?_; first | refine IfB.dec (fun q1 => ?_) (fun q1 => ?_) | refine IfB.eq (fun q1 => ?_) (fun q1 => ?_) | refine IfB.ne (fun q1 => ?_) (fun q1 => ?_) | refine IfB.mk (fun q1 => ?_) (fun q1 => ?_))
          all_goals
            (refine gw ?_)
            try rw [decide_eq_false (show ¬ ((i : Nat) : Int) < ((b : Nat) : Int) by omega)]
            (refine gw ?_; refine idx_map (him) ?_)
            rcases hmv : met[i] with _ | _
          all_goals
            (refine gw ?_; refine idx_map (hio) ?_)
            rcases hov : on[i] with _ | _
          all_goals
            rw [hmv] at n1
            rw [hov] at n2
            (refine gw ?_; refine InB.mk (by omega) (by rw [tabF_len]; omega) ?_)
            (refine gw ?_; refine InB.mk (by omega) (by rw [tabF_len]; omega) ?_)
            (refine gw ?_; refine ⟨[], [0,1,2], rfl, ⟨i + 1, rfl, stepB _ _ _ _ n1 n2 hz, hiD⟩, (by omega : D - ((i : Int) + 1).toNat < D - (i : Int).toNat)⟩)
      · have e : i = D := by omega
        subst e
        have f1 : ∀ g : Nat → Bool, (tabF i fun j => AV.bool (decide (j < i) && g j)) = ((List.range i).map g).map AV.bool := fun g => by
          rw [← tabF_of]; exact tabF_congr fun j hj => by rw [decide_eq_true hj]; rfl
        rw [f1, f1]
        have c1 := count8_told ((List.range i).map (needF met f b)) (by simp; omega)
        have c2 := count8_told ((List.range i).map (needF on f b)) (by simp; omega)
        (refine gw ?_; refine Choice.mk ⟨false, Choice.mk ⟨true, _, _, c1, ?_⟩⟩)
        (refine gw ?_; first | refine IfB.dec (fun g2 => ?_) (fun g2 => ?_) | refine IfB.eq (fun g2 => ?_) (fun g2 => ?_) | refine IfB.ne (fun g2 => ?_) (fun g2 => ?_) | refine IfB.mk (fun g2 => ?_) (fun g2 => ?_))
        · rw [e3, if_pos (by omega)]
          (refine gw ?_; exact RetN.fz ⟨[true, true, true], [], rfl, rfl, rfl⟩)
        · rw [if_neg (by omega)] at e3
          (refine gw ?_; refine Choice.mk ⟨false, Choice.mk ⟨true, _, _, c2, ?_⟩⟩)
          (refine gw ?_; first | refine IfB.dec (fun g3 => ?_) (fun g3 => ?_) | refine IfB.eq (fun g3 => ?_) (fun g3 => ?_) | refine IfB.ne (fun g3 => ?_) (fun g3 => ?_) | refine IfB.mk (fun g3 => ?_) (fun g3 => ?_))
          · rw [if_pos (by omega)] at e3
            have hlA : ((List.range i).map (needF on f b)).length = i := by simp
            have hlN : ((List.range i).map (needF met f b)).length = i := by simp
            have hgA : ∀ j, j < i → ((List.range i).map (needF on f b)).getD j false = needF on f b j := fun j hj => by simp [List.getD_eq_getElem?_getD, hj]
            have hgN : ∀ j, j < i → ((List.range i).map (needF met f b)).getD j false = needF met f b j := fun j hj => by simp [List.getD_eq_getElem?_getD, hj]
            (refine gw ?_; refine LoopN.mk ⟨[0,13,14,15,18], fun vs L => ∃ k : Nat, vs = [lT on, .ref 0, .ref 1, .ref 2, i64 k] ∧ L = [.row t_bool (tabF i fun j => .bool (needF met f b j)), .row t_bool (tabF i fun j => .bool (needF on f b j && or (decide (k ≤ j)) (needF met f b j))), .row t_int ((freshL on f b i).map fun n => i64 (n : Nat))] ∧ k ≤ i, fun vs L => match vs with | [_, _, _, _, .int _ i] => on.length - i.toNat | _ => 0, [], [0,1,2], rfl, ⟨0, rfl, ?_, by omega⟩, ?_⟩)
            · have q1 : (tabF i fun j => AV.bool (needF on f b j && or (decide (0 ≤ j)) (needF met f b j))) = ((List.range i).map (needF on f b)).map AV.bool := by
                rw [← tabF_of]; exact tabF_congr fun j _ => by rw [decide_eq_true (Nat.zero_le j)]; simp
              have q2 : (tabF i fun j => AV.bool (needF met f b j)) = ((List.range i).map (needF met f b)).map AV.bool := tabF_of _ _ _
              show [Blk.row t_bool _, Blk.row t_bool _, Blk.row t_int _] = _
              rw [q1, q2]
            rintro vs L ⟨k, rfl, rfl, hk⟩
            (refine gw ?_; first | refine IfB.dec (fun g1 => ?_) (fun g1 => ?_) | refine IfB.eq (fun g1 => ?_) (fun g1 => ?_) | refine IfB.ne (fun g1 => ?_) (fun g1 => ?_) | refine IfB.mk (fun g1 => ?_) (fun g1 => ?_))
            · have hki : k < i := by omega
              have hA := tabF_get (f := fun j => AV.bool (needF on f b j && or (decide (k ≤ j)) (needF met f b j))) hki
              have hN := tabF_get (f := fun j => AV.bool (needF met f b j)) hki
              have hkk : ((k : Nat) : Int).toNat = k := Int.toNat_natCast _
              have hse : ∀ v : Bool, (needF on f b k && needF met f b k) = v → (tabF i fun j => AV.bool (needF on f b j && or (decide (k ≤ j)) (needF met f b j))).set ((k : Nat) : Int).toNat (.bool v) = tabF i fun j => AV.bool (needF on f b j && or (decide (k + 1 ≤ j)) (needF met f b j)) := fun v hv => by
                rw [Int.toNat_natCast]
                refine tabF_set hki fun j hj => ?_
                by_cases e : j = k
                · subst e; rw [if_pos rfl, decide_eq_false (show ¬ j + 1 ≤ j by omega), Bool.false_or, hv]
                · rw [if_neg e]
                  have : decide (k + 1 ≤ j) = decide (k ≤ j) := decide_eq_decide.2 (by omega)
                  rw [this]
              rw [decide_eq_true (show k ≤ k by omega), Bool.true_or, Bool.and_true] at hA
              have hA1 : (tabF i fun j => AV.bool (needF on f b j && or (decide (k ≤ j)) (needF met f b j)))[((k : Nat) : Int).toNat]? = some (.bool (needF on f b k)) := by rw [hkk]; exact hA
              have hN1 : (tabF i fun j => AV.bool (needF met f b j))[((k : Nat) : Int).toNat]? = some (.bool (needF met f b k)) := by rw [hkk]; exact hN
              (refine gw ?_; refine InB.mk (by omega) (by rw [tabF_len]; omega) ?_)
              refine gw ?_
              refine At.mk ⟨.bool (needF on f b k), hA1, ?_⟩
              rcases gA : needF on f b k with _ | _
              · rw [gA, Bool.false_and] at hse
                (refine gw ?_; refine InB.mk (by omega) (by rw [tabF_len]; omega) ?_)
                (refine gw ?_; refine ⟨[], [0,1,2], rfl, ⟨k + 1, rfl, by rw [← hse _ rfl]; rfl, hki⟩, (by omega : on.length - ((k : Int) + 1).toNat < on.length - (k : Int).toNat)⟩)
              · rw [gA, Bool.true_and] at hse
                (refine gw ?_; refine InB.mk (by omega) (by rw [tabF_len]; omega) ?_)
                refine gw ?_
                refine At.mk ⟨.bool (needF met f b k), hN1, ?_⟩
                (refine gw ?_; refine InB.mk (by omega) (by rw [tabF_len]; omega) ?_)
                (refine gw ?_; refine ⟨[], [0,1,2], rfl, ⟨k + 1, rfl, by rw [← hse _ rfl]; rfl, hki⟩, (by omega : on.length - ((k : Int) + 1).toNat < on.length - (k : Int).toNat)⟩)
            · have e : k = i := by omega
              subst e
              have q1 : (tabF k fun j => AV.bool (needF on f b j && or (decide (k ≤ j)) (needF met f b j))) = ((List.range k).map fun i => needF on f b i && needF met f b i).map AV.bool := by
                rw [← tabF_of]; exact tabF_congr fun j hj => by rw [decide_eq_false (show ¬ k ≤ j by omega)]; simp
              rw [q1, e3]
              (refine gw ?_; exact RetN.fz ⟨[true, true, true], [], rfl, rfl, rfl⟩)
          · rw [if_neg (by omega)] at e3
            rw [e3]
            (refine gw ?_; exact RetN.fz ⟨[true, true, true], [], rfl, rfl, rfl⟩)
end Go.Ev.W
