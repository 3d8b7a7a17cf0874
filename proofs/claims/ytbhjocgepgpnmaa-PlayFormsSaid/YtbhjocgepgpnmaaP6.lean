/- Words and lemmas, part 6, for laws of this seat (a part of their proofs). -/
import Derived.Test.YtbhjocgepgpnmaaP5
import Derived.Test.YtbhjocgepgpnmaaNm
import Derived.Test.YtbhjocgepgpnmaaEvOpen
import Derived.Test.YtbhjocgepgpnmaaEvLib
import Derived.Test.YtbhjocgepgpnmaaEvGrid
import Derived.Test.YtbhjocgepgpnmaaEvTrim
set_option linter.unusedVariables false
set_option linter.unusedSimpArgs false
namespace Go.Ev.W
open Go.Ev Go.Ev.N

/-- Which are there behind the first so many of what is given. -/
def upF (on : List Bool) (f i j : Nat) : Bool := on.getD j false || (decide (f ≤ j) && decide (j < i))
theorem freshL_end (on : List Bool) {f b n : Nat} (h1 : f ≤ b) (h2 : b ≤ n) : freshL on f b n = freshL on f b b := by
  unfold freshL
  obtain ⟨d, rfl⟩ : ∃ d, n = b + d := ⟨n - b, by omega⟩
  clear h2
  induction d with
  | zero => rfl
  | succ d ih =>
    rw [show b + (d + 1) = b + d + 1 by omega, List.range_succ, List.filter_append, ih]
    have : isIn f b (b + d) = false := decide_eq_false (by omega)
    simp [this]
theorem freshL_low (on : List Bool) {f b : Nat} : freshL on f b f = [] := by
  unfold freshL
  rw [List.filter_eq_nil_iff]
  intro j hj
  have hj : j < f := by simpa using hj
  have : isIn f b j = false := decide_eq_false (by omega)
  simp [this]
set_option maxHeartbeats 8000000 in
theorem commit_told {on met : List Bool} (hN : met.length = on.length) (hl : on.length ≤ 65536) {f b most : Nat} (hf : f ≤ b) (hb : b ≤ on.length) (hm : most ≤ 65536) : Told P T commit_Commit [] [lT on, lT met, i64 f, i64 b, i64 most] (.tup [lT (commitF on met f b most).1, .lst t_int ((commitF on met f b most).2.1.map fun n => i64 (n : Nat)), .bool (commitF on met f b most).2.2]) [] := by
  have hmo : (on.map AV.bool).length = on.length := by simp
  have hmm : (met.map AV.bool).length = met.length := by simp
  have e3 := commitF_eq on met f b most
  obtain ⟨D, hD⟩ : ∃ D, on.length = D := ⟨_, rfl⟩
  have c1 := clone_bool (on.map AV.bool) (by omega)
  have c2 := clone_bool (met.map AV.bool) (by omega)
  refine told_of_ev (fn := commit_Commit_fn) tabOk mixed (by kernel_rfl) (by kernel_rfl) (by kernel_rfl) (by kernel_rfl) ?_
  (refine gw ?_; refine IfB.ff (by rw [hmm, hmo, hN]; simp) ?_)
  (refine gw ?_; refine IfB.ff (by simp; omega) ?_)
  (refine gw ?_; refine IfB.ff (by rw [hmo]; simp; omega) ?_)
  (refine gw ?_; refine Choice.mk ⟨false, Choice.mk ⟨false, _, _, c1, ?_⟩⟩)
  (refine gw ?_; refine Choice.mk ⟨false, Choice.mk ⟨false, _, _, c2, ?_⟩⟩)
  rw [hD] at hN hl hb hmo e3
  (refine gw ?_; refine LoopN.mk ⟨[0,3,4,10,11,13,14], fun vs L => ∃ i : Nat, vs = [lT on, i64 b, i64 most, .ref 0, .ref 1, .ref 2, i64 i] ∧ L = [.row t_bool (tabF D fun j => .bool (upF on f i j)), .row t_int ((freshL on f b i).map fun n => i64 (n : Nat)), .row t_bool (tabF D fun j => .bool (upF met f i j))] ∧ f ≤ i ∧ i ≤ b, fun vs L => match vs with | [_, _, _, _, _, _, .int _ i] => b - i.toNat | _ => 0, [], [2,1,3], rfl, ⟨f, rfl, ?_, by omega, by omega⟩, ?_⟩)
  · show [Blk.row t_bool (on.map AV.bool), Blk.row t_int [], Blk.row t_bool (met.map AV.bool)] = _
    have e0 : ∀ l : List Bool, l.length = D → l.map AV.bool = tabF D fun j => AV.bool (upF l f f j) := fun l hl => by
      rw [tabF_map l AV.bool false, hl]
      refine tabF_congr fun k _ => ?_
      unfold upF
      have : (decide (f ≤ k) && decide (k < f)) = false := by rw [Bool.and_eq_false_iff]; by_cases h : f ≤ k <;> simp [h]
      rw [this, Bool.or_false]
    rw [e0 on hD, e0 met hN, freshL_low]; rfl
  rintro vs L ⟨i, rfl, rfl, hfi, hib⟩
  have hfl := freshL_len on f b i
  have hfm : ((freshL on f b i).map fun n => i64 (n : Nat)).length = (freshL on f b i).length := by simp
  have hset : ∀ l : List Bool, i < D → (tabF D fun j => AV.bool (upF l f i j)).set ((i : Nat) : Int).toNat (.bool true) = tabF D fun j => AV.bool (upF l f (i + 1) j) := fun l hiD => by
    rw [Int.toNat_natCast]
    refine tabF_set hiD fun j hj => ?_
    unfold upF
    by_cases e : j = i
    · subst e; rw [if_pos rfl, decide_eq_true (show j < j + 1 by omega), decide_eq_true hfi]; simp
    · rw [if_neg e]
      have : decide (j < i + 1) = decide (j < i) := decide_eq_decide.2 (by omega)
      rw [this]
  (refine gw ?_; first | refine IfB.dec (fun g1 => ?_) (fun g1 => ?_) | refine IfB.eq (fun g1 => ?_) (fun g1 => ?_) | refine IfB.ne (fun g1 => ?_) (fun g1 => ?_) | refine IfB.mk (fun g1 => ?_) (fun g1 => ?_))
  · have hiD : i < D := by omega
    have hio : i < on.length := by omega
    have ho := lT_get hio
    have hfs := freshL_succ on f b i
    have hin : isIn f b i = true := decide_eq_true (by omega)
    rw [ho, hin, Bool.true_and] at hfs
    (refine gw ?_; refine idx_map (hio) ?_)
    rcases hov : on[i] with _ | _
    · rw [hov] at hfs
      have hz : (freshL on f b i).map (fun n => i64 (n : Nat)) ++ [i64 (i : Nat)] = (freshL on f b (i + 1)).map fun n => i64 (n : Nat) := by rw [hfs]; simp
      (refine gw ?_; refine Room.mk (by first | omega | (simp; omega) | (simp <;> fail)) ?_)
      (refine gw ?_; refine InB.mk (by omega) (by rw [tabF_len]; omega) ?_)
      (refine gw ?_; refine InB.mk (by omega) (by rw [tabF_len]; omega) ?_)
      (refine gw ?_; refine ⟨[], [0,4,2], rfl, ⟨i + 1, rfl, by rw [← hset on hiD, ← hset met hiD, ← hz]; rfl, by omega, by omega⟩, (by omega : b - ((i : Int) + 1).toNat < b - (i : Int).toNat)⟩)
    · rw [hov] at hfs
      have hz : freshL on f b (i + 1) = freshL on f b i := by rw [hfs]; simp
      (refine gw ?_; refine InB.mk (by omega) (by rw [tabF_len]; omega) ?_)
      (refine gw ?_; refine InB.mk (by omega) (by rw [tabF_len]; omega) ?_)
      (refine gw ?_; refine ⟨[], [0,1,2], rfl, ⟨i + 1, rfl, by rw [← hset on hiD, ← hset met hiD, hz]; rfl, by omega, by omega⟩, (by omega : b - ((i : Int) + 1).toNat < b - (i : Int).toNat)⟩)
  · have e : i = b := by omega
    subst e
    have f1 : ∀ l : List Bool, (tabF D fun j => AV.bool (upF l f i j)) = ((List.range D).map (needF l f i)).map AV.bool := fun l => by
      rw [← tabF_of]
      refine tabF_congr fun j hj => ?_
      unfold upF needF isIn
      congr 2
      rw [Bool.decide_and]
    rw [f1, f1]
    rw [freshL_end on hfi hb] at e3
    have c3 := pinCount_told ((List.range D).map (needF met f i)) (by simp; omega)
    have c4 := pinCount_told ((List.range D).map (needF on f i)) (by simp; omega)
    (refine gw ?_; refine Choice.mk ⟨false, Choice.mk ⟨true, _, _, c3, ?_⟩⟩)
    (refine gw ?_; first | refine IfB.dec (fun g2 => ?_) (fun g2 => ?_) | refine IfB.eq (fun g2 => ?_) (fun g2 => ?_) | refine IfB.ne (fun g2 => ?_) (fun g2 => ?_) | refine IfB.mk (fun g2 => ?_) (fun g2 => ?_))
    · rw [e3, if_pos (by omega)]
      (refine gw ?_; exact RetN.fz ⟨[true, true, true], [], rfl, rfl, rfl⟩)
    · rw [if_neg (by omega)] at e3
      (refine gw ?_; refine Choice.mk ⟨false, Choice.mk ⟨true, _, _, c4, ?_⟩⟩)
      (refine gw ?_; first | refine IfB.dec (fun g3 => ?_) (fun g3 => ?_) | refine IfB.eq (fun g3 => ?_) (fun g3 => ?_) | refine IfB.ne (fun g3 => ?_) (fun g3 => ?_) | refine IfB.mk (fun g3 => ?_) (fun g3 => ?_))
      · rw [if_pos (by omega)] at e3
        have hlA : ((List.range D).map (needF on f i)).length = D := by simp
        have hlN : ((List.range D).map (needF met f i)).length = D := by simp
        have c5 := trim_told (on := (List.range D).map (needF on f i)) (met := (List.range D).map (needF met f i)) (by rw [hlA, hlN]) (by omega)
        have et : (trimF ((List.range D).map (needF on f i)) ((List.range D).map (needF met f i))).1 = (List.range D).map fun j => needF on f i j && needF met f i j := by
          unfold trimF
          rw [hlA]
          refine List.map_congr_left fun j hj => ?_
          have hj : j < D := by simpa using hj
          simp [List.getD_eq_getElem?_getD, hj]
        rw [et] at c5
        (refine gw ?_; refine Choice.mk ⟨false, Choice.mk ⟨false, _, _, c5, ?_⟩⟩)
        rw [e3]
        (refine gw ?_; exact RetN.fz ⟨[true, true, true], [], rfl, rfl, rfl⟩)
      · rw [if_neg (by omega)] at e3
        rw [e3]
        (refine gw ?_; exact RetN.fz ⟨[true, true, true], [], rfl, rfl, rfl⟩)
end Go.Ev.W
namespace Go.Ev.W
open Go.Ev Go.Ev.N

theorem bits_xor {x y : Nat} (hx : x < 9223372036854775808) (hy : y < 9223372036854775808) : bitsOp .xor .i64 (x : Int) (y : Int) = ((x ^^^ y : Nat) : Int) ∧ x ^^^ y < 9223372036854775808 := by
  have h0 : x ^^^ y < 2 ^ 63 := Nat.xor_lt_two_pow (n := 63) (by omega) (by omega)
  have e : (BitVec.ofInt 64 (x : Int) ^^^ BitVec.ofInt 64 (y : Int)).toNat = x ^^^ y := by
    rw [BitVec.toNat_xor, BitVec.ofInt_natCast, BitVec.ofInt_natCast, BitVec.toNat_ofNat, BitVec.toNat_ofNat, Nat.mod_eq_of_lt (by omega), Nat.mod_eq_of_lt (by omega)]
  refine ⟨?_, by omega⟩
  show IntKind.i64.wrap ((BitVec.ofInt 64 (x : Int) ^^^ BitVec.ofInt 64 (y : Int)).toNat : Int) = _
  rw [e]
  exact wrap64 (by omega) (by omega)
theorem bits_and {x y : Nat} (hx : x < 9223372036854775808) (hy : y < 9223372036854775808) : bitsOp .and .i64 (x : Int) (y : Int) = ((x &&& y : Nat) : Int) ∧ x &&& y < 9223372036854775808 := by
  have h0 : x &&& y < 2 ^ 63 := Nat.and_lt_two_pow (n := 63) x (by omega)
  have e : (BitVec.ofInt 64 (x : Int) &&& BitVec.ofInt 64 (y : Int)).toNat = x &&& y := by
    rw [BitVec.toNat_and, BitVec.ofInt_natCast, BitVec.ofInt_natCast, BitVec.toNat_ofNat, BitVec.toNat_ofNat, Nat.mod_eq_of_lt (by omega), Nat.mod_eq_of_lt (by omega)]
  refine ⟨?_, by omega⟩
  show IntKind.i64.wrap ((BitVec.ofInt 64 (x : Int) &&& BitVec.ofInt 64 (y : Int)).toNat : Int) = _
  rw [e]
  exact wrap64 (by omega) (by omega)
theorem calcAdd_told {a b : Int} (ha : 0 ≤ a) (hb : 0 ≤ b) (hab : a + b ≤ 9223372036854775807) : Told P T calc_Add [] [i64 a, i64 b] (.tup [i64 (a + b), .bool true]) [] := by
  obtain ⟨x, rfl⟩ : ∃ x : Nat, a = (x : Int) := ⟨a.toNat, by omega⟩
  obtain ⟨y, rfl⟩ : ∃ y : Nat, b = (y : Int) := ⟨b.toNat, by omega⟩
  obtain ⟨h1, h1'⟩ := bits_xor (x := x) (y := x + y) (by omega) (by omega)
  obtain ⟨h2, h2'⟩ := bits_xor (x := y) (y := x + y) (by omega) (by omega)
  obtain ⟨h3, h3'⟩ := bits_and h1' h2'
  rw [← Int.natCast_add]
  have hn : (((x : Int) + (y : Int))) = ((x + y : Nat) : Int) := by omega
  refine told_of_ev (fn := calc_Add_fn) tabOk mixed (by kernel_rfl) (by kernel_rfl) (by kernel_rfl) (by kernel_rfl) ?_
  (refine gw ?_)
  rw [hn, h1, h2, h3]
  (refine gw ?_; exact RetN.mk ⟨[], rfl, rfl, rfl⟩)
theorem calcLog_told (v : Int) (h2 : v ≤ 9223372036854775807) : Told P T calc_Log [] [i64 v] (.tup [i64 ((logF v).1 : Nat), .bool (logF v).2]) [] := by
  have hsh : ∀ m : Nat, (((2 ^ (m + 1) : Nat)) : Int).fdiv (2 ^ min (Int.toNat 1) IntKind.i64.bits) = ((2 ^ m : Nat) : Int) := fun m => by
    have : (2 : Int) ^ min (Int.toNat 1) IntKind.i64.bits = 2 := by decide
    rw [this, Int.fdiv_eq_ediv_of_nonneg _ (by omega), Nat.pow_succ]; omega
  by_cases h1 : v < 1
  · have e : logF v = (0, false) := by unfold logF; rw [if_neg (by omega)]
    rw [e]
    refine told_of_ev (fn := calc_Log_fn) tabOk mixed (by kernel_rfl) (by kernel_rfl) (by kernel_rfl) (by kernel_rfl) ?_
    (refine gw ?_; refine IfB.tt (by simp; omega) ?_)
    (refine gw ?_; exact RetN.mk ⟨[], rfl, rfl, rfl⟩)
  · obtain ⟨n, rfl⟩ : ∃ n : Nat, v = (n : Int) := ⟨v.toNat, by omega⟩
    have hn : n ≠ 0 := by omega
    obtain ⟨b1, b2⟩ := bits_and (x := n) (y := n - 1) (by omega) (by omega)
    have hc : ((n : Int) - 1) = ((n - 1 : Nat) : Int) := by omega
    have hp := Nat.and_sub_one_eq_zero_iff_isPowerOfTwo hn
    by_cases h0 : n &&& (n - 1) = 0
    · obtain ⟨K, hK⟩ := hp.1 h0
      have e : logF (n : Int) = (K, true) := by rw [hK]; exact logF_pow K
      rw [e]
      have hK63 : K < 63 := by
        refine (Nat.pow_lt_pow_iff_right (a := 2) (by omega)).1 ?_
        rw [← hK]; omega
      refine told_of_ev (fn := calc_Log_fn) tabOk mixed (by kernel_rfl) (by kernel_rfl) (by kernel_rfl) (by kernel_rfl) ?_
      (refine gw ?_; refine IfB.ff (by simp; omega) ?_)
      (refine gw ?_)
      rw [hc, b1, h0]
      (refine gw ?_; refine LoopN.mk ⟨[0,2], fun vs L => ∃ j : Nat, vs = [i64 (2 ^ (K - j) : Nat), i64 j] ∧ L = [] ∧ j ≤ K, fun vs L => match vs with | [_, .int _ i] => 63 - i.toNat | _ => 0, [], [], rfl, ⟨0, by rw [Nat.sub_zero, ← hK]; rfl, rfl, by omega⟩, ?_⟩)
      rintro vs L ⟨j, rfl, rfl, hj⟩
      by_cases hjK : j < K
      · obtain ⟨m, hm⟩ : ∃ m, K - j = m + 1 := ⟨K - j - 1, by omega⟩
        rw [hm]
        have hpos : 2 ≤ 2 ^ (m + 1) := by have := Nat.one_le_two_pow (n := m); rw [Nat.pow_succ]; omega
        have hs := hsh m
        generalize hq : 2 ^ (m + 1) = q at *
        (refine gw ?_; refine IfB.tt (by simp; omega) ?_)
        (refine gw ?_)
        rw [hs]
        (refine gw ?_; refine ⟨[], [], rfl, ⟨j + 1, by rw [show K - (j + 1) = m by omega]; rfl, rfl, by omega⟩, (by omega : 63 - ((j : Int) + 1).toNat < 63 - (j : Int).toNat)⟩)
      · have e : j = K := by omega
        subst e
        rw [Nat.sub_self]
        (refine gw ?_; exact RetN.mk ⟨[], rfl, rfl, rfl⟩)
    · have e : logF (n : Int) = (0, false) := by
        unfold logF
        rw [if_neg]
        rintro ⟨_, h4⟩
        refine h0 (hp.2 ⟨Nat.log2 n, ?_⟩)
        rw [Int.toNat_natCast] at h4
        omega
      rw [e]
      refine told_of_ev (fn := calc_Log_fn) tabOk mixed (by kernel_rfl) (by kernel_rfl) (by kernel_rfl) (by kernel_rfl) ?_
      (refine gw ?_; refine IfB.ff (by simp; omega) ?_)
      (refine gw ?_)
      rw [hc, b1]
      (refine gw ?_; refine IfB.tt (by simp; omega) ?_)
      (refine gw ?_; exact RetN.mk ⟨[], rfl, rfl, rfl⟩)
end Go.Ev.W
namespace Go.Ev.W
open Go.Ev Go.Ev.N

theorem classCharge_told {c : Cf} (hc : c.N ≤ 65536) (hg : c.G ≤ 65536) (hg1 : 1 ≤ c.G) (s a : Int) (ha : a ≤ 9223372036854775807) : Told P T class_Charge [] [eC c, i64 s, i64 a] (.tup [i64 ((chargeF c s a).1 : Nat), i64 ((chargeF c s a).2 : Nat)]) [] := by
  refine told_of_ev (fn := class_Charge_fn) tabOk mixed (by kernel_rfl) (by kernel_rfl) (by kernel_rfl) (by kernel_rfl) ?_
  (refine gw ?_; refine Choice.mk ⟨false, Choice.mk ⟨true, _, _, calcLog_told a ha, ?_⟩⟩)
  cases h1 : (logF a).2 with
  | false =>
    rw [show chargeF c s a = (0, 3) by unfold chargeF; rw [if_pos (.inl h1)]]
    (refine gw ?_; exact RetN.mk ⟨[], rfl, rfl, rfl⟩)
  | true =>
    have ha1 : 1 ≤ a := by
      unfold logF at h1; split at h1
      · rename_i h; exact h.1
      · cases h1
    (refine gw ?_; first | refine IfB.dec (fun h2 => ?_) (fun h2 => ?_) | refine IfB.eq (fun h2 => ?_) (fun h2 => ?_) | refine IfB.ne (fun h2 => ?_) (fun h2 => ?_) | refine IfB.mk (fun h2 => ?_) (fun h2 => ?_))
    · rw [show chargeF c s a = (0, 3) by unfold chargeF; rw [if_pos (.inr h2)]]
      (refine gw ?_; exact RetN.mk ⟨[], rfl, rfl, rfl⟩)
    · (refine gw ?_; first | refine IfB.dec (fun h3 => ?_) (fun h3 => ?_) | refine IfB.eq (fun h3 => ?_) (fun h3 => ?_) | refine IfB.ne (fun h3 => ?_) (fun h3 => ?_) | refine IfB.mk (fun h3 => ?_) (fun h3 => ?_))
      · rw [show chargeF c s a = (0, 4) by unfold chargeF; rw [if_neg (by rw [h1]; simp; omega), if_pos (.inl h3)]]
        (refine gw ?_; exact RetN.mk ⟨[], rfl, rfl, rfl⟩)
      · (refine gw ?_; first | refine IfB.dec (fun h4 => ?_) (fun h4 => ?_) | refine IfB.eq (fun h4 => ?_) (fun h4 => ?_) | refine IfB.ne (fun h4 => ?_) (fun h4 => ?_) | refine IfB.mk (fun h4 => ?_) (fun h4 => ?_))
        · rw [show chargeF c s a = (0, 4) by unfold chargeF; rw [if_neg (by rw [h1]; simp; omega), if_pos (.inr h4)]]
          (refine gw ?_; exact RetN.mk ⟨[], rfl, rfl, rfl⟩)
        · have cu := up_told (max (max s.toNat a.toNat) c.G) (by omega) (by omega)
          have e1 : (if a > s then a else s) = ((max s.toNat a.toNat : Nat) : Int) := by split <;> omega
          have e2 : (if ((c.G : Nat) : Int) > ((max s.toNat a.toNat : Nat) : Int) then ((c.G : Nat) : Int) else ((max s.toNat a.toNat : Nat) : Int)) = ((max (max s.toNat a.toNat) c.G : Nat) : Int) := by split <;> omega
          rw [← e2, ← e1] at cu
          rw [show chargeF c s a = (upN (max (max s.toNat a.toNat) c.G), 0) by unfold chargeF; rw [if_neg (by rw [h1]; simp; omega), if_neg (by omega)]]
          (refine gw ?_; refine Choice.mk ⟨false, Choice.mk ⟨true, _, _, cu, ?_⟩⟩)
          (refine gw ?_; exact RetN.mk ⟨[], rfl, rfl, rfl⟩)
theorem admitNew_told {c : Cf} (hc : c.Ok) (live s a : Int) (hl : 0 ≤ live ∧ live ≤ 1000000) (ha : a ≤ 9223372036854775807) : Told P T admit_New [] [eC c, i64 live, i64 s, i64 a] (.tup [i64 ((newF c live s a).1 : Nat), i64 ((newF c live s a).2 : Nat)]) [] := by
  have h1 := hc.nM
  have h2 := hc.mH
  have h3 := hc.gpos
  have h4 : c.G ≤ c.N := by rw [hc.n]; exact Nat.le_mul_of_pos_right _ (Nat.two_pow_pos _)
  have hb := (chargeF_bd hc s a).1
  have c2 := calcAdd_told (a := live) (b := ((chargeF c s a).1 : Nat)) (by omega) (by omega) (by omega)
  refine told_of_ev (fn := admit_New_fn) tabOk mixed (by kernel_rfl) (by kernel_rfl) (by kernel_rfl) (by kernel_rfl) ?_
  (refine gw ?_; refine Choice.mk ⟨false, Choice.mk ⟨true, _, _, classCharge_told (by omega) (by omega) h3 s a ha, ?_⟩⟩)
  (refine gw ?_; first | refine IfB.dec (fun g1 => ?_) (fun g1 => ?_) | refine IfB.eq (fun g1 => ?_) (fun g1 => ?_) | refine IfB.ne (fun g1 => ?_) (fun g1 => ?_) | refine IfB.mk (fun g1 => ?_) (fun g1 => ?_))
  · rw [show newF c live s a = (0, (chargeF c s a).2) by unfold newF; rw [if_pos (by omega)]]
    (refine gw ?_; exact RetN.mk ⟨[], rfl, rfl, rfl⟩)
  · (refine gw ?_; refine Choice.mk ⟨false, Choice.mk ⟨true, _, _, c2, ?_⟩⟩)
    (refine gw ?_; first | refine IfB.dec (fun g2 => ?_) (fun g2 => ?_) | refine IfB.eq (fun g2 => ?_) (fun g2 => ?_) | refine IfB.ne (fun g2 => ?_) (fun g2 => ?_) | refine IfB.mk (fun g2 => ?_) (fun g2 => ?_))
    · rw [show newF c live s a = (0, 5) by unfold newF; rw [if_neg (by omega), if_pos (by omega)]]
      (refine gw ?_; exact RetN.mk ⟨[], rfl, rfl, rfl⟩)
    · rw [show newF c live s a = ((chargeF c s a).1, 0) by unfold newF; rw [if_neg (by omega), if_neg (by omega)]]
      (refine gw ?_; exact RetN.mk ⟨[], rfl, rfl, rfl⟩)
theorem admitAnew_told {c : Cf} (hc : c.Ok) (live old s : Int) (hl : 0 ≤ old ∧ old ≤ live ∧ live ≤ 1000000) : Told P T admit_Anew [] [eC c, i64 live, i64 old, i64 s] (.tup [i64 ((newF c (live - old) s 1).1 : Nat), i64 ((newF c (live - old) s 1).2 : Nat)]) [] := by
  refine told_of_ev (fn := admit_Anew_fn) tabOk mixed (by kernel_rfl) (by kernel_rfl) (by kernel_rfl) (by kernel_rfl) ?_
  (refine gw ?_; refine Choice.mk ⟨false, Choice.mk ⟨true, _, _, admitNew_told hc (live - old) s 1 (by omega) (by omega), ?_⟩⟩)
  (refine gw ?_; exact RetN.mk ⟨[], rfl, rfl, rfl⟩)
end Go.Ev.W
namespace Go.Ev.W
open Go.Ev Go.Ev.N

theorem wrap_both (p : Int) : IntKind.i64.wrap (IntKind.u64.wrap p) = IntKind.i64.wrap p := by
  rw [IntKind.wrap_i64, IntKind.wrap_i64, IntKind.wrap_u64]; omega
theorem calcMul_told (n s : Int) (hn : 0 ≤ n ∧ n ≤ 9223372036854775807) (hs : 0 ≤ s ∧ s ≤ 9223372036854775807) : Told P T calc_Mul [] [i64 n, i64 s] (.tup [i64 (if n * s ≤ 9223372036854775807 then n * s else 0), .bool (decide (n * s ≤ 9223372036854775807))]) [] := by
  refine told_of_ev (fn := calc_Mul_fn) tabOk mixed (by kernel_rfl) (by kernel_rfl) (by kernel_rfl) (by kernel_rfl) ?_
  (refine gw ?_; first | refine IfB.dec (fun h1 => ?_) (fun h1 => ?_) | refine IfB.eq (fun h1 => ?_) (fun h1 => ?_) | refine IfB.ne (fun h1 => ?_) (fun h1 => ?_) | refine IfB.mk (fun h1 => ?_) (fun h1 => ?_))
  · rw [h1, Int.zero_mul]
    (refine gw ?_; exact RetN.mk ⟨[], rfl, rfl, rfl⟩)
  · (refine gw ?_; first | refine IfB.dec (fun h2 => ?_) (fun h2 => ?_) | refine IfB.eq (fun h2 => ?_) (fun h2 => ?_) | refine IfB.ne (fun h2 => ?_) (fun h2 => ?_) | refine IfB.mk (fun h2 => ?_) (fun h2 => ?_))
    · rw [h2, Int.mul_zero]
      (refine gw ?_; exact RetN.mk ⟨[], rfl, rfl, rfl⟩)
    · (refine gw ?_; refine IfB.ff (by simp; omega) ?_)
      (refine gw ?_; refine IfB.ff (by simp; omega) ?_)
      by_cases h : n * s ≤ 9223372036854775807
      · rw [if_pos h, decide_eq_true h]
        have hp : 0 ≤ n * s := Int.mul_nonneg hn.1 hs.1
        have e : (n * s).tdiv s = n := Int.mul_tdiv_cancel _ (by omega)
        (refine gw ?_; refine IfB.ff (by simpa using e) ?_)
        (refine gw ?_; exact RetN.mk ⟨[], rfl, rfl, rfl⟩)
      · rw [if_neg h, decide_eq_false h]
        have hne := mul_over hn.1 (s := s) (by omega) (by omega)
        obtain ⟨w, hw⟩ : ∃ w, IntKind.i64.wrap (n * s) = w := ⟨_, rfl⟩
        have hwr : -9223372036854775808 ≤ w ∧ w ≤ 9223372036854775807 := by
          rw [← hw, IntKind.wrap_i64]; omega
        rw [hw] at hne
        have ht := tdiv_rng hwr.1 hwr.2 (s := s) (by omega)
        (refine gw ?_)
        refine ⟨?_⟩
        (refine gw ?_)
        refine ⟨?_⟩
        rw [wrap_both, hw]
        (refine gw ?_; refine IfB.tt (by simpa using hne) ?_)
        (refine gw ?_; exact RetN.mk ⟨[], rfl, rfl, rfl⟩)
theorem classProd_told {c : Cf} (hc : c.N ≤ 65536) (n s : Int) (hn : -9223372036854775808 ≤ n ∧ n ≤ 9223372036854775807) (hs : -9223372036854775808 ≤ s ∧ s ≤ 9223372036854775807) : Told P T class_Product [] [eC c, i64 n, i64 s] (.tup [i64 ((prodF c n s).1 : Nat), i64 ((prodF c n s).2 : Nat)]) [] := by
  refine told_of_ev (fn := class_Product_fn) tabOk mixed (by kernel_rfl) (by kernel_rfl) (by kernel_rfl) (by kernel_rfl) ?_
  (refine gw ?_; first | refine IfB.dec (fun h1 => ?_) (fun h1 => ?_) | refine IfB.eq (fun h1 => ?_) (fun h1 => ?_) | refine IfB.ne (fun h1 => ?_) (fun h1 => ?_) | refine IfB.mk (fun h1 => ?_) (fun h1 => ?_))
  · rw [show prodF c n s = (0, 2) by unfold prodF; rw [if_pos (.inl h1)]]
    (refine gw ?_; exact RetN.mk ⟨[], rfl, rfl, rfl⟩)
  · (refine gw ?_; first | refine IfB.dec (fun h2 => ?_) (fun h2 => ?_) | refine IfB.eq (fun h2 => ?_) (fun h2 => ?_) | refine IfB.ne (fun h2 => ?_) (fun h2 => ?_) | refine IfB.mk (fun h2 => ?_) (fun h2 => ?_))
    · rw [show prodF c n s = (0, 2) by unfold prodF; rw [if_pos (.inr h2)]]
      (refine gw ?_; exact RetN.mk ⟨[], rfl, rfl, rfl⟩)
    · have hm := calcMul_told n s (by omega) (by omega)
      have hp : 0 ≤ n * s := Int.mul_nonneg (by omega) (by omega)
      by_cases h : n * s ≤ 9223372036854775807
      · rw [if_pos h, decide_eq_true h] at hm
        (refine gw ?_; refine Choice.mk ⟨false, Choice.mk ⟨true, _, _, hm, ?_⟩⟩)
        (refine gw ?_; first | refine IfB.dec (fun h3 => ?_) (fun h3 => ?_) | refine IfB.eq (fun h3 => ?_) (fun h3 => ?_) | refine IfB.ne (fun h3 => ?_) (fun h3 => ?_) | refine IfB.mk (fun h3 => ?_) (fun h3 => ?_))
        · rw [show prodF c n s = (0, 4) by unfold prodF; rw [if_neg (by omega), if_neg (by omega)]]
          (refine gw ?_; exact RetN.mk ⟨[], rfl, rfl, rfl⟩)
        · rw [show prodF c n s = ((n * s).toNat, 0) by unfold prodF; rw [if_neg (by omega), if_pos (by omega)]]
          have e : (((n * s).toNat : Nat) : Int) = n * s := by omega
          rw [e]
          (refine gw ?_; exact RetN.mk ⟨[], rfl, rfl, rfl⟩)
      · rw [if_neg h, decide_eq_false h] at hm
        rw [show prodF c n s = (0, 4) by unfold prodF; rw [if_neg (by omega), if_neg (by omega)]]
        (refine gw ?_; refine Choice.mk ⟨false, Choice.mk ⟨true, _, _, hm, ?_⟩⟩)
        (refine gw ?_; exact RetN.mk ⟨[], rfl, rfl, rfl⟩)
theorem admitMany_told {c : Cf} (hc : c.Ok) (live n s : Int) (hl : 0 ≤ live ∧ live ≤ 1000000) (hn : -9223372036854775808 ≤ n ∧ n ≤ 9223372036854775807) (hs : -9223372036854775808 ≤ s ∧ s ≤ 9223372036854775807) : Told P T admit_Many [] [eC c, i64 live, i64 n, i64 s] (.tup [i64 ((manyF c live n s).1 : Nat), i64 ((manyF c live n s).2 : Nat)]) [] := by
  have h1 := hc.nM
  have h2 := hc.mH
  have h3 := prodF_bd (c := c) n s
  refine told_of_ev (fn := admit_Many_fn) tabOk mixed (by kernel_rfl) (by kernel_rfl) (by kernel_rfl) (by kernel_rfl) ?_
  (refine gw ?_; refine Choice.mk ⟨false, Choice.mk ⟨true, _, _, classProd_told (c := c) (by omega) n s hn hs, ?_⟩⟩)
  (refine gw ?_; first | refine IfB.dec (fun g1 => ?_) (fun g1 => ?_) | refine IfB.eq (fun g1 => ?_) (fun g1 => ?_) | refine IfB.ne (fun g1 => ?_) (fun g1 => ?_) | refine IfB.mk (fun g1 => ?_) (fun g1 => ?_))
  · rw [show manyF c live n s = (0, (prodF c n s).2) by unfold manyF; rw [if_pos (by omega)]]
    (refine gw ?_; exact RetN.mk ⟨[], rfl, rfl, rfl⟩)
  · rw [show manyF c live n s = newF c live (prodF c n s).1 1 by unfold manyF; rw [if_neg (by omega)]]
    (refine gw ?_; refine Choice.mk ⟨false, Choice.mk ⟨true, _, _, admitNew_told hc live ((prodF c n s).1 : Nat) 1 hl (by omega), ?_⟩⟩)
    (refine gw ?_; exact RetN.mk ⟨[], rfl, rfl, rfl⟩)
end Go.Ev.W
namespace Go.Ev.W
open Go.Ev Go.Ev.N

theorem calcRound_told (v t : Nat) (hv : v ≤ 1000000) (h1 : 1 ≤ t) (h2 : t ≤ 1000000) : Told P T calc_Round [] [i64 v, i64 t] (.tup [i64 (rnd v t : Nat), .bool true]) [] := by
  have em : ((v : Nat) : Int).tmod (t : Nat) = ((v % t : Nat) : Int) := by rw [Int.tmod_eq_emod_of_nonneg (by omega)]; omega
  have hm := Nat.mod_lt v h1
  have hd := Nat.mod_le v t
  have e0 : v % t = 0 → rnd v t = v := fun h => by unfold rnd; rw [if_pos h]
  have e1 : v % t ≠ 0 → rnd v t = v - v % t + t := fun h => by unfold rnd; rw [if_neg h]
  generalize v % t = r at *
  refine told_of_ev (fn := calc_Round_fn) tabOk mixed (by kernel_rfl) (by kernel_rfl) (by kernel_rfl) (by kernel_rfl) ?_
  (refine gw ?_; refine IfB.ff (by simp; omega) ?_)
  (refine gw ?_)
  rw [em]
  by_cases h5 : r = 0
  · rw [e0 h5]
    (refine gw ?_; refine IfB.tt (by simp [h5]) ?_)
    (refine gw ?_; exact RetN.mk ⟨[], rfl, rfl, rfl⟩)
  · rw [e1 h5]
    (refine gw ?_; refine IfB.ff (by simp; omega) ?_)
    have c := calcAdd_told (a := (v : Int)) (b := (t : Int) - (r : Int)) (by omega) (by omega) (by omega)
    have e2 : ((v - r + t : Nat) : Int) = (v : Int) + ((t : Int) - (r : Int)) := by omega
    rw [e2]
    (refine gw ?_; refine Choice.mk ⟨false, Choice.mk ⟨true, _, _, c, ?_⟩⟩)
    (refine gw ?_; exact RetN.mk ⟨[], rfl, rfl, rfl⟩)
theorem confWithin_told (l : List Int) (hl : l.length ≤ 1000) : Told P T conf_within [] [.lst t_int (l.map i64)] (.bool (l.all inR)) [] := by
  have hml : (l.map i64).length = l.length := by simp
  refine told_of_ev (fn := conf_within_fn) tabOk mixed (by kernel_rfl) (by kernel_rfl) (by kernel_rfl) (by kernel_rfl) ?_
  (refine gw ?_; refine LoopN.mk ⟨[5,6,7], fun vs L => ∃ i : Nat, vs = [.lst t_int (l.map i64), i64 (l.map i64).length, i64 i] ∧ L = [] ∧ i ≤ l.length ∧ (l.take i).all inR = true, fun vs L => match vs with | [_, _, .int _ i] => l.length - i.toNat | _ => 0, [], [], rfl, ⟨0, rfl, rfl, by omega, rfl⟩, ?_⟩)
  rintro vs L ⟨i, rfl, rfl, hi, hin⟩
  (refine gw ?_; first | refine IfB.dec (fun h1 => ?_) (fun h1 => ?_) | refine IfB.eq (fun h1 => ?_) (fun h1 => ?_) | refine IfB.ne (fun h1 => ?_) (fun h1 => ?_) | refine IfB.mk (fun h1 => ?_) (fun h1 => ?_))
  · have hlt : i < l.length := by omega
    have hbad : inR l[i] = false → l.all inR = false := fun h => by
      rw [List.all_eq_false]
      exact ⟨l[i], List.getElem_mem hlt, by rw [h]; simp⟩
    have hnext : inR l[i] = true → (l.take (i + 1)).all inR = true := fun h => by
      rw [List.take_succ_eq_append_getElem hlt, List.all_append, hin]; simp [h]
    (refine gw ?_; refine idx_map (hlt) ?_)
    generalize l[i] = x at *
    (refine gw ?_; first | refine IfB.dec (fun h2 => ?_) (fun h2 => ?_) | refine IfB.eq (fun h2 => ?_) (fun h2 => ?_) | refine IfB.ne (fun h2 => ?_) (fun h2 => ?_) | refine IfB.mk (fun h2 => ?_) (fun h2 => ?_))
    · rw [hbad (by simp [inR]; omega)]
      (refine gw ?_; exact RetN.mk ⟨[], rfl, rfl, rfl⟩)
    · (refine gw ?_; first | refine IfB.dec (fun h3 => ?_) (fun h3 => ?_) | refine IfB.eq (fun h3 => ?_) (fun h3 => ?_) | refine IfB.ne (fun h3 => ?_) (fun h3 => ?_) | refine IfB.mk (fun h3 => ?_) (fun h3 => ?_))
      · rw [hbad (by simp [inR]; omega)]
        (refine gw ?_; exact RetN.mk ⟨[], rfl, rfl, rfl⟩)
      · (refine gw ?_; refine ⟨[], [], rfl, ⟨i + 1, rfl, rfl, hlt, hnext (by simp [inR]; omega)⟩, (by omega : l.length - ((i : Int) + 1).toNat < l.length - (i : Int).toNat)⟩)
  · have e : i = l.length := by omega
    subst e
    rw [List.take_length] at hin
    rw [hin]
    (refine gw ?_; exact RetN.mk ⟨[], rfl, rfl, rfl⟩)
end Go.Ev.W
namespace Go.Ev.W
open Go.Ev Go.Ev.N

set_option maxHeartbeats 8000000 in
theorem confOf_told (r : Rw) : Told P T conf_Of [] [eR r] (.tup [eC (ofF r).1, i64 ((ofF r).2 : Nat)]) [] := by
  have bad : r.ok = false → ofF r = (cf0, 1) := fun h => by unfold ofF; rw [if_neg (by rw [h]; simp)]
  have hsl : ∀ x : Int, x * 2 ^ min (Int.toNat 1) IntKind.i64.bits = x * 2 := fun x => by
    have : (2 : Int) ^ min (Int.toNat 1) IntKind.i64.bits = 2 := by decide
    rw [this]
  have hsr : ∀ x : Nat, ((x : Nat) : Int).fdiv (2 ^ min (Int.toNat 1) IntKind.i64.bits) = ((x / 2 : Nat) : Int) := fun x => by
    have : (2 : Int) ^ min (Int.toNat 1) IntKind.i64.bits = 2 := by decide
    rw [this, Int.fdiv_eq_ediv_of_nonneg _ (by omega)]; omega
  obtain ⟨g, l, m, p, b, s⟩ := r
  have c0 := confWithin_told [g, l, m, p] (by simp)
  have hr0 : (Rw.ok ⟨g, l, m, p, b, s⟩) = (([g, l, m, p] : List Int).all inR && decide (0 ≤ b ∧ b ≤ 65536) && decide (0 ≤ s ∧ s ≤ 255)) := by
    simp only [Rw.ok, List.all_cons, List.all_nil, Bool.and_true, Bool.and_assoc]
  refine told_of_ev (fn := conf_Of_fn) tabOk mixed (by kernel_rfl) (by kernel_rfl) (by kernel_rfl) (by kernel_rfl) ?_
  (refine gw ?_; refine Choice.mk ⟨false, Choice.mk ⟨true, _, _, c0, ?_⟩⟩)
  by_cases hin : ([g, l, m, p] : List Int).all inR = true
  · rw [hin] at hr0 ⊢
    simp only [List.all_cons, List.all_nil, Bool.and_true, Bool.and_eq_true, inR, decide_eq_true_eq] at hin
    obtain ⟨i1, i2, i3, i4⟩ := hin
    have hr : (Rw.ok ⟨g, l, m, p, b, s⟩) = (decide (0 ≤ b ∧ b ≤ 65536) && decide (0 ≤ s ∧ s ≤ 255)) := by rw [hr0, Bool.true_and]
    by_cases hbs : (0 ≤ b ∧ b ≤ 65536) ∧ 0 ≤ s ∧ s ≤ 255
    · (refine gw ?_; refine IfB.ff (by simp; omega) ?_)
      (refine gw ?_; refine IfB.ff (by simp; omega) ?_)
      (refine gw ?_; refine IfB.ff (by simp; omega) ?_)
      (refine gw ?_; refine IfB.ff (by simp; omega) ?_)
      have hok : Rw.ok ⟨g, l, m, p, b, s⟩ = true := by rw [hr]; simp; omega
      obtain ⟨G, hG⟩ : ∃ G, upN g.toNat = G := ⟨_, rfl⟩
      obtain ⟨N, hN⟩ : ∃ N, upN (max l.toNat G) = N := ⟨_, rfl⟩
      obtain ⟨Pg, hPg⟩ : ∃ Pg, upN (max p.toNat G) = Pg := ⟨_, rfl⟩
      obtain ⟨M, hM⟩ : ∃ M, rnd m.toNat (2 * max N Pg) = M := ⟨_, rfl⟩
      obtain ⟨K, hK⟩ : ∃ K, Nat.log2 (N / G) = K := ⟨_, rfl⟩
      have hcf : cfOf ⟨g, l, m, p, b, s⟩ = ⟨G, N, M, K, Pg, b.toNat, M + K * (M / 2), s.toNat⟩ := by
        unfold cfOf; simp only [hG, hN, hPg, hM, hK]
      have bG := upN_lt (v := g.toNat) (by omega)
      have bG0 := upN_pos g.toNat
      rw [hG] at bG bG0
      have bN := upN_lt (v := max l.toNat G) (by omega)
      rw [hN] at bN
      have bN0 := le_upN (max l.toNat G)
      rw [hN] at bN0
      have bP := upN_lt (v := max p.toNat G) (by omega)
      rw [hPg] at bP
      have c1 := up_told g.toNat (by omega) (by omega)
      rw [hG, show ((g.toNat : Nat) : Int) = g by omega] at c1
      have c2 := up_told (max l.toNat G) (by omega) (by omega)
      rw [hN, show ((max l.toNat G : Nat) : Int) = (if ((G : Nat) : Int) > l then ((G : Nat) : Int) else l) by split <;> omega] at c2
      have c3 := up_told (max p.toNat G) (by omega) (by omega)
      rw [hPg, show ((max p.toNat G : Nat) : Int) = (if ((G : Nat) : Int) > p then ((G : Nat) : Int) else p) by split <;> omega] at c3
      have c4 := calcRound_told m.toNat (2 * max N Pg) (by omega) (by omega) (by omega)
      rw [hM, show ((2 * max N Pg : Nat) : Int) = (if ((Pg : Nat) : Int) > ((N : Nat) : Int) then ((Pg : Nat) : Int) else ((N : Nat) : Int)) * 2 by split <;> omega, show ((m.toNat : Nat) : Int) = m by omega] at c4
      obtain ⟨q, q1, q2, q3⟩ := rnd_spec (v := m.toNat) (t := 2 * max N Pg) (by omega)
      rw [hM] at q1 q2 q3
      obtain ⟨k0, hk0⟩ := pow_up (v := l.toNat) (hG ▸ upN_pow g.toNat)
      rw [hN] at hk0
      have hK0 : K = k0 := by rw [← hK]; exact log_of bG0 hk0
      have c5 := calcLog_told ((N / G : Nat) : Int) (by have := Nat.div_le_self N G; omega)
      have e5 : N / G = 2 ^ K := by rw [hk0, hK0, Nat.mul_div_cancel_left _ (by omega)]
      rw [e5, logF_pow, ← e5, show ((N / G : Nat) : Int) = ((N : Nat) : Int).tdiv ((G : Nat) : Int) by rw [Int.tdiv_eq_ediv_of_nonneg (by omega)]; omega] at c5
      have bK : K < 20 := by
        have h6 : 2 ^ K ≤ 2 ^ 18 := by rw [← e5]; have := Nat.div_le_self N G; omega
        have := (Nat.pow_le_pow_iff_right (a := 2) (by omega)).1 h6
        omega
      have bKM : K * (M / 2) ≤ 20 * (M / 2) := Nat.mul_le_mul_right _ (by omega)
      have hM2 : ((M : Nat) : Int).tdiv 2 = ((M / 2 : Nat) : Int) := by rw [Int.tdiv_eq_ediv_of_nonneg (by omega)]; omega
      have hKM : ((K : Nat) : Int) * ((M / 2 : Nat) : Int) = ((K * (M / 2) : Nat) : Int) := by rw [Int.natCast_mul]
      (refine gw ?_; refine Choice.mk ⟨false, Choice.mk ⟨false, _, _, c1, ?_⟩⟩)
      (refine gw ?_; refine Choice.mk ⟨false, Choice.mk ⟨false, _, _, c2, ?_⟩⟩)
      (refine gw ?_; refine Choice.mk ⟨false, Choice.mk ⟨false, _, _, c3, ?_⟩⟩)
      (refine gw ?_)
      rw [hsl]
      (refine gw ?_; refine Choice.mk ⟨false, Choice.mk ⟨false, _, _, c4, ?_⟩⟩)
      have hdiv : ((N : Nat) : Int).tdiv ((G : Nat) : Int) = ((N / G : Nat) : Int) := by rw [Int.tdiv_eq_ediv_of_nonneg (by omega)]; omega
      have hdle := Nat.div_le_self N G
      have hd0 : (0 : Int) ≤ ((N / G : Nat) : Int) := Int.natCast_nonneg _
      (refine gw ?_)
      (refine gw ?_; refine Choice.mk ⟨false, Choice.mk ⟨true, _, _, c5, ?_⟩⟩)
      (refine gw ?_)
      rw [hsr]
      (refine gw ?_)
      rw [hKM]
      (refine gw ?_)
      have hH : (M : Int) + ((K * (M / 2) : Nat) : Int) = ((M + K * (M / 2) : Nat) : Int) := by omega
      rw [hH]
      (refine gw ?_; first | refine IfB.dec (fun h6 => ?_) (fun h6 => ?_) | refine IfB.eq (fun h6 => ?_) (fun h6 => ?_) | refine IfB.ne (fun h6 => ?_) (fun h6 => ?_) | refine IfB.mk (fun h6 => ?_) (fun h6 => ?_))
      · rw [show ofF ⟨g, l, m, p, b, s⟩ = (cf0, 1) by unfold ofF; rw [if_neg (by rw [hcf]; simp only; omega)]]
        (refine gw ?_; exact RetN.mk ⟨[], rfl, rfl, rfl⟩)
      · rw [show ofF ⟨g, l, m, p, b, s⟩ = (cfOf ⟨g, l, m, p, b, s⟩, 0) by unfold ofF; rw [if_pos ⟨hok, by rw [hcf]; simp only; omega⟩], hcf]
        (refine gw ?_; refine RetN.mk ⟨[], rfl, ?_, rfl⟩)
        rw [show b = ((b.toNat : Nat) : Int) by omega, show s = ((s.toNat : Nat) : Int) by omega]
        rfl

    · rw [bad (by rw [hr]; simp; omega)]
      by_cases h2 : b < 0
      · (refine gw ?_; refine IfB.tt (by simp; omega) ?_)
        (refine gw ?_; exact RetN.mk ⟨[], rfl, rfl, rfl⟩)
      (refine gw ?_; refine IfB.ff (by simp; omega) ?_)
      by_cases h3 : b > 65536
      · (refine gw ?_; refine IfB.tt (by simp; omega) ?_)
        (refine gw ?_; exact RetN.mk ⟨[], rfl, rfl, rfl⟩)
      (refine gw ?_; refine IfB.ff (by simp; omega) ?_)
      by_cases h4 : s < 0
      · (refine gw ?_; refine IfB.tt (by simp; omega) ?_)
        (refine gw ?_; exact RetN.mk ⟨[], rfl, rfl, rfl⟩)
      (refine gw ?_; refine IfB.ff (by simp; omega) ?_)
      (refine gw ?_; refine IfB.tt (by simp; omega) ?_)
      (refine gw ?_; exact RetN.mk ⟨[], rfl, rfl, rfl⟩)
  · have hin : ([g, l, m, p] : List Int).all inR = false := by simpa using hin
    rw [bad (by rw [hr0, hin]; simp)]
    rw [hin]
    (refine gw ?_; exact RetN.mk ⟨[], rfl, rfl, rfl⟩)
end Go.Ev.W
namespace Go.Ev.W
open Go.Ev Go.Ev.N

/-- A heap, as it lies: what there is, the engine, blocks, figures, how many meet each page, which pages are there, bytes. -/
def hpV (c : Cf) (g cl : Nat) (b : Nat → Bool) (m : List M) (live peak mark : Int) (on : List Bool) : AV :=
  .agg [i64 c.G, i64 c.N, i64 c.M, i64 c.L, i64 c.Pg, i64 c.P, i64 c.H, i64 c.Sd, i64 c.G, .lst t_api_Tree (tL g cl b), .lst t_api_Mark (m.map encM), .mp 1, i64 live, i64 peak, i64 mark, .ref 2, .lst t_bool (on.map .bool), .ref 3]
def encS (ds : List Bk) : List (AV × AV) := ds.map fun x => (.agg [i64 x.a], eB x)
def hpL (c : Cf) (g cl : Nat) (b : Nat → Bool) (m : List M) (live peak mark : Int) (on : List Bool) (ds : List Bk) (met : List Int) (mem : List Nat) : List Blk :=
  [.var (hpV c g cl b m live peak mark on), .map t_heap_start (encS ds), .row t_int (met.map i64), .row t_uint8 (mem.map u8)]
def pagesF (met : List Int) : List Bool := met.map fun n => decide (n > 0)
/-- The same, as far as so many. -/
def pgP (met : List Int) (k : Nat) : List Bool := (List.range met.length).map fun i => decide (i < k) && decide (met.getD i 0 > 0)
theorem pgP_len (met : List Int) (k : Nat) : (pgP met k).length = met.length := by simp [pgP]
theorem pgP_zero (met : List Int) : pgP met 0 = List.replicate met.length false := by
  apply List.ext_getElem (by simp [pgP])
  intro i h1 h2
  simp [pgP]
theorem pgP_end (met : List Int) : pgP met met.length = pagesF met := by
  apply List.ext_getElem (by simp [pgP, pagesF])
  intro i h1 h2
  have hi : i < met.length := by rw [pgP_len] at h1; exact h1
  simp [pgP, pagesF, hi, List.getD_eq_getElem?_getD]
theorem pgP_set {met : List Int} {k : Nat} (h : k < met.length) : (pgP met k).set k (decide (met[k] > 0)) = pgP met (k + 1) := by
  apply List.ext_getElem (by simp [pgP])
  intro i h1 h2
  have hi : i < met.length := by rw [pgP_len] at h2; exact h2
  rw [List.getElem_set]
  simp only [pgP, List.getElem_map, List.getElem_range]
  split
  · rename_i e; subst e
    rw [decide_eq_true (show k < k + 1 by omega), Bool.true_and, List.getD_eq_getElem?_getD, List.getElem?_eq_getElem h]; rfl
  · rename_i e
    rw [show decide (i < k + 1) = decide (i < k) from decide_eq_decide.2 (by omega)]
set_option maxRecDepth 20000 in
set_option maxHeartbeats 1000000 in
theorem hpPages_told (c : Cf) (g cl : Nat) (b : Nat → Bool) (m : List M) (live peak mark : Int) (on : List Bool) (ds : List Bk) (met : List Int) (mem : List Nat) (hl : met.length ≤ 65536) :
    Told P T heap_Heap_pages (hpL c g cl b m live peak mark on ds met mem) [.ptr 0 0 0] (lT (pagesF met)) (hpL c g cl b m live peak mark on ds met mem) := by
  have hml : (met.map i64).length = met.length := by simp
  unfold hpL hpV
  refine told_of_ev (fn := heap_Heap_pages_fn) tabOk mixed (by kernel_rfl) (by kernel_rfl) (by kernel_rfl) (by kernel_rfl) ?_
  (refine gw ?_)
  rw [hml]
  refine Room.mk (by omega) ?_
  have hz : List.replicate ((met.length : Nat) : Int).toNat (zeroE T t_bool) = (pgP met 0).map AV.bool := by rw [Int.toNat_natCast, pgP_zero, List.map_replicate]; rfl
  (refine gw ?_; refine LoopN.mk ⟨[3,15,16,17], fun vs L => ∃ k : Nat, vs = [.ref 4, .ref 2, i64 (met.map i64).length, i64 k] ∧ L = [.var (hpV c g cl b m live peak mark on), .map t_heap_start (encS ds), .row t_int (met.map i64), .row t_uint8 (mem.map u8), .row t_bool ((pgP met k).map .bool)] ∧ k ≤ met.length, fun vs L => match vs with | [_, _, _, .int _ i] => met.length - i.toNat | _ => 0, [], [5], rfl, ⟨0, rfl, by rw [← hz]; rfl, by omega⟩, ?_⟩)
  rintro vs L ⟨k, rfl, rfl, hk⟩
  have hpl : ((pgP met k).map AV.bool).length = met.length := by rw [List.length_map, pgP_len]
  by_cases hkl : k < met.length
  · have hs := pgP_set hkl
    have hx : ∀ Q : AV → Prop, Q (i64 met[k]) → At (met.map i64) ((k : Nat) : Int).toNat Q := fun Q q => at_map hkl q
    (refine gw ?_; refine IfB.tt (by rw [hml]; simp; omega) ?_)
    (refine gw ?_)
    refine hx _ ?_
    (refine gw ?_; refine ⟨[], [4], rfl, ⟨k + 1, rfl, by rw [← hs, List.map_set]; rfl, hkl⟩, (by omega : met.length - ((k : Int) + 1).toNat < met.length - (k : Int).toNat)⟩)
  · obtain rfl : k = met.length := by omega
    rw [pgP_end]
    (refine gw ?_)
    exact RetN.fz ⟨[true], [], rfl, rfl, rfl⟩
end Go.Ev.W
namespace Go.Ev.W
open Go.Ev Go.Ev.N

/-- Pages that are met by one more, or less. -/
def metA (met : List Int) (f k : Nat) (v : Int) : List Int := (List.range met.length).map fun i => if f ≤ i ∧ i < k then met.getD i 0 + v else met.getD i 0
theorem metA_len (met : List Int) (f k : Nat) (v : Int) : (metA met f k v).length = met.length := by simp [metA]
theorem metA_none (met : List Int) (f : Nat) (v : Int) : metA met f f v = met := by
  apply List.ext_getElem (by simp [metA])
  intro i h1 h2
  simp only [metA, List.getElem_map, List.getElem_range]
  rw [if_neg (by omega), List.getD_eq_getElem?_getD, List.getElem?_eq_getElem h2]; rfl
theorem metA_get {met : List Int} {f k : Nat} {v : Int} (h : k < met.length) : (metA met f k v)[k]'(by rw [metA_len]; exact h) = met.getD k 0 := by
  simp only [metA, List.getElem_map, List.getElem_range]
  rw [if_neg (by omega)]
theorem metA_set {met : List Int} {f k : Nat} {v : Int} (hf : f ≤ k) (h : k < met.length) : (metA met f k v).set k (met.getD k 0 + v) = metA met f (k + 1) v := by
  apply List.ext_getElem (by simp [metA])
  intro i h1 h2
  rw [List.getElem_set]
  simp only [metA, List.getElem_map, List.getElem_range]
  split
  · rename_i e; subst e; rw [if_pos (by omega)]
  · rename_i e
    by_cases hq : f ≤ i ∧ i < k
    · rw [if_pos hq, if_pos (by omega)]
    · rw [if_neg hq, if_neg (by omega)]
set_option maxRecDepth 20000 in
set_option maxHeartbeats 2000000 in
theorem hpMeets_told (c : Cf) (g cl : Nat) (b : Nat → Bool) (m : List M) (live peak mark : Int) (on : List Bool) (ds : List Bk) (met : List Int) (mem : List Nat) (hl : met.length ≤ 65536) (hpg : 1 ≤ c.Pg) (y n : Nat) (q : Int) (hn : 1 ≤ n) (hyn : y + n ≤ 1000000) (v : Int) (hv : -1 ≤ v ∧ v ≤ 1) (hb : ∀ i, -1000000 ≤ met.getD i 0 ∧ met.getD i 0 ≤ 1000000) (hfit : (y + n - 1) / c.Pg + 1 ≤ met.length) :
    Told P T heap_Heap_meets (hpL c g cl b m live peak mark on ds met mem) [.ptr 0 0 0, .agg [i64 y, i64 n, i64 q], i64 v] (.tup []) (hpL c g cl b m live peak mark on ds (metA met (y / c.Pg) ((y + n - 1) / c.Pg + 1) v) mem) := by
  have c1 := pinPages_told (pg := c.Pg) hpg hn hyn
  have hfb : y / c.Pg ≤ (y + n - 1) / c.Pg + 1 := by
    have : y / c.Pg ≤ (y + n - 1) / c.Pg := Nat.div_le_div_right (by omega)
    omega
  have hnone := metA_none met (y / c.Pg) v
  unfold hpL hpV
  generalize y / c.Pg = f at *
  generalize (y + n - 1) / c.Pg + 1 = e at *
  refine told_of_ev (fn := heap_Heap_meets_fn) tabOk mixed (by kernel_rfl) (by kernel_rfl) (by kernel_rfl) (by kernel_rfl) ?_
  (refine gw ?_; refine Choice.mk ⟨false, Choice.mk ⟨false, _, _, c1, ?_⟩⟩)
  (refine gw ?_; refine LoopN.mk ⟨[0,2,7,8], fun vs L => ∃ k : Nat, vs = [.ptr 0 0 0, i64 v, i64 e, i64 k] ∧ L = [.var (hpV c g cl b m live peak mark on), .map t_heap_start (encS ds), .row t_int ((metA met f k v).map i64), .row t_uint8 (mem.map u8)] ∧ f ≤ k ∧ k ≤ e, fun vs L => match vs with | [_, _, _, .int _ i] => e - i.toNat | _ => 0, [], [], rfl, ⟨f, rfl, by rw [hnone]; rfl, by omega, hfb⟩, ?_⟩)
  rintro vs L ⟨k, rfl, rfl, hk1, hk2⟩
  have hml : ((metA met f k v).map i64).length = met.length := by rw [List.length_map, metA_len]
  have hif : (if ((met.length : Nat) : Int) < (e : Int) then ((met.length : Nat) : Int) else (e : Int)) = e := if_neg (by omega)
  (refine gw ?_)
  rw [hml, hif]
  by_cases hke : k < e
  · have hkl : k < (metA met f k v).length := by rw [metA_len]; omega
    have hx : ∀ Q : AV → Prop, Q (i64 (met.getD k 0)) → At ((metA met f k v).map i64) ((k : Nat) : Int).toNat Q := fun Q q => at_map (k := k) hkl (by rw [metA_get (by omega)]; exact q)
    have hset := metA_set (v := v) hk1 (show k < met.length by omega)
    have hbk := hb k
    (refine gw ?_; refine IfB.tt (by simp; omega) ?_)
    (refine gw ?_)
    refine hx _ ?_
    (refine gw ?_; refine ⟨[], [], rfl, ⟨k + 1, rfl, by rw [← hset, List.map_set]; rfl, by omega, hke⟩, (by omega : e - ((k : Int) + 1).toNat < e - (k : Int).toNat)⟩)
  · obtain rfl : k = e := by omega
    (refine gw ?_; exact RetN.mk ⟨[], rfl, rfl, rfl⟩)
end Go.Ev.W
namespace Go.Ev.W
open Go.Ev Go.Ev.N

def getS (y : Int) : List Bk → Option Bk
  | [] => none
  | x :: l => if y = x.a then some x else getS y l
def setS (x : Bk) : List Bk → List Bk
  | [] => [x]
  | z :: l => if x.a = z.a then x :: l else z :: setS x l
def delS (y : Int) : List Bk → List Bk
  | [] => []
  | x :: l => if y = x.a then l else x :: delS y l
theorem eqS (a b : Int) : eqKey (.agg [i64 a]) (.agg [i64 b]) = decide (a = b) := by
  show ((a == b) && true) = _
  rw [Bool.and_true]
  by_cases h : a = b
  · rw [decide_eq_true h, h]; exact beq_self_eq_true _
  · rw [decide_eq_false h]; exact beq_eq_false_iff_ne.2 h
theorem mget_encS (y : Int) : ∀ ds, mget (encS ds) (.agg [i64 y]) = (getS y ds).map eB
  | [] => rfl
  | x :: ds => by
    show (bif eqKey (.agg [i64 y]) (.agg [i64 x.a]) then some (eB x) else mget (encS ds) (.agg [i64 y])) = _
    rw [eqS, mget_encS y ds]
    show _ = (if y = x.a then some x else getS y ds).map eB
    by_cases h : y = x.a
    · rw [decide_eq_true h, if_pos h]; rfl
    · rw [decide_eq_false h, if_neg h]; rfl
theorem mset_encS (x : Bk) : ∀ ds, mset (encS ds) (.agg [i64 x.a]) (eB x) = encS (setS x ds)
  | [] => rfl
  | z :: ds => by
    show (bif eqKey (.agg [i64 x.a]) (.agg [i64 z.a]) then (.agg [i64 x.a], eB x) :: encS ds else (.agg [i64 z.a], eB z) :: mset (encS ds) (.agg [i64 x.a]) (eB x)) = _
    rw [eqS, mset_encS x ds]
    show _ = encS (if x.a = z.a then x :: ds else z :: setS x ds)
    by_cases h : x.a = z.a
    · rw [decide_eq_true h, if_pos h]; rfl
    · rw [decide_eq_false h, if_neg h]; rfl
theorem mdel_encS (y : Int) : ∀ ds, mdel (encS ds) (.agg [i64 y]) = encS (delS y ds)
  | [] => rfl
  | x :: ds => by
    show (bif eqKey (.agg [i64 y]) (.agg [i64 x.a]) then encS ds else (.agg [i64 x.a], eB x) :: mdel (encS ds) (.agg [i64 y])) = _
    rw [eqS, mdel_encS y ds]
    show _ = encS (if y = x.a then ds else x :: delS y ds)
    by_cases h : y = x.a
    · rw [decide_eq_true h, if_pos h]; rfl
    · rw [decide_eq_false h, if_neg h]; rfl
set_option maxRecDepth 20000 in
set_option maxHeartbeats 2000000 in
theorem hpBack_told (c : Cf) (g cl : Nat) (b b2 : Nat → Bool) (m m2 : List M) (live peak mark : Int) (on : List Bool) (ds : List Bk) (met : List Int) (mem : List Nat) (hl : met.length ≤ 65536) (hpg : 1 ≤ c.Pg) (y n : Nat) (q : Int) (hn : 1 ≤ n) (hyn : y + n ≤ 1000000) (hb : ∀ i, -1000000 ≤ met.getD i 0 ∧ met.getD i 0 ≤ 1000000) (hfit : (y + n - 1) / c.Pg + 1 ≤ met.length) (hlv : 0 ≤ live ∧ live ≤ 1000000) :
    Told P T heap_Heap_back (hpL c g cl b m live peak mark on ds met mem) [.ptr 0 0 0, .agg [i64 y, i64 n, i64 q], eE c.G g cl b2 m2] (.tup []) (hpL c g cl b2 m2 (live + n) peak mark on (setS ⟨y, n, q⟩ ds) (metA met (y / c.Pg) ((y + n - 1) / c.Pg + 1) 1) mem) := by
  have c1 := hpMeets_told c g cl b2 m2 live peak mark on (setS ⟨y, n, q⟩ ds) met mem hl hpg y n q hn hyn 1 (by omega) hb hfit
  have hms := mset_encS ⟨y, n, q⟩ ds
  unfold hpL hpV at *
  rw [← hms] at c1 ⊢
  refine told_of_ev (fn := heap_Heap_back_fn) tabOk mixed (by kernel_rfl) (by kernel_rfl) (by kernel_rfl) (by kernel_rfl) ?_
  (refine gw ?_; refine Choice.mk ⟨true, Choice.mk ⟨false, _, _, c1, ?_⟩⟩)
  (refine gw ?_)
  (refine gw ?_; exact RetN.mk ⟨[], rfl, rfl, rfl⟩)
set_option maxRecDepth 20000 in
set_option maxHeartbeats 2000000 in
theorem hpGone_told (c : Cf) (g cl : Nat) (b : Nat → Bool) (m : List M) (he : EgOk c.G g cl m) (live peak mark : Int) (on : List Bool) (ds : List Bk) (met : List Int) (mem : List Nat) (hl : met.length ≤ 65536) (hpg : 1 ≤ c.Pg) (y n : Nat) (q : Int) (hn : 1 ≤ n) (hyn : y + n ≤ 1000000) (hb : ∀ i, -1000000 ≤ met.getD i 0 ∧ met.getD i 0 ≤ 1000000) (hfit : (y + n - 1) / c.Pg + 1 ≤ met.length) (hlv : 0 ≤ live ∧ live ≤ 1000000) :
    Told P T heap_Heap_gone (hpL c g cl b m live peak mark on ds met mem) [.ptr 0 0 0, .agg [i64 y, i64 n, i64 q]] (.tup []) (hpL c g cl (relB c.G b m y) (relL m y) (live - n) peak mark on (delS y ds) (metA met (y / c.Pg) ((y + n - 1) / c.Pg + 1) (-1)) mem) := by
  have c0 := plRel_told he (b := b) y (by omega)
  have c1 := hpMeets_told c g cl (relB c.G b m y) (relL m y) live peak mark on (delS y ds) met mem hl hpg y n q hn hyn (-1) (by omega) hb hfit
  have hms := mdel_encS y ds
  unfold hpL hpV at *
  unfold eE at *
  rw [← hms] at c1 ⊢
  refine told_of_ev (fn := heap_Heap_gone_fn) tabOk mixed (by kernel_rfl) (by kernel_rfl) (by kernel_rfl) (by kernel_rfl) ?_
  (refine gw ?_; refine Choice.mk ⟨false, Choice.mk ⟨false, _, _, c0, ?_⟩⟩)
  (refine gw ?_; refine Choice.mk ⟨true, Choice.mk ⟨false, _, _, c1, ?_⟩⟩)
  (refine gw ?_; exact RetN.mk ⟨[], rfl, rfl, rfl⟩)
end Go.Ev.W
namespace Go.Ev.W
open Go.Ev Go.Ev.N

theorem confShift_told {c : Cf} (hg : 1 ≤ c.G) {k : Nat} (hk : k ≤ c.L) (hb : c.G * 2 ^ k ≤ 65536) : Told P T conf_Shift [] [eC c, i64 (c.G * 2 ^ k : Nat)] (.tup [i64 k, .bool true]) [] := by
  have hp : 0 < 2 ^ k := Nat.pow_pos (by omega)
  have hge : c.G ≤ c.G * 2 ^ k := Nat.le_mul_of_pos_right _ hp
  have hm : ((c.G * 2 ^ k : Nat) : Int).tmod (c.G : Int) = 0 := by
    rw [← Int.ofNat_tmod, Nat.mul_mod_right]; rfl
  have hd : ((c.G * 2 ^ k : Nat) : Int).tdiv (c.G : Int) = ((2 ^ k : Nat) : Int) := by
    rw [← Int.ofNat_tdiv, Nat.mul_div_cancel_left _ (by omega)]
  have hp2 : 2 ^ k ≤ 65536 := Nat.le_trans (Nat.le_mul_of_pos_left _ (by omega)) hb
  have c1 := calcLog_told ((2 ^ k : Nat) : Int) (by omega)
  rw [logF_pow] at c1
  generalize hx : c.G * 2 ^ k = x at *
  generalize 2 ^ k = p at *
  have hne : ((c.G : Nat) : Int) ≠ 0 := by omega
  unfold eC
  refine told_of_ev (fn := conf_Shift_fn) tabOk mixed (by kernel_rfl) (by kernel_rfl) (by kernel_rfl) (by kernel_rfl) ?_
  (refine gw ?_; refine IfB.ff (by simp; omega) ?_)
  (refine gw ?_; refine IfB.ff (by simp; omega) ?_)
  (refine gw ?_)
  rw [hm]
  (refine gw ?_)
  rw [hd]
  (refine gw ?_; refine Choice.mk ⟨false, Choice.mk ⟨false, _, _, c1, ?_⟩⟩)
  (refine gw ?_; refine IfB.ff (by simp; omega) ?_)
  (refine gw ?_; exact RetN.mk ⟨[], rfl, rfl, rfl⟩)
theorem classClass_told {c : Cf} (hg : 1 ≤ c.G) {k : Nat} (hk : k ≤ c.L) (hb : c.G * 2 ^ k ≤ 65536) : Told P T class_Class [] [eC c, i64 (c.G * 2 ^ k : Nat)] (.tup [i64 k, .bool true]) [] := by
  have c1 := confShift_told hg hk hb
  unfold eC at *
  refine told_of_ev (fn := class_Class_fn) tabOk mixed (by kernel_rfl) (by kernel_rfl) (by kernel_rfl) (by kernel_rfl) ?_
  (refine gw ?_; refine Choice.mk ⟨false, Choice.mk ⟨false, _, _, c1, ?_⟩⟩)
  (refine gw ?_; exact RetN.mk ⟨[], rfl, rfl, rfl⟩)
end Go.Ev.W
