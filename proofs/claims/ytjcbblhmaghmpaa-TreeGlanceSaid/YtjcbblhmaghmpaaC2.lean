/- Words and lemmas, part 2, for laws of this seat (a part of their proofs). -/
import Derived.Test.YtjcbblhmaghmpaaC1
set_option linter.unusedVariables false
set_option linter.unusedSimpArgs false
namespace Go.Ev.W
open Go.Ev Go.Ev.N

/-- A level's words while they are made. -/
def prW (m : Nat) (c : Nat → Bool) (i k : Nat) : Nat := wB 64 fun j => decide (64 * k + j < i) && (decide (m ≤ 64 * k + j) || c (64 * k + j))
def prT (m : Nat) (c : Nat → Bool) (i : Nat) : List Nat := (List.range ((m - 1) / 64 + 1)).map (prW m c i)
theorem prT_len (m : Nat) (c : Nat → Bool) (i : Nat) : (prT m c i).length = (m - 1) / 64 + 1 := by simp [prT]
theorem prT_get {m i k : Nat} {c : Nat → Bool} (h : k < (prT m c i).length) : (prT m c i)[k] = prW m c i k := by simp [prT]
theorem prW_lt (m : Nat) (c : Nat → Bool) (i k : Nat) : prW m c i k < 2 ^ 64 := wB_lt _ _
theorem prT_zero (m : Nat) (c : Nat → Bool) : prT m c 0 = List.replicate ((m - 1) / 64 + 1) 0 := by
  apply List.ext_getElem (by simp [prT_len])
  intro k h1 h2
  rw [prT_get, List.getElem_replicate]
  unfold prW
  conv => rhs; rw [← zero_eq]
  exact wB_congr fun j _ => by rw [decide_eq_false (show ¬ 64 * k + j < 0 by omega)]; rfl
theorem prT_end (m : Nat) (c : Nat → Bool) : prT m c (64 * ((m - 1) / 64 + 1)) = rowT m c := by
  apply List.ext_getElem (by rw [prT_len, rowT_len])
  intro k h1 h2
  have hk : k < (m - 1) / 64 + 1 := by rw [prT_len] at h1; exact h1
  rw [prT_get, rowT_get]
  unfold prW wdT
  exact wB_congr fun j hj => by rw [decide_eq_true (show 64 * k + j < 64 * ((m - 1) / 64 + 1) by omega), Bool.true_and]
theorem prT_no {m i : Nat} {c : Nat → Bool} (h : i < m) (hc : c i = false) : prT m c (i + 1) = prT m c i := by
  apply List.ext_getElem (by rw [prT_len, prT_len])
  intro k h1 h2
  rw [prT_get, prT_get]
  unfold prW
  refine wB_congr fun j hj => ?_
  by_cases e : 64 * k + j = i
  · rw [e, decide_eq_false (show ¬ m ≤ i by omega), hc]; simp
  · rw [show decide (64 * k + j < i + 1) = decide (64 * k + j < i) from decide_eq_decide.2 (by omega)]
theorem prT_yes {m i : Nat} {c : Nat → Bool} (h : m ≤ i ∨ c i = true) : (prT m c i).set (i / 64) (prW m c i (i / 64) ||| 2 ^ (i % 64)) = prT m c (i + 1) := by
  apply List.ext_getElem (by rw [List.length_set, prT_len, prT_len])
  intro k h1 h2
  rw [List.getElem_set, prT_get, prT_get]
  split
  · rename_i e
    subst e
    apply Nat.eq_of_testBit_eq
    intro j
    rw [Nat.testBit_or, pow_bit]
    unfold prW
    rw [wB_bit, wB_bit]
    by_cases hj : j < 64
    · rw [decide_eq_true hj, Bool.true_and, Bool.true_and]
      by_cases e : j = i % 64
      · rw [decide_eq_true e, show 64 * (i / 64) + j = i by omega, decide_eq_true (show i < i + 1 by omega)]
        rcases h with h | h <;> simp [h]
      · rw [decide_eq_false e, show decide (64 * (i / 64) + j < i + 1) = decide (64 * (i / 64) + j < i) from decide_eq_decide.2 (by omega), Bool.or_false]
    · rw [decide_eq_false hj, decide_eq_false (show ¬ j = i % 64 by omega)]; rfl
  · rename_i e
    unfold prW
    refine wB_congr fun j hj => ?_
    rw [show decide (64 * k + j < i + 1) = decide (64 * k + j < i) from decide_eq_decide.2 (by omega)]
theorem bitR_at {m i : Nat} {c : Nat → Bool} (h : i < m) {Q : AV → Prop} (q : Q (.bool (c i))) : At (bitR m c) ((i : Nat) : Int).toNat Q := by
  unfold bitR
  refine at_map (k := i) (by simpa using h) ?_
  rw [List.getElem_map, List.getElem_range]; exact q
theorem bitR_idx {m i : Nat} {c : Nat → Bool} (h : i < m) {Q : AV → Prop} (q : Q (.bool (c i))) : Idx (bitR m c) ((i : Nat) : Int) Q := by
  unfold bitR
  refine idx_map (k := i) (by simpa using h) ?_
  rw [List.getElem_map, List.getElem_range]; exact q
theorem upT_sucB {n l : Nat} (b : Nat → Bool) (h : l < hT n) : upT n b (l + 1) = upT n b l ++ [rowT (szT n l) (btT n b l)] := by
  have hl : l < (lvT n b).length := by rw [lvT_len]; exact h
  unfold upT
  rw [List.take_succ_eq_append_getElem hl]
  congr 2
  exact tabV_get hl
/-- A level's bits while they are made. -/
def haB (c : Nat → Bool) (i : Nat) : Nat → Bool := fun k => decide (k < i) && c k
theorem haB_zero (m : Nat) (c : Nat → Bool) : bitR m (haB c 0) = List.replicate m (.bool false) := by
  apply List.ext_getElem (by simp [bitR_len])
  intro k h1 h2
  simp [bitR, haB]
theorem haB_end (m : Nat) (c : Nat → Bool) : bitR m (haB c m) = bitR m c := by
  unfold bitR
  congr 1
  apply List.map_congr_left
  intro k hk
  have : k < m := by simpa using hk
  unfold haB
  rw [decide_eq_true this, Bool.true_and]
theorem haB_set {m i : Nat} (c : Nat → Bool) : (bitR m (haB c i)).set i (.bool (c i)) = bitR m (haB c (i + 1)) := by
  apply List.ext_getElem (by simp [bitR_len])
  intro k h1 h2
  rw [List.getElem_set]
  split
  · rename_i e; subst e; simp [bitR, haB]
  · rename_i e
    simp only [bitR, haB, List.getElem_map, List.getElem_range]
    rw [show decide (k < i + 1) = decide (k < i) from decide_eq_decide.2 (by omega)]

theorem prT_atQ {m i k : Nat} {c : Nat → Bool} (h : k < (m - 1) / 64 + 1) {Q : AV → Prop} (q : Q (u64 (prW m c i k))) : At ((prT m c i).map u64) ((k : Nat) : Int).toNat Q := by
  refine at_map (k := k) (by rw [prT_len]; exact h) ?_
  rw [prT_get]; exact q
theorem prT_or {m i k j : Nat} {c : Nat → Bool} (hj : j < 64) : bitsOp .or .u64 ((prW m c i k : Nat) : Int) ((2 ^ j : Nat) : Int) = ((prW m c i k ||| 2 ^ j : Nat) : Int) := or64 (prW_lt _ _ _ _) (pow_lt64 hj)
theorem prT_stepU {m i : Nat} {c : Nat → Bool} (h : m ≤ i ∨ c i = true) : ((prT m c i).map u64).set (i / 64) (u64 (prW m c i (i / 64) ||| 2 ^ (i % 64))) = (prT m c (i + 1)).map u64 := by
  rw [← prT_yes h, List.map_set]

theorem bitR_congr {m : Nat} {f g : Nat → Bool} (h : ∀ k, k < m → f k = g k) : bitR m f = bitR m g := by
  unfold bitR
  exact congrArg _ (List.map_congr_left fun k hk => h k (by simpa using hk))
theorem wd_dec (w : Nat) : ((w : Int) == 18446744073709551615) = decide (w = FW) := by
  by_cases h : w = FW
  · rw [decide_eq_true h, h]; exact beq_self_eq_true _
  · rw [decide_eq_false h]
    refine beq_eq_false_iff_ne.2 fun e => h ?_
    show w = 18446744073709551615
    omega
set_option maxHeartbeats 20000000 in
theorem rMade_told {n : Nat} (hn : 1 ≤ n) (hn2 : n ≤ 65536) (b : Nat → Bool) : Told P T ref3_Made [] [i64 n, .lst t_bool (bitR n b)] (eTr n b) [] := by
  have hh := hT_le n
  have hl1 := hT_last hn hn2
  have hbl := bitR_len n b
  refine told_of_ev (fn := ref3_Made_fn) tabOk mixed (by kernel_rfl) (by kernel_rfl) (by kernel_rfl) (by kernel_rfl) ?_
  (refine gw ?_; refine IfB.ff (by simp; omega) ?_)
  (refine gw ?_; refine IfB.ff (by simp; omega) ?_)
  (refine gw ?_; refine IfB.ff (by rw [hbl]; simp; omega) ?_)
  (refine gw ?_)
  refine LoopN.mk ⟨[1, 4, 5], fun vs L => ∃ l : Nat, vs = [.lst t_bool (bitR (szT n l) (btT n b l)), .ptr 0 0 0, .ptr 1 0 0] ∧ L = [.var (.agg [i64 0, .und]), .var (.agg [i64 n, .ref 2]), .row ts_uint64 ((upT n b l).map lR)] ∧ l < hT n, fun vs L => match L with | [_, _, .row _ es] => hT n - es.length | _ => 0, [], [0, 2, 4], rfl, ⟨0, rfl, rfl, by omega⟩, ?_⟩
  rintro vs L ⟨l, rfl, rfl, hl⟩
  have c1 := rNewRow_told (m := szT n l) (szT_pos hn l) (by have := szT_le_n hn l; omega)
  rw [← prT_zero (szT n l) (btT n b l)] at c1
  have hm := bitR_len (szT n l) (btT n b l)
  have hsz := szT_le_n hn l
  have hsp := szT_pos hn l
  have hul := upT_len b (Nat.le_of_lt hl)
  have hus := upT_sucB b hl
  generalize hmm : szT n l = m at *
  generalize hcc : btT n b l = c at *
  have hm2 : (((bitR m c).length : Nat) : Int) = (m : Int) := by rw [hm]
  (refine gw ?_)
  rw [hm]
  (refine gw ?_; refine Choice.mk ⟨false, Choice.mk ⟨false, _, _, c1, ?_⟩⟩)
  have hpl : ((prT m c 0).map u64).length = (m - 1) / 64 + 1 := by rw [List.length_map, prT_len]
  (refine gw ?_; refine LoopN.mk ⟨[1,4,5,6,7], fun vs L => ∃ i : Nat, vs = [.lst t_bool (bitR m c), .ptr 0 0 0, .ptr 1 0 0, .ref 3, i64 i] ∧ L = [.var (.agg [i64 0, .und]), .var (.agg [i64 n, .ref 2]), .row ts_uint64 ((upT n b l).map lR), .row t_uint64 ((prT m c i).map u64)] ∧ i ≤ 64 * ((m - 1) / 64 + 1), fun vs L => match vs with | [_, _, _, _, .int _ i] => 64 * ((m - 1) / 64 + 1) - i.toNat | _ => 0, [], [0,1,2,3], rfl, ⟨0, rfl, rfl, by omega⟩, ?_⟩)
  rintro vs L ⟨i, rfl, rfl, hi⟩
  have hpl : ((prT m c i).map u64).length = (m - 1) / 64 + 1 := by rw [List.length_map, prT_len]
  have hdi : ((i : Nat) : Int).tdiv 64 = ((i / 64 : Nat) : Int) := (Int.ofNat_tdiv i 64).symm
  have hmi : ((i : Nat) : Int).tmod 64 = ((i % 64 : Nat) : Int) := by rw [Int.tmod_eq_emod_of_nonneg (by omega)]; omega
  by_cases h1 : i < 64 * ((m - 1) / 64 + 1)
  · (refine gw ?_)
    rw [hpl]
    (refine gw ?_)
    (refine gw ?_; refine IfB.tt (by simp; omega) ?_)
    have hsl := shl1 (k := i % 64) (by omega)
    have hor := prT_or (m := m) (i := i) (k := i / 64) (c := c) (show i % 64 < 64 by omega)
    have hpl64 := pow_lt64 (k := i % 64) (by omega)
    have hst := fun h => prT_stepU (m := m) (c := c) (i := i) h
    generalize 2 ^ (i % 64) = pw at *
    by_cases h2 : m ≤ i
    · have hst := hst (.inl h2)
      (refine gw ?_; refine IfB.tt (by rw [hm]; simp; omega) ?_)
      (refine gw ?_)
      rw [hdi]
      refine prT_atQ (by omega) ?_
      (refine gw ?_)
      rw [hmi]
      (refine gw ?_)
      rw [hsl]
      (refine gw ?_)
      rw [hor]
      (refine gw ?_)
      rw [Int.toNat_natCast, hst]
      (refine gw ?_; refine ⟨[], [0,1,2,3], rfl, ⟨i + 1, rfl, rfl, by omega⟩, (by omega : 64 * ((m - 1) / 64 + 1) - ((i : Int) + 1).toNat < 64 * ((m - 1) / 64 + 1) - (i : Int).toNat)⟩)
    · (refine gw ?_; refine IfB.ff (by rw [hm]; simp; omega) ?_)
      (refine gw ?_)
      refine bitR_idx (i := i) (show i < m by omega) ?_
      cases hc : c i with
      | true =>
        have hst := hst (.inr hc)
        (refine gw ?_)
        rw [hdi]
        refine prT_atQ (by omega) ?_
        (refine gw ?_)
        rw [hmi]
        (refine gw ?_)
        rw [hsl]
        (refine gw ?_)
        rw [hor]
        (refine gw ?_)
        rw [Int.toNat_natCast, hst]
        (refine gw ?_; refine ⟨[], [0,1,2,3], rfl, ⟨i + 1, rfl, rfl, by omega⟩, (by omega : 64 * ((m - 1) / 64 + 1) - ((i : Int) + 1).toNat < 64 * ((m - 1) / 64 + 1) - (i : Int).toNat)⟩)
      | false =>
        have hst := prT_no (m := m) (by omega) hc
        (refine gw ?_; refine ⟨[], [0,1,2,3], rfl, ⟨i + 1, rfl, by rw [hst]; rfl, by omega⟩, (by omega : 64 * ((m - 1) / 64 + 1) - ((i : Int) + 1).toNat < 64 * ((m - 1) / 64 + 1) - (i : Int).toNat)⟩)
  · have e : i = 64 * ((m - 1) / 64 + 1) := by omega
    have hend := prT_end m c
    rw [← e] at hend
    rw [hend] at hpl ⊢
    (refine gw ?_)
    rw [hpl]
    (refine gw ?_)
    (refine gw ?_; refine IfB.ff (by simp; omega) ?_)
    (refine gw ?_)
    refine Choice.mk ⟨false, ?_⟩
    (refine gw ?_)
    refine Room.mk (by rw [List.length_map, hul]; simp; omega) ?_
    rw [show (upT n b l).map lR ++ [AV.lst t_uint64 ((rowT m c).map u64)] = (upT n b (l + 1)).map lR by rw [hus, List.map_append]; rfl]
    (refine gw ?_)
    have hrl : ((rowT m c).map u64).length = (m - 1) / 64 + 1 := by rw [List.length_map, rowT_len]
    rw [hrl]
    by_cases h5 : (m - 1) / 64 + 1 = 1
    · have hend2 : l + 1 = hT n := by
        by_cases e : l + 1 < hT n
        · have := hl1.2 l e; omega
        · omega
      have hall : upT n b (hT n) = lvT n b := by unfold upT; rw [← lvT_len n b, List.take_length]
      rw [hend2, hall]
      (refine gw ?_; refine IfB.tt (by simp; omega) ?_)
      (refine gw ?_)
      exact RetN.fz ⟨[true], [], rfl, rfl, rfl⟩
    · have hgo : l + 1 < hT n := by
        by_cases e : l + 1 = hT n
        · have := hl1.1; rw [← e] at this; rw [show l + 1 - 1 = l by omega, hmm] at this; omega
        · omega
      have hsu : szT n (l + 1) = (m - 1) / 64 + 1 := by rw [← hmm]; rfl
      have hbu : ∀ k, btT n b (l + 1) k = decide (wdT m c k = FW) := fun k => by rw [← hmm, ← hcc]; rfl
      (refine gw ?_; refine IfB.ff (by simp; omega) ?_)
      (refine gw ?_)
      refine Room.mk (by omega) ?_
      obtain ⟨g, hgk⟩ : ∃ g : Nat → Bool, ∀ k, g k = decide (wdT m c k = FW) := ⟨_, fun k => rfl⟩
      have hz : List.replicate ((((rowT m c).map u64).length : Nat) : Int).toNat (AV.bool false) = bitR ((m - 1) / 64 + 1) (haB g 0) := by rw [hrl, Int.toNat_natCast]; exact (haB_zero _ _).symm
      (refine gw ?_; refine LoopN.mk ⟨[1,4,5,6,8], fun vs L => ∃ i : Nat, vs = [.ref 3, .ptr 0 0 0, .ptr 1 0 0, .lst t_uint64 ((rowT m c).map u64), i64 i] ∧ L = [.var (.agg [i64 0, .und]), .var (.agg [i64 n, .ref 2]), .row ts_uint64 ((upT n b (l + 1)).map lR), .row t_bool (bitR ((m - 1) / 64 + 1) (haB g i))] ∧ i ≤ (m - 1) / 64 + 1, fun vs L => match vs with | [_, _, _, _, .int _ i] => (m - 1) / 64 + 1 - i.toNat | _ => 0, [6], [0,1,5,6], rfl, ⟨0, rfl, by (rw [← hz]; refine congr (congrArg List.cons ?_) (congr (congrArg List.cons ?_) (congr (congrArg List.cons ?_) (congr (congrArg List.cons ?_) ?_))) <;> (conv => lhs; whnf) <;> rfl), by omega⟩, ?_⟩)
      rintro vs L ⟨i, rfl, rfl, hi⟩
      by_cases h6 : i < (m - 1) / 64 + 1
      · have hset := haB_set (m := (m - 1) / 64 + 1) (i := i) g
        have hix : ∀ Q : AV → Prop, Q (u64 (wdT m c i)) → Idx ((rowT m c).map u64) ((i : Nat) : Int) Q := fun Q q => idx_map (k := i) (by rw [rowT_len]; exact h6) (by rw [rowT_get]; exact q)
        have hdec : (((wdT m c i : Nat) : Int) == 18446744073709551615) = g i := (wd_dec _).trans (hgk i).symm
        (refine gw ?_)
        rw [hrl]
        (refine gw ?_)
        (refine gw ?_; refine IfB.tt (by simp; omega) ?_)
        have hbl2 := bitR_len ((m - 1) / 64 + 1) (haB g i)
        (refine gw ?_)
        refine hix _ ?_
        (refine gw ?_)
        rw [hdec, Int.toNat_natCast, hset]
        (refine gw ?_; refine ⟨[], [0,1,2,3], rfl, ⟨i + 1, rfl, rfl, h6⟩, (by omega : (m - 1) / 64 + 1 - ((i : Int) + 1).toNat < (m - 1) / 64 + 1 - (i : Int).toNat)⟩)
      · have e : i = (m - 1) / 64 + 1 := by omega
        subst e
        have hbe : bitR ((m - 1) / 64 + 1) g = bitR (szT n (l + 1)) (btT n b (l + 1)) := by rw [hsu]; exact bitR_congr fun k _ => (hgk k).trans (hbu k).symm
        (refine gw ?_)
        rw [hrl]
        (refine gw ?_)
        have hbf := (haB_end ((m - 1) / 64 + 1) g).trans hbe
        (refine gw ?_)
        rw [hbf]
        have hml : ((upT n b (l + 1)).map lR).length = l + 1 := by rw [List.length_map, upT_len b (by omega)]
        have hml0 : ((upT n b l).map lR).length = l := by rw [List.length_map, hul]
        refine ⟨[1], [0, 1, 2], rfl, ⟨l + 1, rfl, rfl, hgo⟩, ?_⟩
        show hT n - ((upT n b (l + 1)).map lR).length < hT n - ((upT n b l).map lR).length
        omega
end Go.Ev.W
namespace Go.Ev.W
open Go.Ev Go.Ev.N

theorem bitR_set {m i : Nat} (c : Nat → Bool) (v : Bool) : (bitR m c).set i (.bool v) = bitR m (fun k => if k = i then v else c k) := by
  apply List.ext_getElem (by simp [bitR_len])
  intro k h1 h2
  rw [List.getElem_set]
  split
  · rename_i e; subst e; simp [bitR]
  · rename_i e
    simp only [bitR, List.getElem_map, List.getElem_range]
    rw [if_neg (by omega)]
def setC (b : Nat → Bool) (f m : Int) (on : Bool) (i : Nat) : Nat → Bool := fun x => if x < i then setZ b f m on x else b x
theorem rSetTree_told {n : Nat} (hn : 1 ≤ n) (hn2 : n ≤ 65536) (b : Nat → Bool) (f m : Int) (hf : -9223372036854775808 ≤ f ∧ f ≤ 9223372036854775807) (on : Bool) : Told P T ref3_SetTree [] [eTr n b, i64 f, i64 m, .bool on] (eTr n (setZ b f m on)) [] := by
  have c1 := rBits_told hn hn2 b
  have c2 := rMade_told hn hn2 (setZ b f m on)
  have h0 : bitR n b = bitR n (setC b f m on 0) := bitR_congr fun k _ => by unfold setC; rw [if_neg (by omega)]
  have hend : bitR n (setC b f m on n) = bitR n (setZ b f m on) := bitR_congr fun k h => by unfold setC; rw [if_pos h]
  rw [h0] at c1
  generalize hC : setC b f m on = C at *
  have hst : ∀ i, bitR n (fun k => if k = i then setZ b f m on i else C i k) = bitR n (C (i + 1)) := fun i => bitR_congr fun k _ => by
    rw [← hC]
    unfold setC
    by_cases e : k = i
    · subst e; rw [if_pos rfl, if_pos (by omega)]
    · rw [if_neg e]
      by_cases h : k < i
      · rw [if_pos h, if_pos (by omega)]
      · rw [if_neg h, if_neg (by omega)]
  have hno : ∀ i, setZ b f m on i = b i → bitR n (C (i + 1)) = bitR n (C i) := fun i h => by
    rw [← hst, h]
    refine bitR_congr fun k _ => ?_
    split
    · rename_i e; subst e; rw [← hC]; unfold setC; rw [if_neg (by omega)]
    · rfl
  clear hC
  refine told_of_ev (fn := ref3_SetTree_fn) tabOk mixed (by kernel_rfl) (by kernel_rfl) (by kernel_rfl) (by kernel_rfl) ?_
  (refine gw ?_; refine Choice.mk ⟨false, Choice.mk ⟨false, _, _, c1, ?_⟩⟩)
  (refine gw ?_; refine LoopN.mk ⟨[1,2,3,4,8,9,10], fun vs L => ∃ k : Nat, vs = [i64 f, i64 m, .bool on, .ptr 0 0 0, .ptr 1 0 0, .ref 2, i64 k] ∧ L = [.var (eTr n b), .var (.agg [i64 0, .und]), .row t_bool (bitR n (C k))] ∧ k ≤ n, fun vs L => match vs with | [_, _, _, _, _, _, .int _ i] => n - i.toNat | _ => 0, [], [0,1,3], rfl, ⟨0, rfl, rfl, by omega⟩, ?_⟩)
  rintro vs L ⟨k, rfl, rfl, hk⟩
  have hbl := bitR_len n (C k)
  by_cases h1 : k < n
  · (refine gw ?_; refine IfB.tt (by rw [hbl]; simp; omega) ?_)
    by_cases hin : 0 ≤ f ∧ f ≤ k ∧ (k : Int) < f + m
    · have hz : setZ b f m on k = on := by unfold setZ; rw [if_pos hin]
      have hs := hst k
      rw [hz, ← bitR_set] at hs
      (refine gw ?_; refine IfB.tt (by simp; omega) ?_)
      (refine gw ?_; refine IfB.tt (by simp; omega) ?_)
      (refine gw ?_; refine IfB.tt (by simp; omega) ?_)
      (refine gw ?_; refine IfB.tt (by simp; omega) ?_)
      (refine gw ?_)
      rw [Int.toNat_natCast, hs]
      (refine gw ?_; refine ⟨[], [0,1,2], rfl, ⟨k + 1, rfl, rfl, h1⟩, (by omega : n - ((k : Int) + 1).toNat < n - (k : Int).toNat)⟩)
    · have hz : setZ b f m on k = b k := by unfold setZ; rw [if_neg hin]
      have hs := hno k hz
      have fin : ∀ {A : Prop}, A → A := fun a => a
      by_cases h2 : f < 0
      · (refine gw ?_; refine IfB.ff (by simp; omega) ?_)
        (refine gw ?_; refine ⟨[], [0,1,2], rfl, ⟨k + 1, rfl, by rw [hs]; rfl, h1⟩, (by omega : n - ((k : Int) + 1).toNat < n - (k : Int).toNat)⟩)
      · (refine gw ?_; refine IfB.tt (by simp; omega) ?_)
        by_cases h3 : m < 0
        · (refine gw ?_; refine IfB.ff (by simp; omega) ?_)
          (refine gw ?_; refine ⟨[], [0,1,2], rfl, ⟨k + 1, rfl, by rw [hs]; rfl, h1⟩, (by omega : n - ((k : Int) + 1).toNat < n - (k : Int).toNat)⟩)
        · (refine gw ?_; refine IfB.tt (by simp; omega) ?_)
          by_cases h4 : f ≤ k
          · (refine gw ?_; refine IfB.tt (by simp; omega) ?_)
            (refine gw ?_; refine IfB.ff (by simp; omega) ?_)
            (refine gw ?_; refine ⟨[], [0,1,2], rfl, ⟨k + 1, rfl, by rw [hs]; rfl, h1⟩, (by omega : n - ((k : Int) + 1).toNat < n - (k : Int).toNat)⟩)
          · (refine gw ?_; refine IfB.ff (by simp; omega) ?_)
            (refine gw ?_; refine ⟨[], [0,1,2], rfl, ⟨k + 1, rfl, by rw [hs]; rfl, h1⟩, (by omega : n - ((k : Int) + 1).toNat < n - (k : Int).toNat)⟩)
  · have e : k = n := by omega
    subst e
    rw [hend] at hbl ⊢
    (refine gw ?_; refine IfB.ff (by rw [hbl]; simp) ?_)
    (refine gw ?_; refine Choice.mk ⟨false, Choice.mk ⟨false, _, _, c2, ?_⟩⟩)
    (refine gw ?_; exact RetN.mk ⟨[], rfl, rfl, rfl⟩)
end Go.Ev.W
namespace Go.Ev.W
open Go.Ev Go.Ev.N

theorem rMadeNo_told {n : Int} (h : n < 1 ∨ n > 65536) (bs : List AV) : Told P T ref3_Made [] [i64 n, .lst t_bool bs] (eT 0 []) [] := by
  by_cases h1 : n < 1
  · refine told_of_ev (fn := ref3_Made_fn) tabOk mixed (by kernel_rfl) (by kernel_rfl) (by kernel_rfl) (by kernel_rfl) ?_
    (refine gw ?_; refine IfB.tt (by simp; omega) ?_)
    (refine gw ?_)
    exact RetN.fz ⟨[true], [], rfl, rfl, rfl⟩
  · refine told_of_ev (fn := ref3_Made_fn) tabOk mixed (by kernel_rfl) (by kernel_rfl) (by kernel_rfl) (by kernel_rfl) ?_
    (refine gw ?_; refine IfB.ff (by simp; omega) ?_)
    (refine gw ?_; refine IfB.tt (by simp; omega) ?_)
    (refine gw ?_)
    exact RetN.fz ⟨[true], [], rfl, rfl, rfl⟩
def szL : List Nat := [1, 63, 64, 65, 100, 128, 1000, 4095, 4096, 4097, 5000]
def szOf (n : Nat) : Nat := szL.getD (n % 11) 1
theorem szOf_ok (n : Nat) : 1 ≤ szOf n ∧ szOf n ≤ 5000 := by
  have h : ∀ k, k < 11 → 1 ≤ szL.getD k 1 ∧ szL.getD k 1 ≤ 5000 := by decide
  exact h _ (Nat.mod_lt _ (by omega))
theorem size_told (n : Nat) (hn : n < 65536) : Told P T law5_size [] [.int .u16 (n : Nat)] (i64 (szOf n : Nat)) [] := by
  have hw : IntKind.i64.wrap (n : Int) = n := wrap64 (by omega) (by omega)
  have hmd : ((n : Nat) : Int).tmod 11 = ((n % 11 : Nat) : Int) := by rw [Int.tmod_eq_emod_of_nonneg (by omega)]; omega
  have hl : n % 11 < szL.length := by show n % 11 < 11; omega
  have e : szL.map nI = [i64 1, i64 63, i64 64, i64 65, i64 100, i64 128, i64 1000, i64 4095, i64 4096, i64 4097, i64 5000] := rfl
  have hg : szL[n % 11] = szOf n := by unfold szOf; rw [List.getD_eq_getElem?_getD, List.getElem?_eq_getElem hl]; rfl
  have hll : ((([i64 1, i64 63, i64 64, i64 65, i64 100, i64 128, i64 1000, i64 4095, i64 4096, i64 4097, i64 5000] : List AV).length : Nat) : Int) = 11 := rfl
  refine told_of_ev (fn := law5_size_fn) tabOk mixed (by kernel_rfl) (by kernel_rfl) (by kernel_rfl) (by kernel_rfl) ?_
  (refine gw ?_)
  refine Need.mk (by decide) ?_
  rw [hll, hmd]
  (refine gw ?_)
  refine InB.mk (by omega) (by rw [hll]; omega) ?_
  (refine gw ?_)
  refine at_map (f := nI) (l := szL) (k := n % 11) hl ?_
  rw [hg]
  (refine gw ?_; exact RetN.mk ⟨[], rfl, rfl, rfl⟩)
/-- Picks.Tree: a round. -/
def trS (n : Nat) (a : Pk × (Nat → Bool)) : Pk × (Nat → Bool) :=
  let p := a.1
  let p1 := p.next 16
  let p2 := p1.next 200
  let p3 := p2.next 5
  (p3.next 3, setZ a.2 ((p.num 16 : Int) * (max (n / 16) 1 : Nat)) ((p1.num 200 : Int) + (p2.num 5 : Int) * 64) (decide (0 < p3.num 3)))
def trI (n : Nat) (a : Pk × (Nat → Bool)) : Nat → Pk × (Nat → Bool)
  | 0 => a
  | k + 1 => trI n (trS n a) k
theorem trS_ok {n : Nat} {a : Pk × (Nat → Bool)} (h : a.1.Ok) : (trS n a).1.Ok := (((h.next 16).next 200).next 5).next 3
theorem trI_ok {n : Nat} : ∀ (k : Nat) {a : Pk × (Nat → Bool)}, a.1.Ok → (trI n a k).1.Ok
  | 0, _, h => h
  | k + 1, _, h => trI_ok k (trS_ok h)
def treeP (n : Nat) (p : Pk) : Pk × (Nat → Bool) := trI n (p.next 5, fun _ => false) (p.num 5)
theorem max_nat (a b : Nat) : max (a : Int) (b : Int) = ((max a b : Nat) : Int) := by omega
set_option maxHeartbeats 2000000 in
theorem pTree_told {n : Nat} (hn : 1 ≤ n) (hn2 : n ≤ 65536) (p : Pk) (ok : p.Ok) : Told P T mk_Picks_Tree [pkB p] [.ptr 0 0 0, i64 n] (eTr n (treeP n p).2) [pkB (treeP n p).1] := by
  have c1 := rMade_told hn hn2 fun _ => false
  have hb : bitR n (fun _ => false) = List.replicate n (.bool false) := by
    apply List.ext_getElem (by simp [bitR_len])
    intro k h1 h2
    simp [bitR]
  have hmax : max (n : Int) 0 = n := by omega
  have hdv : ((n : Nat) : Int).tdiv 16 = ((n / 16 : Nat) : Int) := (Int.ofNat_tdiv n 16).symm
  rw [hb] at c1
  have c2 := num_told p ok 5 (by omega)
  have k1 := ok.next 5
  have hn5 := p.num_lt (m := 5) (by omega)
  unfold treeP
  generalize p.num 5 = c at *
  generalize p.next 5 = q at *
  have hif : (if (0 : Int) > (n : Int) then (0 : Int) else (n : Int)).toNat = n := by rw [if_neg (by omega)]; omega
  refine told_of_ev (fn := mk_Picks_Tree_fn) tabOk mixed (by kernel_rfl) (by kernel_rfl) (by kernel_rfl) (by kernel_rfl) ?_
  (refine gw ?_)
  rw [hif]
  refine Room.mk (by omega) ?_
  (refine gw ?_; refine Choice.mk ⟨false, Choice.mk ⟨false, _, _, c1, ?_⟩⟩)
  (refine gw ?_; refine Choice.mk ⟨true, Choice.mk ⟨false, _, _, c2, ?_⟩⟩)
  (refine gw ?_; refine LoopN.mk ⟨[0,1,4,5,6], fun vs L => ∃ (k : Nat) (a : Pk × (Nat → Bool)), vs = [.ptr 0 0 0, i64 n, .ptr 1 0 0, .ptr 2 0 0, i64 k] ∧ L = [pkB a.1, .var (.agg [i64 0, .und]), .var (eTr n a.2)] ∧ a.1.Ok ∧ k < 5 ∧ trI n a k = trI n (q, fun _ => false) c, fun vs L => match vs with | [_, _, _, _, .int _ i] => i.toNat | _ => 0, [], [1,4], rfl, ⟨c, (q, fun _ => false), rfl, rfl, k1, hn5, rfl⟩, ?_⟩)
  rintro vs L ⟨k, ⟨p, b⟩, rfl, rfl, h1, h2, h3⟩
  by_cases hk : 0 < k
  · obtain ⟨k, rfl⟩ : ∃ j, k = j + 1 := ⟨k - 1, by omega⟩
    have j1 := h1.next 16
    have j2 := j1.next 200
    have j3 := j2.next 5
    have j4 := j3.next 3
    have d1 := num_told p h1 16 (by omega)
    have d2 := num_told _ j1 200 (by omega)
    have d3 := num_told _ j2 5 (by omega)
    have d4 := num_told _ j3 3 (by omega)
    have b1 := p.num_lt (m := 16) (by omega)
    have b2 := (p.next 16).num_lt (m := 200) (by omega)
    have b3 := ((p.next 16).next 200).num_lt (m := 5) (by omega)
    have b4 := (((p.next 16).next 200).next 5).num_lt (m := 3) (by omega)
    have hS : trS n (p, b) = ((((p.next 16).next 200).next 5).next 3, setZ b ((p.num 16 : Int) * (max (n / 16) 1 : Nat)) (((p.next 16).num 200 : Int) + (((p.next 16).next 200).num 5 : Int) * 64) (decide (0 < (((p.next 16).next 200).next 5).num 3))) := rfl
    have hI : trI n (trS n (p, b)) k = trI n (q, fun _ => false) c := h3
    rw [hS] at hI
    generalize p.num 16 = n1 at *
    generalize p.next 16 = p1 at *
    generalize p1.num 200 = n2 at *
    generalize p1.next 200 = p2 at *
    generalize p2.num 5 = n3 at *
    generalize p2.next 5 = p3 at *
    generalize p3.num 3 = n4 at *
    generalize p3.next 3 = p4 at *
    have hmx : (if (1 : Int) > ((n / 16 : Nat) : Int) then (1 : Int) else ((n / 16 : Nat) : Int)) = ((max (n / 16) 1 : Nat) : Int) := by split <;> omega
    have hmul : (n1 : Int) * ((max (n / 16) 1 : Nat) : Int) ≤ 15 * 5000 := by
      have : n1 * max (n / 16) 1 ≤ 15 * 5000 := Nat.mul_le_mul (by omega) (by omega)
      rw [← Int.natCast_mul]; omega
    have hmul0 : 0 ≤ (n1 : Int) * ((max (n / 16) 1 : Nat) : Int) := by rw [← Int.natCast_mul]; omega
    have hon : decide ((n4 : Int) > 0) = decide (0 < n4) := decide_eq_decide.2 (by omega)
    generalize hMM : ((n1 : Int) * ((max (n / 16) 1 : Nat) : Int)) = MM at *
    have d5 := rSetTree_told hn hn2 b MM ((n2 : Int) + (n3 : Int) * 64) (by omega) (decide (0 < n4))
    (refine gw ?_; refine Choice.mk ⟨true, Choice.mk ⟨false, _, _, d1, ?_⟩⟩)
    (refine gw ?_)
    rw [hdv, hmx, hMM]
    (refine gw ?_; refine Choice.mk ⟨true, Choice.mk ⟨false, _, _, d2, ?_⟩⟩)
    (refine gw ?_; refine Choice.mk ⟨true, Choice.mk ⟨false, _, _, d3, ?_⟩⟩)
    (refine gw ?_; refine Choice.mk ⟨true, Choice.mk ⟨false, _, _, d4, ?_⟩⟩)
    (refine gw ?_)
    rw [hon]
    (refine gw ?_; refine Choice.mk ⟨false, Choice.mk ⟨false, _, _, d5, ?_⟩⟩)
    (refine gw ?_)
    rw [show ((k + 1 : Nat) : Int) - 1 = (k : Int) by omega]
    (refine gw ?_; refine ⟨[], [1,2], rfl, ⟨k, (p4, setZ b MM ((n2 : Int) + (n3 : Int) * 64) (decide (0 < n4))), rfl, rfl, j4, by omega, hI⟩, (by omega : ((k : Int)).toNat < ((k + 1 : Nat) : Int).toNat)⟩)
  · have e : k = 0 := by omega
    subst e
    have h3 : (p, b) = trI n (q, fun _ => false) c := h3
    rw [← h3]
    (refine gw ?_)
    exact RetN.fz ⟨[true], [], rfl, rfl, rfl⟩
end Go.Ev.W
namespace Go.Ev.W
open Go.Ev Go.Ev.N

def asT (a : Int) : List Int := [a, 64, 3, 0, 4090]
def bsT (b : Int) : List Int := [b, 70, 1, 1099511627776, 5]
theorem asT_ok {a : Int} (h : -9223372036854775808 ≤ a ∧ a ≤ 9223372036854775807) : ∀ x ∈ asT a, -9223372036854775808 ≤ x ∧ x ≤ 9223372036854775807 := by
  intro x hx
  simp [asT] at hx
  omega
theorem sameT_told {n : Nat} (hn : 1 ≤ n) (hn2 : n ≤ 65536) (b : Nat → Bool) : Told P T ref3_SameTree [] [eTr n b, eTr n b] (.bool true) [] := by
  have hh := hT_le n
  have c := rSameTree (s := n) (t := n) (lvT n b) (lvT n b) (by rw [lvT_len]; omega) (by rw [lvT_len]; omega) (mixT_all_row hn hn2 b) (mixT_all_row hn hn2 b)
  rw [decide_eq_true ⟨rfl, rfl⟩] at c
  exact c
theorem sameNo_told : Told P T ref3_SameTree [] [eT 0 [], eT 0 []] (.bool true) [] := by
  have c := rSameTree (s := 0) (t := 0) [] [] (by simp) (by simp) (by simp) (by simp)
  rw [decide_eq_true ⟨rfl, rfl⟩] at c
  exact c
theorem rowB_has {n : Nat} (hn : 1 ≤ n) (b : Nat → Bool) {x : Int} (hx : x < n) (h : 0 < (lvT n b).length) : rowB (lvT n b)[0] x = hasT n b x := by
  by_cases h0 : 0 ≤ x
  · obtain ⟨i, rfl⟩ : ∃ i : Nat, x = i := ⟨x.toNat, by omega⟩
    rw [rowB_lv hn b (by omega) h]
    unfold hasT
    rw [decide_eq_true (by omega)]; rfl
  · unfold rowB hasT
    rw [decide_eq_false (by omega), decide_eq_false (by omega)]; rfl
theorem hasT_no {n : Nat} {b : Nat → Bool} {x : Int} (hx : ¬ x < n) : hasT n b x = false := by unfold hasT; rw [decide_eq_false (by omega)]; rfl
theorem lenI (g : Nat) (h : g ≤ 3000) : (if (0 : Int) > (if (3000 : Int) < (g : Int) then (3000 : Int) else (g : Int)) then (0 : Int) else (if (3000 : Int) < (g : Int) then (3000 : Int) else (g : Int))).toNat = g := by
  rw [if_neg (show ¬ (3000 : Int) < (g : Int) by omega), if_neg (by omega)]; omega
theorem lenI3 (g : Int) (h : 3000 < g) : (if (0 : Int) > (if (3000 : Int) < g then (3000 : Int) else g) then (0 : Int) else (if (3000 : Int) < g then (3000 : Int) else g)).toNat = 3000 := by
  rw [if_pos h, if_neg (by omega)]; omega
theorem lenI0 (g : Int) (h : g < 1) : (if (0 : Int) > (if (3000 : Int) < g then (3000 : Int) else g) then (0 : Int) else (if (3000 : Int) < g then (3000 : Int) else g)).toNat = 0 := by
  rw [if_neg (show ¬ (3000 : Int) < g by omega)]; split <;> omega
set_option maxRecDepth 20000 in
set_option maxHeartbeats 4000000 in
theorem treeAll_told (l : List Nat) (hl : IsB l) (hlm : l.length ≤ maxLen) (n : Nat) (hn : n < 65536) (a b : Int) (ha : -9223372036854775808 ≤ a ∧ a ≤ 9223372036854775807) (on : Bool) (fr : Int) (hfr : -9223372036854775808 ≤ fr ∧ fr ≤ 9223372036854775807) :
    Told P T law5_TreeAll [] [lB l, .int .u16 (n : Nat), i64 a, i64 b, .bool on, i64 fr] (.bool true) [] := by
  have cb := begun5_told
  have hml : (l.map u8).length = l.length := by simp
  refine told_of_ev (fn := law5_TreeAll_fn) tabOk mixed (by kernel_rfl) (by kernel_rfl) (by kernel_rfl) (by kernel_rfl) ?_
  (refine gw ?_; refine Choice.mk ⟨false, Choice.mk ⟨false, _, _, cb, ?_⟩⟩)
  by_cases h20 : l.length ≤ 20
  · have c1 := made_told l
    have c2 := size_told n hn
    have hsz := szOf_ok n
    generalize szOf n = m at *
    have c3 := pTree_told (n := m) (by omega) (by omega) ⟨l, 0⟩ ⟨hl, by simp, hlm⟩
    generalize (treeP m ⟨l, 0⟩).2 = t at *
    generalize (treeP m ⟨l, 0⟩).1 = p at *
    (refine gw ?_; refine IfB.ff (by rw [hml]; simp; omega) ?_)
    (refine gw ?_; refine Choice.mk ⟨false, Choice.mk ⟨false, _, _, c1, ?_⟩⟩)
    (refine gw ?_; refine Choice.mk ⟨false, Choice.mk ⟨false, _, _, c2, ?_⟩⟩)
    (refine gw ?_; refine Choice.mk ⟨true, Choice.mk ⟨false, _, _, c3, ?_⟩⟩)
    have hh := hT_le m
    have h0 : 0 < (lvT m t).length := by rw [lvT_len]; omega
    have hmlv : ((lvT m t).map lR).length = hT m := by rw [List.length_map, lvT_len]
    (refine gw ?_; refine LoopN.mk ⟨[4,5,13,14,15,16], fun vs L => ∃ i : Nat, vs = [.bool on, i64 fr, .ptr 0 0 0, .lst t_int ((asT a).map i64), .lst t_int ((bsT b).map i64), i64 i] ∧ L = [.var (eTr m t)] ∧ i ≤ 5, fun vs L => match vs with | [_, _, _, _, _, .int _ i] => 5 - i.toNat | _ => 0, [14,15], [1], rfl, ⟨0, rfl, rfl, by omega⟩, ?_⟩)
    rintro vs L ⟨i, rfl, rfl, hi⟩
    by_cases h5 : i < 5
    · have hal : i < (asT a).length := h5
      have hbl : i < (bsT b).length := h5
      have hx := asT_ok ha _ (List.getElem_mem hal)
      have hA : ∀ Q : AV → Prop, Q (i64 ((asT a)[i]'hal)) → Idx ((asT a).map i64) ((i : Nat) : Int) Q := fun Q q => idx_map hal q
      have hB : ∀ Q : AV → Prop, Q (i64 ((bsT b)[i]'hbl)) → Idx ((bsT b).map i64) ((i : Nat) : Int) Q := fun Q q => idx_map hbl q
      generalize (asT a)[i] = x at *
      generalize (bsT b)[i] = y at *
      have d1 := treeFirst_told (n := m) (by omega) (by omega) t x hx
      have d2 := rFirst_told (n := m) (by omega) (by omega) t x hx
      have d3 := treeHas_told (n := m) (by omega) (by omega) t x hx
      have d4 := treeSet_told (n := m) (by omega) (by omega) t x y hx on
      have d5 := rSetTree_told (n := m) (by omega) (by omega) t x y hx on
      have d6 := sameT_told (n := m) (by omega) (by omega) (setZ t x y on)
      have d7 := rHas_told (r := (lvT m t)[0]) (by have := mixT_all_row (n := m) (by omega) (by omega) t _ (List.getElem_mem h0); omega) (fun u hu => lvT_w m t _ (List.getElem_mem h0) u hu) x hx
      obtain ⟨k, q, hk⟩ : ∃ (k : Nat) (q : Bool), eFir (firI m t x) = .tup [i64 k, .bool q] := by
        cases firI m t x with
        | none => exact ⟨0, false, rfl⟩
        | some k => exact ⟨k, true, rfl⟩
      rw [hk] at d1 d2
      generalize setZ t x y on = z at *
      have hno := hasT_no (n := m) (b := t) (x := x)
      have hyes := fun h => rowB_has (n := m) (by omega) t (x := x) h h0
      generalize hasT m t x = hs at *
      (refine gw ?_; refine IfB.tt (by simp; omega) ?_)
      (refine gw ?_)
      refine hA _ ?_
      (refine gw ?_; refine Choice.mk ⟨false, Choice.mk ⟨false, _, _, d1, ?_⟩⟩)
      (refine gw ?_)
      refine hA _ ?_
      (refine gw ?_; refine Choice.mk ⟨false, Choice.mk ⟨false, _, _, d2, ?_⟩⟩)
      (refine gw ?_)
      refine hA _ ?_
      by_cases hxm : x < m
      · have d7 := d7
        rw [hyes hxm] at d7
        (refine gw ?_; refine IfB.tt (by simp; omega) ?_)
        (refine gw ?_)
        refine idx_map (k := 0) h0 ?_
        (refine gw ?_)
        refine hA _ ?_
        (refine gw ?_; refine Choice.mk ⟨false, Choice.mk ⟨false, _, _, d7, ?_⟩⟩)
        (refine gw ?_)
        refine hA _ ?_
        cases hs <;> cases q <;> (
          (refine gw ?_; refine Choice.mk ⟨false, Choice.mk ⟨false, _, _, d3, ?_⟩⟩)
          (refine gw ?_)
          refine hA _ ?_
          (refine gw ?_)
          refine hB _ ?_
          (refine gw ?_; refine Choice.mk ⟨false, Choice.mk ⟨false, _, _, d4, ?_⟩⟩)
          (refine gw ?_)
          refine hA _ ?_
          (refine gw ?_)
          refine hB _ ?_
          (refine gw ?_; refine Choice.mk ⟨false, Choice.mk ⟨false, _, _, d5, ?_⟩⟩)
          (refine gw ?_; refine Choice.mk ⟨false, Choice.mk ⟨false, _, _, d6, ?_⟩⟩)
          (refine gw ?_; refine ⟨[], [0], rfl, ⟨i + 1, rfl, rfl, h5⟩, (by omega : 5 - ((i : Int) + 1).toNat < 5 - (i : Int).toNat)⟩))
      · have d3 := d3
        rw [hno hxm] at d3
        (refine gw ?_; refine IfB.ff (by simp; omega) ?_)
        (refine gw ?_)
        refine hA _ ?_
        cases q <;> (
          (refine gw ?_; refine Choice.mk ⟨false, Choice.mk ⟨false, _, _, d3, ?_⟩⟩)
          (refine gw ?_)
          refine hA _ ?_
          (refine gw ?_)
          refine hB _ ?_
          (refine gw ?_; refine Choice.mk ⟨false, Choice.mk ⟨false, _, _, d4, ?_⟩⟩)
          (refine gw ?_)
          refine hA _ ?_
          (refine gw ?_)
          refine hB _ ?_
          (refine gw ?_; refine Choice.mk ⟨false, Choice.mk ⟨false, _, _, d5, ?_⟩⟩)
          (refine gw ?_; refine Choice.mk ⟨false, Choice.mk ⟨false, _, _, d6, ?_⟩⟩)
          (refine gw ?_; refine ⟨[], [0], rfl, ⟨i + 1, rfl, rfl, h5⟩, (by omega : 5 - ((i : Int) + 1).toNat < 5 - (i : Int).toNat)⟩))
    · have e : i = 5 := by omega
      subst e
      have c4 := may_eTr (n := m) (by omega) (by omega) t
      have fin : ∀ g : Nat, 1 ≤ g → g ≤ 3000 → Told P T tree_New [] [i64 g] (eTr g offB) [] ∧ Told P T ref3_Made [] [i64 g, .lst t_bool (List.replicate g (.bool false))] (eTr g offB) [] ∧ Told P T ref3_SameTree [] [eTr g offB, eTr g offB] (.bool true) [] := fun g h1 h2 => ⟨newR_told (by omega) (by omega), by
        have c := rMade_told (n := g) (by omega) (by omega) offB
        rw [show bitR g offB = List.replicate g (.bool false) by
          apply List.ext_getElem (by simp [bitR_len])
          intro k h1 h2
          simp [bitR, offB]] at c
        exact c, sameT_told (by omega) (by omega) offB⟩
      by_cases hf1 : fr > 1
      · (refine gw ?_; refine IfB.tt (by simp; omega) ?_)
        by_cases hf2 : fr ≤ 65536
        · obtain ⟨f, rfl⟩ : ∃ f : Nat, fr = f := ⟨fr.toNat, by omega⟩
          have hmd : ((f : Nat) : Int).tmod 3000 = ((f % 3000 : Nat) : Int) := by rw [Int.tmod_eq_emod_of_nonneg (by omega)]; omega
          obtain ⟨d1, d2, d3⟩ := fin (1 + f % 3000) (by omega) (by omega)
          (refine gw ?_; refine IfB.tt (by simp; omega) ?_)
          (refine gw ?_)
          rw [hmd, show (1 : Int) + ((f % 3000 : Nat) : Int) = ((1 + f % 3000 : Nat) : Int) by omega]
          (refine gw ?_; refine Choice.mk ⟨false, Choice.mk ⟨false, _, _, c4, ?_⟩⟩)
          (refine gw ?_; refine Choice.mk ⟨false, Choice.mk ⟨false, _, _, d1, ?_⟩⟩)
          (refine gw ?_)
          rw [lenI (1 + f % 3000) (by omega)]
          refine Room.mk (by omega) ?_
          (refine gw ?_; refine Choice.mk ⟨false, Choice.mk ⟨false, _, _, d2, ?_⟩⟩)
          (refine gw ?_; refine Choice.mk ⟨false, Choice.mk ⟨false, _, _, d3, ?_⟩⟩)
          (refine gw ?_; exact RetN.mk ⟨[], rfl, rfl, rfl⟩)
        · have d1 := newNo_told (m := fr) (.inr (by omega))
          have d2 := rMadeNo_told (n := fr) (.inr (by omega)) (List.replicate 3000 (.bool false))
          have d3 := sameNo_told
          (refine gw ?_; refine IfB.ff (by simp; omega) ?_)
          (refine gw ?_; refine Choice.mk ⟨false, Choice.mk ⟨false, _, _, c4, ?_⟩⟩)
          (refine gw ?_; refine Choice.mk ⟨false, Choice.mk ⟨false, _, _, d1, ?_⟩⟩)
          (refine gw ?_)
          rw [lenI3 fr (by omega)]
          refine Room.mk (by omega) ?_
          (refine gw ?_; refine Choice.mk ⟨false, Choice.mk ⟨false, _, _, d2, ?_⟩⟩)
          (refine gw ?_; refine Choice.mk ⟨false, Choice.mk ⟨false, _, _, d3, ?_⟩⟩)
          (refine gw ?_; exact RetN.mk ⟨[], rfl, rfl, rfl⟩)
      · (refine gw ?_; refine IfB.ff (by simp; omega) ?_)
        by_cases hf3 : fr = 1
        · subst hf3
          obtain ⟨d1, d2, d3⟩ := fin 1 (by omega) (by omega)
          have d1 : Told P T tree_New [] [i64 1] _ _ := d1
          have d2 : Told P T ref3_Made [] [i64 1, _] _ _ := d2
          (refine gw ?_; refine Choice.mk ⟨false, Choice.mk ⟨false, _, _, c4, ?_⟩⟩)
          (refine gw ?_; refine Choice.mk ⟨false, Choice.mk ⟨false, _, _, d1, ?_⟩⟩)
          (refine gw ?_)
          refine Room.mk (by decide) ?_
          (refine gw ?_; refine Choice.mk ⟨false, Choice.mk ⟨false, _, _, d2, ?_⟩⟩)
          (refine gw ?_; refine Choice.mk ⟨false, Choice.mk ⟨false, _, _, d3, ?_⟩⟩)
          (refine gw ?_; exact RetN.mk ⟨[], rfl, rfl, rfl⟩)
        · have d1 := newNo_told (m := fr) (.inl (by omega))
          have d2 := rMadeNo_told (n := fr) (.inl (by omega)) []
          have d3 := sameNo_told
          (refine gw ?_; refine Choice.mk ⟨false, Choice.mk ⟨false, _, _, c4, ?_⟩⟩)
          (refine gw ?_; refine Choice.mk ⟨false, Choice.mk ⟨false, _, _, d1, ?_⟩⟩)
          (refine gw ?_)
          rw [lenI0 fr (by omega)]
          refine Room.mk (by omega) ?_
          (refine gw ?_; refine Choice.mk ⟨false, Choice.mk ⟨false, _, _, d2, ?_⟩⟩)
          (refine gw ?_; refine Choice.mk ⟨false, Choice.mk ⟨false, _, _, d3, ?_⟩⟩)
          (refine gw ?_; exact RetN.mk ⟨[], rfl, rfl, rfl⟩)
  · (refine gw ?_; refine IfB.tt (by rw [hml]; simp; omega) ?_)
    (refine gw ?_; exact RetN.mk ⟨[], rfl, rfl, rfl⟩)
end Go.Ev.W
namespace Go.Ev.W
open Go.Ev Go.Ev.N

theorem treeAll {x0 x1 x2 x3 x4 x5 : AV} (h0 : Shp T 8 22 x0) (h1 : Shp T 8 23 x1) (h2 : Shp T 8 3 x2) (h3 : Shp T 8 3 x3) (h4 : Shp T 8 4 x4) (h5 : Shp T 8 3 x5) : Told P T law5_TreeAll [] [x0, x1, x2, x3, x4, x5] (.bool true) [] := by
  obtain ⟨l, rfl, hl, hlm⟩ := shp_bytes h0
  obtain ⟨n, rfl, hn⟩ := shp_u16 (by kernel_rfl) h1
  obtain ⟨a, rfl, ha⟩ := shp_i64 (by kernel_rfl) h2
  obtain ⟨b, rfl, hb⟩ := shp_i64 (by kernel_rfl) h3
  obtain ⟨on, rfl⟩ := shp_bool (by kernel_rfl) h4
  obtain ⟨f, rfl, hf⟩ := shp_i64 (by kernel_rfl) h5
  exact treeAll_told l hl hlm n hn a b ha on f hf
/-- Bits that are set again, as far as one. -/
def agB (b2 t : Nat → Bool) (f j : Nat) : Nat → Bool := fun x => if f ≤ x ∧ x < j ∧ t x = true then true else b2 x
theorem agB_zero (b2 t : Nat → Bool) (f : Nat) : agB b2 t f f = b2 := by
  funext x
  unfold agB
  rw [if_neg (by omega)]
theorem agB_set {b2 t : Nat → Bool} {f j : Nat} (hf : f ≤ j) (h : t j = true) : setZ (agB b2 t f j) j 1 true = agB b2 t f (j + 1) := by
  funext x
  unfold setZ agB
  by_cases e : x = j
  · subst e
    rw [if_pos (by omega), if_pos ⟨hf, by omega, h⟩]
  · rw [if_neg (by omega)]
    by_cases hq : f ≤ x ∧ x < j ∧ t x = true
    · rw [if_pos hq, if_pos ⟨hq.1, by omega, hq.2.2⟩]
    · rw [if_neg hq, if_neg fun h => hq ⟨h.1, by omega, h.2.2⟩]
theorem agB_no {b2 t : Nat → Bool} {f j : Nat} (h : t j = false) : agB b2 t f (j + 1) = agB b2 t f j := by
  funext x
  unfold agB
  by_cases e : x = j
  · subst e
    rw [h]
    rw [if_neg (by simp), if_neg (by simp)]
  · by_cases hq : f ≤ x ∧ x < j ∧ t x = true
    · rw [if_pos hq, if_pos ⟨hq.1, by omega, hq.2.2⟩]
    · rw [if_neg hq, if_neg fun h => hq ⟨h.1, by omega, h.2.2⟩]
theorem agB_end {t : Nat → Bool} {m f k j : Nat} (hj : j = m ∨ f + k ≤ j) (hf : f ≤ j) (x : Nat) (hx : x < m) (hjk : j ≤ f + k) : agB (setZ (setZ t f k true) f k false) t f j x = t x := by
  unfold agB
  by_cases hq : f ≤ x ∧ x < j ∧ t x = true
  · rw [if_pos hq, hq.2.2]
  · rw [if_neg hq]
    unfold setZ
    by_cases h : 0 ≤ (f : Int) ∧ (f : Int) ≤ x ∧ (x : Int) < f + k
    · rw [if_pos h]
      cases ht : t x with
      | false => rfl
      | true => exact absurd ⟨by omega, by omega, ht⟩ hq
    · rw [if_neg h, if_neg h]
theorem firI_spec {n : Nat} {b : Nat → Bool} {f : Nat} (hf : f < n) : (firI n b f = none ∧ ∀ x, f ≤ x → x < n → b x = true) ∨ ∃ i, firI n b f = some i ∧ f ≤ i ∧ i < n ∧ b i = false ∧ ∀ x, f ≤ x → x < i → b x = true := by
  have key : ∀ c, c ≤ n → f ≤ c → (∀ x, f ≤ x → x < c → b x = true) ∨ ∃ i, f ≤ i ∧ i < c ∧ b i = false ∧ ∀ x, f ≤ x → x < i → b x = true := by
    intro c
    induction c with
    | zero => intro _ _; exact .inl fun x _ h => by omega
    | succ c ih =>
      intro h1 h2
      by_cases hc : f ≤ c
      · rcases ih (by omega) hc with h | ⟨i, i1, i2, i3, i4⟩
        · cases hb : b c with
          | true =>
            refine .inl fun x e1 e2 => ?_
            by_cases e : x = c
            · rw [e]; exact hb
            · exact h x e1 (by omega)
          | false => exact .inr ⟨c, hc, by omega, hb, h⟩
        · exact .inr ⟨i, i1, by omega, i3, i4⟩
      · exact .inl fun x e1 e2 => by omega
  have hu : firI n b f = firZ n b f := by
    unfold firI
    rw [if_neg (by omega), Int.toNat_natCast]
  rw [hu]
  rcases key n (Nat.le_refl _) (by omega) with h | ⟨i, i1, i2, i3, i4⟩
  · exact .inl ⟨firZ_none h, h⟩
  · exact .inr ⟨i, firZ_some i2 i1 i3 i4, i1, i2, i3, i4⟩
theorem hasT_nat {n : Nat} {b : Nat → Bool} {x : Nat} (h : x < n) : hasT n b x = b x := by unfold hasT; rw [decide_eq_true (by omega)]; rfl
theorem fir_form {n : Nat} {b : Nat → Bool} {f : Nat} (hf : f < n) : ∃ (q : Bool) (i e : Nat), eFir (firI n b f) = .tup [i64 i, .bool q] ∧ (q = true → i = e ∧ f ≤ i ∧ i < n ∧ b i = false) ∧ (q = false → i = 0 ∧ e = n) ∧ (∀ x, f ≤ x → x < e → b x = true) ∧ f ≤ e ∧ e ≤ n := by
  rcases firI_spec (b := b) hf with ⟨h, h2⟩ | ⟨i, h, i1, i2, i3, i4⟩
  · exact ⟨false, 0, n, by rw [h]; rfl, by simp, fun _ => ⟨rfl, rfl⟩, h2, by omega, Nat.le_refl _⟩
  · exact ⟨true, i, i, by rw [h]; rfl, fun _ => ⟨rfl, i1, i2, i3⟩, by simp, i4, i1, by omega⟩
set_option maxRecDepth 20000 in
set_option maxHeartbeats 4000000 in
theorem treeGlance_told (l : List Nat) (hl : IsB l) (hlm : l.length ≤ maxLen) (n : Nat) (hn : n < 65536) (fr : Nat) (hfr : fr < 65536) (ma : Nat) (hma : ma < 65536) (st : Nat) (hst : st < 65536) :
    Told P T law5_TreeGlance [] [lB l, .int .u16 (n : Nat), .int .u16 (fr : Nat), .int .u16 (ma : Nat), .int .u16 (st : Nat)] (.bool true) [] := by
  have cb := begun5_told
  have hml : (l.map u8).length = l.length := by simp
  refine told_of_ev (fn := law5_TreeGlance_fn) tabOk mixed (by kernel_rfl) (by kernel_rfl) (by kernel_rfl) (by kernel_rfl) ?_
  (refine gw ?_; refine Choice.mk ⟨false, Choice.mk ⟨false, _, _, cb, ?_⟩⟩)
  by_cases h20 : l.length ≤ 20
  · have c1 := made_told l
    have c2 := size_told n hn
    have hsz := szOf_ok n
    generalize szOf n = m at *
    have c3 := pTree_told (n := m) (by omega) (by omega) ⟨l, 0⟩ ⟨hl, by simp, hlm⟩
    generalize (treeP m ⟨l, 0⟩).2 = t at *
    generalize (treeP m ⟨l, 0⟩).1 = p at *
    have hm1 : ((fr : Nat) : Int).tmod m = ((fr % m : Nat) : Int) := (Int.ofNat_tmod fr m).symm
    have hm2 : ((ma : Nat) : Int).tmod 700 = ((ma % 700 : Nat) : Int) := (Int.ofNat_tmod ma 700).symm
    have hm3 : ((st : Nat) : Int).tmod m = ((st % m : Nat) : Int) := (Int.ofNat_tmod st m).symm
    have hf := Nat.mod_lt fr (show 0 < m by omega)
    have hk := Nat.mod_lt ma (show 0 < 700 by omega)
    have hs := Nat.mod_lt st (show 0 < m by omega)
    (refine gw ?_; refine IfB.ff (by rw [hml]; simp; omega) ?_)
    (refine gw ?_; refine Choice.mk ⟨false, Choice.mk ⟨false, _, _, c1, ?_⟩⟩)
    (refine gw ?_; refine Choice.mk ⟨false, Choice.mk ⟨false, _, _, c2, ?_⟩⟩)
    (refine gw ?_; refine Choice.mk ⟨true, Choice.mk ⟨false, _, _, c3, ?_⟩⟩)
    (refine gw ?_)
    rw [hm1]
    (refine gw ?_)
    rw [hm2]
    (refine gw ?_)
    rw [hm3]
    generalize fr % m = f at *
    generalize ma % 700 = k at *
    generalize st % m = s at *
    have d1 := treeSet_told (n := m) (by omega) (by omega) t f k (by omega) true
    have d2 := treeFirst_told (n := m) (by omega) (by omega) (setZ t f k true) s (by omega)
    obtain ⟨q, i, e, hq, hqt, hqf, hall, hem⟩ := fir_form (n := m) (b := setZ t f k true) hs
    rw [hq] at d2
    have hag := fun j => agB_end (t := t) (m := m) (f := f) (k := k) (j := j)
    have d5 := treeSet_told (n := m) (by omega) (by omega) (setZ t f k true) f k (by omega) false
    generalize setZ t f k true = b1 at *
    have d3 := treeHas_told (n := m) (by omega) (by omega) b1 i
    (refine gw ?_; refine Choice.mk ⟨false, Choice.mk ⟨false, _, _, d1, ?_⟩⟩)
    (refine gw ?_; refine Choice.mk ⟨false, Choice.mk ⟨false, _, _, d2, ?_⟩⟩)
    cases q with
    | true =>
      obtain ⟨hie, q1, q2, q3⟩ := hqt rfl
      obtain rfl := hie.symm
      have d3 := d3 (by omega)
      rw [hasT_nat q2, q3] at d3
      (refine gw ?_; refine IfB.ff (by simp; omega) ?_)
      (refine gw ?_; refine IfB.ff (by simp; omega) ?_)
      (refine gw ?_; refine Choice.mk ⟨false, Choice.mk ⟨false, _, _, d3, ?_⟩⟩)
      (refine gw ?_; refine LoopN.mk ⟨[11,12,13,15,18,19], fun vs L => ∃ j : Nat, vs = [.ptr 0 0 0, i64 f, i64 k, .ptr 1 0 0, i64 e, i64 j] ∧ L = [.var (eTr m t), .var (eTr m b1)] ∧ s ≤ j ∧ j ≤ e, fun vs L => match vs with | [_, _, _, _, _, .int _ i] => e - i.toNat | _ => 0, [], [1,3], rfl, ⟨s, rfl, rfl, by omega, by omega⟩, ?_⟩)
      rintro vs L ⟨j, rfl, rfl, hj1, hj2⟩
      by_cases hje : j < e
      · have d4 := treeHas_told (n := m) (by omega) (by omega) b1 j (by omega)
        rw [hasT_nat (by omega), hall j hj1 hje] at d4
        (refine gw ?_; refine IfB.tt (by simp; omega) ?_)
        (refine gw ?_; refine Choice.mk ⟨false, Choice.mk ⟨false, _, _, d4, ?_⟩⟩)
        (refine gw ?_; refine ⟨[], [0,1], rfl, ⟨j + 1, rfl, rfl, by omega, by omega⟩, (by omega : e - ((j : Int) + 1).toNat < e - (j : Int).toNat)⟩)
      · (refine gw ?_; refine IfB.ff (by simp; omega) ?_)
        (refine gw ?_; refine Choice.mk ⟨false, Choice.mk ⟨false, _, _, d5, ?_⟩⟩)
        have hmlv : ((lvT m t).map lR).length = hT m := by rw [List.length_map, lvT_len]
        have hh := hT_le m
        have hag0 := agB_zero (setZ b1 f k false) t f
        (refine gw ?_; refine LoopN.mk ⟨[11,12,13,15,20,21], fun vs L => ∃ j : Nat, vs = [.ptr 0 0 0, i64 f, i64 k, .ptr 1 0 0, .ptr 2 0 0, i64 j] ∧ L = [.var (eTr m t), .var (eTr m b1), .var (eTr m (agB (setZ b1 f k false) t f j))] ∧ f ≤ j ∧ j ≤ m ∧ j ≤ f + k, fun vs L => match vs with | [_, _, _, _, _, .int _ i] => m - i.toNat | _ => 0, [], [0,1,2], rfl, ⟨f, rfl, by rw [hag0]; rfl, by omega, by omega, by omega⟩, ?_⟩)
        rintro vs L ⟨j, rfl, rfl, hj3, hj4, hj5⟩
        by_cases hjm : j < m ∧ j < f + k
        · have e1 := treeHas_told (n := m) (by omega) (by omega) t j (by omega)
          rw [hasT_nat hjm.1] at e1
          have hset := agB_set (b2 := setZ b1 f k false) (t := t) hj3
          have hno := agB_no (b2 := setZ b1 f k false) (t := t) (f := f) (j := j)
          have e2 := treeSet_told (n := m) (by omega) (by omega) (agB (setZ b1 f k false) t f j) j 1 (by omega) true
          generalize agB (setZ b1 f k false) t f = A at *
          (refine gw ?_; refine IfB.tt (by simp; omega) ?_)
          (refine gw ?_; refine IfB.tt (by simp; omega) ?_)
          cases htj : t j with
          | true =>
            rw [htj] at e1
            rw [hset htj] at e2
            (refine gw ?_; refine Choice.mk ⟨false, Choice.mk ⟨false, _, _, e1, ?_⟩⟩)
            (refine gw ?_; refine Choice.mk ⟨false, Choice.mk ⟨false, _, _, e2, ?_⟩⟩)
            (refine gw ?_; refine ⟨[], [0,1,2], rfl, ⟨j + 1, rfl, rfl, by omega, by omega, by omega⟩, (by omega : m - ((j : Int) + 1).toNat < m - (j : Int).toNat)⟩)
          | false =>
            rw [htj] at e1
            (refine gw ?_; refine Choice.mk ⟨false, Choice.mk ⟨false, _, _, e1, ?_⟩⟩)
            (refine gw ?_; refine ⟨[], [0,1,2], rfl, ⟨j + 1, rfl, by rw [hno htj]; rfl, by omega, by omega, by omega⟩, (by omega : m - ((j : Int) + 1).toNat < m - (j : Int).toNat)⟩)
        · have hlt : lvT m (agB (setZ b1 f k false) t f j) = lvT m t := lvT_congr fun x hx => hag j (by omega) hj3 x hx (by omega)
          have e0 : eTr m (agB (setZ b1 f k false) t f j) = eTr m t := by unfold eTr; rw [hlt]
          have e1 := may_eTr (n := m) (by omega) (by omega) b1
          have e2 := may_eTr (n := m) (by omega) (by omega) t
          have e3 := sameT_told (n := m) (by omega) (by omega) t
          rw [e0]
          by_cases hjm1 : j < m
          · (refine gw ?_; refine IfB.tt (by simp; omega) ?_)
            (refine gw ?_; refine IfB.ff (by simp; omega) ?_)
            (refine gw ?_; refine Choice.mk ⟨false, Choice.mk ⟨false, _, _, e1, ?_⟩⟩)
            (refine gw ?_; refine Choice.mk ⟨false, Choice.mk ⟨false, _, _, e2, ?_⟩⟩)
            (refine gw ?_; refine Choice.mk ⟨false, Choice.mk ⟨false, _, _, e3, ?_⟩⟩)
            (refine gw ?_; refine IfB.tt (by rw [hmlv]; simp; omega) ?_)
            (refine gw ?_; refine RetN.mk ⟨[], rfl, ?_, rfl⟩)
            simp [ren3, ren2, ren1]
            rfl
          · (refine gw ?_; refine IfB.ff (by simp; omega) ?_)
            (refine gw ?_; refine Choice.mk ⟨false, Choice.mk ⟨false, _, _, e1, ?_⟩⟩)
            (refine gw ?_; refine Choice.mk ⟨false, Choice.mk ⟨false, _, _, e2, ?_⟩⟩)
            (refine gw ?_; refine Choice.mk ⟨false, Choice.mk ⟨false, _, _, e3, ?_⟩⟩)
            (refine gw ?_; refine IfB.tt (by rw [hmlv]; simp; omega) ?_)
            (refine gw ?_; refine RetN.mk ⟨[], rfl, ?_, rfl⟩)
            simp [ren3, ren2, ren1]
            rfl
    | false =>
      obtain ⟨rfl, he⟩ := hqf rfl
      subst e
      (refine gw ?_; refine LoopN.mk ⟨[11,12,13,15,18,19], fun vs L => ∃ j : Nat, vs = [.ptr 0 0 0, i64 f, i64 k, .ptr 1 0 0, i64 m, i64 j] ∧ L = [.var (eTr m t), .var (eTr m b1)] ∧ s ≤ j ∧ j ≤ m, fun vs L => match vs with | [_, _, _, _, _, .int _ i] => m - i.toNat | _ => 0, [], [1,3], rfl, ⟨s, rfl, rfl, by omega, by omega⟩, ?_⟩)
      rintro vs L ⟨j, rfl, rfl, hj1, hj2⟩
      by_cases hje : j < m
      · have d4 := treeHas_told (n := m) (by omega) (by omega) b1 j (by omega)
        rw [hasT_nat (by omega), hall j hj1 hje] at d4
        (refine gw ?_; refine IfB.tt (by simp; omega) ?_)
        (refine gw ?_; refine Choice.mk ⟨false, Choice.mk ⟨false, _, _, d4, ?_⟩⟩)
        (refine gw ?_; refine ⟨[], [0,1], rfl, ⟨j + 1, rfl, rfl, by omega, by omega⟩, (by omega : m - ((j : Int) + 1).toNat < m - (j : Int).toNat)⟩)
      · (refine gw ?_; refine IfB.ff (by simp; omega) ?_)
        (refine gw ?_; refine Choice.mk ⟨false, Choice.mk ⟨false, _, _, d5, ?_⟩⟩)
        have hmlv : ((lvT m t).map lR).length = hT m := by rw [List.length_map, lvT_len]
        have hh := hT_le m
        have hag0 := agB_zero (setZ b1 f k false) t f
        (refine gw ?_; refine LoopN.mk ⟨[11,12,13,15,20,21], fun vs L => ∃ j : Nat, vs = [.ptr 0 0 0, i64 f, i64 k, .ptr 1 0 0, .ptr 2 0 0, i64 j] ∧ L = [.var (eTr m t), .var (eTr m b1), .var (eTr m (agB (setZ b1 f k false) t f j))] ∧ f ≤ j ∧ j ≤ m ∧ j ≤ f + k, fun vs L => match vs with | [_, _, _, _, _, .int _ i] => m - i.toNat | _ => 0, [], [0,1,2], rfl, ⟨f, rfl, by rw [hag0]; rfl, by omega, by omega, by omega⟩, ?_⟩)
        rintro vs L ⟨j, rfl, rfl, hj3, hj4, hj5⟩
        by_cases hjm : j < m ∧ j < f + k
        · have e1 := treeHas_told (n := m) (by omega) (by omega) t j (by omega)
          rw [hasT_nat hjm.1] at e1
          have hset := agB_set (b2 := setZ b1 f k false) (t := t) hj3
          have hno := agB_no (b2 := setZ b1 f k false) (t := t) (f := f) (j := j)
          have e2 := treeSet_told (n := m) (by omega) (by omega) (agB (setZ b1 f k false) t f j) j 1 (by omega) true
          generalize agB (setZ b1 f k false) t f = A at *
          (refine gw ?_; refine IfB.tt (by simp; omega) ?_)
          (refine gw ?_; refine IfB.tt (by simp; omega) ?_)
          cases htj : t j with
          | true =>
            rw [htj] at e1
            rw [hset htj] at e2
            (refine gw ?_; refine Choice.mk ⟨false, Choice.mk ⟨false, _, _, e1, ?_⟩⟩)
            (refine gw ?_; refine Choice.mk ⟨false, Choice.mk ⟨false, _, _, e2, ?_⟩⟩)
            (refine gw ?_; refine ⟨[], [0,1,2], rfl, ⟨j + 1, rfl, rfl, by omega, by omega, by omega⟩, (by omega : m - ((j : Int) + 1).toNat < m - (j : Int).toNat)⟩)
          | false =>
            rw [htj] at e1
            (refine gw ?_; refine Choice.mk ⟨false, Choice.mk ⟨false, _, _, e1, ?_⟩⟩)
            (refine gw ?_; refine ⟨[], [0,1,2], rfl, ⟨j + 1, rfl, by rw [hno htj]; rfl, by omega, by omega, by omega⟩, (by omega : m - ((j : Int) + 1).toNat < m - (j : Int).toNat)⟩)
        · have hlt : lvT m (agB (setZ b1 f k false) t f j) = lvT m t := lvT_congr fun x hx => hag j (by omega) hj3 x hx (by omega)
          have e0 : eTr m (agB (setZ b1 f k false) t f j) = eTr m t := by unfold eTr; rw [hlt]
          have e1 := may_eTr (n := m) (by omega) (by omega) b1
          have e2 := may_eTr (n := m) (by omega) (by omega) t
          have e3 := sameT_told (n := m) (by omega) (by omega) t
          rw [e0]
          by_cases hjm1 : j < m
          · (refine gw ?_; refine IfB.tt (by simp; omega) ?_)
            (refine gw ?_; refine IfB.ff (by simp; omega) ?_)
            (refine gw ?_; refine Choice.mk ⟨false, Choice.mk ⟨false, _, _, e1, ?_⟩⟩)
            (refine gw ?_; refine Choice.mk ⟨false, Choice.mk ⟨false, _, _, e2, ?_⟩⟩)
            (refine gw ?_; refine Choice.mk ⟨false, Choice.mk ⟨false, _, _, e3, ?_⟩⟩)
            (refine gw ?_; refine IfB.tt (by rw [hmlv]; simp; omega) ?_)
            (refine gw ?_; refine RetN.mk ⟨[], rfl, ?_, rfl⟩)
            simp [ren3, ren2, ren1]
            rfl
          · (refine gw ?_; refine IfB.ff (by simp; omega) ?_)
            (refine gw ?_; refine Choice.mk ⟨false, Choice.mk ⟨false, _, _, e1, ?_⟩⟩)
            (refine gw ?_; refine Choice.mk ⟨false, Choice.mk ⟨false, _, _, e2, ?_⟩⟩)
            (refine gw ?_; refine Choice.mk ⟨false, Choice.mk ⟨false, _, _, e3, ?_⟩⟩)
            (refine gw ?_; refine IfB.tt (by rw [hmlv]; simp; omega) ?_)
            (refine gw ?_; refine RetN.mk ⟨[], rfl, ?_, rfl⟩)
            simp [ren3, ren2, ren1]
            rfl
  · (refine gw ?_; refine IfB.tt (by rw [hml]; simp; omega) ?_)
    (refine gw ?_; exact RetN.mk ⟨[], rfl, rfl, rfl⟩)
theorem treeGlance {x0 x1 x2 x3 x4 : AV} (h0 : Shp T 8 22 x0) (h1 : Shp T 8 23 x1) (h2 : Shp T 8 23 x2) (h3 : Shp T 8 23 x3) (h4 : Shp T 8 23 x4) : Told P T law5_TreeGlance [] [x0, x1, x2, x3, x4] (.bool true) [] := by
  obtain ⟨l, rfl, hl, hlm⟩ := shp_bytes h0
  obtain ⟨n, rfl, hn⟩ := shp_u16 (by kernel_rfl) h1
  obtain ⟨a, rfl, ha⟩ := shp_u16 (by kernel_rfl) h2
  obtain ⟨b, rfl, hb⟩ := shp_u16 (by kernel_rfl) h3
  obtain ⟨c, rfl, hc⟩ := shp_u16 (by kernel_rfl) h4
  exact treeGlance_told l hl hlm n hn a ha b hb c hc
end Go.Ev.W
