/- Words and lemmas, part 4, for laws of this seat (a part of their proofs). -/
import Derived.Test.YtnjhonpgmljigaaGreatG3
import Derived.Test.YtnjhonpgmljigaaGreatNm
import Derived.Test.YtnjhonpgmljigaaGreatEvOpen
import Derived.Test.YtnjhonpgmljigaaGreatEvLib
import Derived.Test.YtnjhonpgmljigaaGreatEvGrid
import Derived.Test.YtnjhonpgmljigaaGreatEvTrim
set_option linter.unusedVariables false
set_option linter.unusedSimpArgs false
namespace Go.Ev.W
open Go.Ev Go.Ev.N

def FW : Nat := 18446744073709551615
/-- Levels of words. -/
abbrev LV := List (List Nat)
def IsW (v : LV) : Prop := ∀ r ∈ v, ∀ u ∈ r, u < 2 ^ 64
def lR (r : List Nat) : AV := .lst t_uint64 (r.map u64)
def lV (v : LV) : AV := .lst ts_uint64 (v.map lR)
def eT (s : Int) (v : LV) : AV := .agg [i64 s, lV v]
def gV (v : LV) : Blk := .grid ts_uint64 t_uint64 (v.map fun r => (true, r.map u64))
/-- A word; one that is not there is full. -/
def atF (v : LV) (l : Nat) (k : Int) : Nat := if k < 0 then FW else (v.getD l []).getD k.toNat FW
def putF (v : LV) (l : Nat) (k : Int) (u : Nat) : LV := if k < 0 then v else v.modify l fun r => r.set k.toNat u
theorem atF_lt {v : LV} (h : IsW v) (l : Nat) (k : Int) : atF v l k < 2 ^ 64 := by
  unfold atF
  split
  · decide
  · rw [List.getD_eq_getElem?_getD, List.getD_eq_getElem?_getD]
    cases hl : v[l]? with
    | none => simp [FW]
    | some r =>
      simp only [Option.getD_some]
      cases hk : r[k.toNat]? with
      | none => simp [FW]
      | some u => exact h r (List.mem_of_getElem? hl) u (List.mem_of_getElem? hk)
theorem putF_w {v : LV} (h : IsW v) (l : Nat) (k : Int) {u : Nat} (hu : u < 2 ^ 64) : IsW (putF v l k u) := by
  unfold putF
  split
  · exact h
  · intro r hr x hx
    obtain ⟨i, hi, rfl⟩ := List.getElem_of_mem hr
    rw [List.getElem_modify] at hx
    have hil : i < v.length := by simpa using hi
    split at hx
    · rcases List.mem_or_eq_of_mem_set hx with hx | rfl
      · exact h _ (List.getElem_mem hil) x hx
      · exact hu
    · exact h _ (List.getElem_mem hil) x hx
theorem putF_len (v : LV) (l : Nat) (k : Int) (u : Nat) : (putF v l k u).length = v.length := by unfold putF; split <;> simp
theorem treeAt_told {s : Int} {v : LV} (hv : v.length ≤ 1000) (hr : ∀ r ∈ v, r.length ≤ 100000) (l : Nat) (k : Int) : Told P T tree_at [] [eT s v, i64 l, i64 k] (u64 (atF v l k)) [] := by
  have hm : (v.map lR).length = v.length := by simp
  refine told_of_ev (fn := tree_at_fn) tabOk mixed (by kernel_rfl) (by kernel_rfl) (by kernel_rfl) (by kernel_rfl) ?_
  by_cases h1 : l ≥ v.length
  · have e : atF v l k = FW := by
      unfold atF
      split
      · rfl
      · rw [List.getD_eq_getElem?_getD, List.getD_eq_getElem?_getD, List.getElem?_eq_none (l := v) (by omega)]; simp
    rw [e]
    (refine gw ?_; refine IfB.tt (by rw [hm]; simp; omega) ?_)
    (refine gw ?_; exact RetN.mk ⟨[], rfl, rfl, rfl⟩)
  · (refine gw ?_; refine IfB.ff (by rw [hm]; simp; omega) ?_)
    by_cases h2 : k < 0
    · have e : atF v l k = FW := by unfold atF; rw [if_pos h2]
      rw [e]
      (refine gw ?_; refine IfB.tt (by simpa using h2) ?_)
      (refine gw ?_; exact RetN.mk ⟨[], rfl, rfl, rfl⟩)
    · obtain ⟨a, rfl⟩ : ∃ a : Nat, k = a := ⟨k.toNat, by omega⟩
      have hlv : l < v.length := by omega
      have hmr : (v[l].map u64).length = v[l].length := by simp
      (refine gw ?_; refine idx_map (hlv) ?_)
      (refine gw ?_)
      by_cases h3 : a ≥ v[l].length
      · have e : atF v l a = FW := by
          unfold atF
          rw [if_neg (by omega), List.getD_eq_getElem?_getD, List.getD_eq_getElem?_getD, List.getElem?_eq_getElem hlv]
          simp only [Option.getD_some]
          rw [List.getElem?_eq_none (by rw [Int.toNat_natCast]; exact h3)]; rfl
        rw [e]
        (refine gw ?_; refine IfB.tt (by rw [hmr]; simp; omega) ?_)
        (refine gw ?_; exact RetN.mk ⟨[], rfl, rfl, rfl⟩)
      · have hal : a < v[l].length := by omega
        have e : atF v l a = v[l][a] := by
          unfold atF
          rw [if_neg (by omega), List.getD_eq_getElem?_getD, List.getD_eq_getElem?_getD, List.getElem?_eq_getElem hlv]
          simp only [Option.getD_some]
          rw [Int.toNat_natCast, List.getElem?_eq_getElem hal]; rfl
        rw [e]
        (refine gw ?_; refine IfB.ff (by rw [hmr]; simp; omega) ?_)
        (refine gw ?_; refine idx_map (hlv) ?_)
        (refine gw ?_; refine idx_map (hal) ?_)
        (refine gw ?_; exact RetN.mk ⟨[], rfl, rfl, rfl⟩)
/-- A grid, as it lies where nobody writes. -/
def eTg (s : Int) (v : LV) : AV := .agg [i64 s, .lst ts_uint64 ((v.map fun r => (true, r.map u64)).map fun g => .lst t_uint64 g.2)]
theorem eTg_eq (s : Int) (v : LV) : eTg s v = eT s v := by
  unfold eTg eT lV lR
  rw [List.map_map]; rfl
theorem gnode {v : LV} {l : Nat} (h : l < v.length) {Q : Bool → List AV → Prop} (q : Q true (v[l].map u64)) : GNode (v.map fun r => (true, r.map u64)) l Q := ⟨true, _, by simp [h], q⟩
set_option maxHeartbeats 2000000 in
theorem treePut_told {s : Int} {v : LV} (hv : v.length ≤ 1000) (hr : ∀ r ∈ v, r.length ≤ 100000) (l : Nat) (k : Int) (u : Nat) : Told P T tree_put [gV v] [.agg [i64 s, .ref 0], i64 l, i64 k, u64 u] (.tup []) [gV (putF v l k u)] := by
  have hm : (v.map fun r => (true, r.map u64)).length = v.length := by simp
  refine told_of_ev (fn := tree_put_fn) tabOk mixed (by kernel_rfl) (by kernel_rfl) (by kernel_rfl) (by kernel_rfl) ?_
  by_cases h1 : l < v.length
  · (refine gw ?_; refine IfB.tt (by rw [hm]; simp; omega) ?_)
    by_cases h2 : k < 0
    · have e : putF v l k u = v := by unfold putF; rw [if_pos h2]
      rw [e]
      (refine gw ?_; refine IfB.ff (by simp; omega) ?_)
      (refine gw ?_; exact RetN.mk ⟨[], rfl, rfl, rfl⟩)
    · obtain ⟨a, rfl⟩ : ∃ a : Nat, k = a := ⟨k.toNat, by omega⟩
      have hmr : (v[l].map u64).length = v[l].length := by simp
      (refine gw ?_)
      refine gnode h1 ?_
      (refine gw ?_)
      refine gnode h1 ?_
      by_cases h3 : a < v[l].length
      · have e : (v.map fun r => (true, r.map u64)).set l (true, (v[l].map u64).set a (u64 u)) = (putF v l a u).map fun r => (true, r.map u64) := by
          unfold putF
          rw [if_neg (by omega), Int.toNat_natCast]
          apply List.ext_getElem (by simp)
          intro i h4 h5
          have hi : i < v.length := by simpa using h4
          rw [List.getElem_map, List.getElem_modify]
          by_cases hil : l = i
          · subst hil
            rw [List.getElem_set_self, if_pos rfl, List.map_set]
          · rw [List.getElem_set_ne hil, if_neg hil, List.getElem_map]
        (refine gw ?_; refine IfB.tt (by rw [hmr]; simp; omega) ?_)
        (refine gw ?_)
        refine gnode h1 ?_
        (refine gw ?_)
        refine gnode h1 ?_
        (refine gw ?_)
        refine gnode h1 ?_
        rw [show gV (putF v l a u) = .grid ts_uint64 t_uint64 ((v.map fun r => (true, r.map u64)).set l (true, (v[l].map u64).set a (u64 u))) by unfold gV; rw [← e]]
        (refine gw ?_; exact RetN.mk ⟨[], rfl, rfl, rfl⟩)
      · have e : putF v l a u = v := by
          unfold putF
          rw [if_neg (by omega)]
          apply List.ext_getElem (by simp)
          intro i h4 h5
          rw [List.getElem_modify]
          split
          · rename_i hil; subst hil
            rw [List.set_eq_of_length_le (by omega)]
          · rfl
        rw [e]
        (refine gw ?_; refine IfB.ff (by rw [hmr]; simp; omega) ?_)
        (refine gw ?_; exact RetN.mk ⟨[], rfl, rfl, rfl⟩)
  · have e : putF v l k u = v := by
      unfold putF
      split
      · rfl
      · exact List.modify_eq_self (by omega)
    rw [e]
    (refine gw ?_; refine IfB.ff (by rw [hm]; simp; omega) ?_)
    (refine gw ?_; exact RetN.mk ⟨[], rfl, rfl, rfl⟩)
/-- A word one bit of which is set, or not. -/
def sumW (a m : Nat) (b : Bool) : Nat := wB 64 fun j => if j = m then b else a.testBit j
theorem pow_lt64 {k : Nat} (h : k < 64) : 2 ^ k < 2 ^ 64 := Nat.pow_lt_pow_right (by omega) h
theorem pow_bit {k j : Nat} : (2 ^ k).testBit j = decide (j = k) := by rw [Nat.testBit_two_pow]; exact decide_eq_decide.2 eq_comm
theorem sumW_ops {a m : Nat} (ha : a < 2 ^ 64) (hm : m < 64) : ∃ y : Nat, bitsOp .andNot .u64 (a : Int) ((2 ^ m : Nat) : Int) = (y : Int) ∧ bitsOp .or .u64 (y : Int) ((2 ^ m : Nat) : Int) = ((sumW a m true : Nat) : Int) ∧ y = sumW a m false := by
  have hp := pow_lt64 hm
  have h1 := wB_lt 64 fun j => a.testBit j && !(2 ^ m).testBit j
  refine ⟨_, andn64 ha hp, ?_, ?_⟩
  · rw [or64 h1 hp]
    refine congrArg Int.ofNat ?_
    unfold sumW
    apply Nat.eq_of_testBit_eq
    intro j
    rw [Nat.testBit_or, wB_bit, wB_bit, pow_bit]
    by_cases hj : j = m
    · rw [if_pos hj, decide_eq_true hj, decide_eq_true (show j < 64 by omega)]; simp
    · rw [if_neg hj, decide_eq_false hj]; simp
  · unfold sumW
    refine wB_congr fun j _ => ?_
    rw [pow_bit]
    by_cases hj : j = m
    · rw [if_pos hj, decide_eq_true hj]; simp
    · rw [if_neg hj, decide_eq_false hj]; simp
/-- A level is brought up to date. -/
def sum1 (v : LV) (l i : Nat) : LV :=
  putF v l (i / 64 : Nat) (sumW (atF v l (i / 64 : Nat)) (i % 64) (decide (atF v (l - 1) i = FW)))
def sumsF (v : LV) (l lo : Nat) : Nat → LV
  | 0 => v
  | c + 1 => sum1 (sumsF v l lo c) l (lo + c)
theorem sum1_w {v : LV} (h : IsW v) (l i : Nat) : IsW (sum1 v l i) := putF_w h _ _ (wB_lt _ _)
theorem sumsF_w {v : LV} (h : IsW v) (l lo : Nat) : ∀ c, IsW (sumsF v l lo c)
  | 0 => h
  | c + 1 => sum1_w (sumsF_w h l lo c) _ _
theorem sumsF_len (v : LV) (l lo : Nat) : ∀ c, (sumsF v l lo c).length = v.length
  | 0 => rfl
  | c + 1 => by unfold sumsF sum1; rw [putF_len, sumsF_len]
theorem putF_row {v : LV} {l : Nat} {k : Int} {u N : Nat} (h : ∀ r ∈ v, r.length ≤ N) : ∀ r ∈ putF v l k u, r.length ≤ N := by
  unfold putF
  split
  · exact h
  · intro r hr
    obtain ⟨i, hi, rfl⟩ := List.getElem_of_mem hr
    rw [List.getElem_modify]
    have hil : i < v.length := by simpa using hi
    split
    · rw [List.length_set]; exact h _ (List.getElem_mem hil)
    · exact h _ (List.getElem_mem hil)
theorem sumsF_row {v : LV} {N : Nat} (h : ∀ r ∈ v, r.length ≤ N) (l lo : Nat) : ∀ c, ∀ r ∈ sumsF v l lo c, r.length ≤ N
  | 0 => h
  | c + 1 => by
    unfold sumsF sum1
    exact putF_row (sumsF_row h l lo c)
set_option maxHeartbeats 4000000 in
theorem treeSums_told {s : Int} {v : LV} (hv : v.length ≤ 1000) (hr : ∀ r ∈ v, r.length ≤ 100000) (hw : IsW v) (l lo hi : Nat) (hl : 1 ≤ l ∧ l ≤ 1000) (hlh : lo ≤ hi + 1) (hh : hi ≤ 1000000) : Told P T tree_sums [gV v] [.agg [i64 s, .ref 0], i64 l, i64 lo, i64 hi] (.tup []) [gV (sumsF v l lo (hi + 1 - lo))] := by
  refine told_of_ev (fn := tree_sums_fn) tabOk mixed (by kernel_rfl) (by kernel_rfl) (by kernel_rfl) (by kernel_rfl) ?_
  (refine gw ?_; refine LoopN.mk ⟨[1,3,4,8], fun vs L => ∃ c : Nat, vs = [i64 l, i64 hi, .ptr 1 0 0, i64 (lo + c : Nat)] ∧ L = [gV (sumsF v l lo c), .var (.agg [i64 s, .ref 0])] ∧ lo + c ≤ hi + 1, fun vs L => match vs with | [_, _, _, .int _ i] => hi + 1 - i.toNat | _ => 0, [], [1], rfl, ⟨0, rfl, rfl, by omega⟩, ?_⟩)
  rintro vs L ⟨c, rfl, rfl, hc⟩
  have hw1 := sumsF_w hw l lo c
  have hlen := sumsF_len v l lo c
  have hrow := sumsF_row hr l lo c
  have hsuc : sumsF v l lo (c + 1) = sum1 (sumsF v l lo c) l (lo + c) := rfl
  obtain ⟨x, hxe⟩ : ∃ x, sumsF v l lo c = x := ⟨_, rfl⟩
  rw [hxe] at hw1 hlen hrow hsuc ⊢
  by_cases h1 : lo + c ≤ hi
  · obtain ⟨i, hie⟩ : ∃ i, lo + c = i := ⟨_, rfl⟩
    rw [hie] at hsuc h1 ⊢
    have c1 := treeAt_told (s := s) (v := x) (by omega) hrow l (i / 64 : Nat)
    have c2 := treeAt_told (s := s) (v := x) (by omega) hrow (l - 1) (i : Nat)
    rw [show ((l - 1 : Nat) : Int) = (l : Int) - 1 by omega] at c2
    have hd : ((i : Nat) : Int).tdiv 64 = ((i / 64 : Nat) : Int) := (Int.ofNat_tdiv i 64).symm
    have hmd : ((i : Nat) : Int).tmod 64 = ((i % 64 : Nat) : Int) := by rw [Int.tmod_eq_emod_of_nonneg (by omega)]; omega
    have hm64 : i % 64 < 64 := Nat.mod_lt _ (by omega)
    have hsl := shl1 hm64
    have hpi : ((2 ^ (i % 64) : Nat) : Int) ≤ 18446744073709551615 := Int.ofNat_le.2 (Nat.le_trans (pow_le63 (by omega)).2 (by decide))
    obtain ⟨y, ha, hor, hy⟩ := sumW_ops (atF_lt hw1 l (i / 64 : Nat)) hm64
    have c3 := fun u => treePut_told (s := s) (v := x) (by omega) hrow l (i / 64 : Nat) u
    unfold sum1 at hsuc
    rw [← eTg_eq] at c1 c2
    clear hw1 hrow hr hw
    generalize atF x l (i / 64 : Nat) = a1 at *
    generalize atF x (l - 1) (i : Nat) = a2 at *
    obtain ⟨z, hz⟩ : ∃ z, sumW a1 (i % 64) true = z := ⟨_, rfl⟩
    rw [hz] at hor
    generalize 2 ^ (i % 64) = pw at *
    (refine gw ?_; refine IfB.tt (by simp; omega) ?_)
    (refine gw ?_)
    rw [hmd]
    refine ⟨?_⟩
    rw [hsl, wrapU64 (Int.natCast_nonneg _) hpi]
    (refine gw ?_)
    rw [hd]
    (refine gw ?_; refine Choice.mk ⟨false, Choice.mk ⟨true, _, _, c1, ?_⟩⟩)
    (refine gw ?_)
    rw [ha]
    (refine gw ?_; refine Choice.mk ⟨false, Choice.mk ⟨true, _, _, c2, ?_⟩⟩)
    by_cases hF : a2 = FW
    · rw [decide_eq_true hF, hz] at hsuc
      (refine gw ?_; refine IfB.tt (by rw [hF]; rfl) ?_)
      (refine gw ?_)
      rw [hor]
      (refine gw ?_)
      rw [hd]
      (refine gw ?_; refine Choice.mk ⟨true, Choice.mk ⟨false, _, _, c3 _, ?_⟩⟩)
      (refine gw ?_; refine ⟨[], [1], rfl, ⟨c + 1, by rw [show lo + (c + 1) = i + 1 by omega]; rfl, by rw [hsuc]; rfl, by omega⟩, (by omega : hi + 1 - ((i : Int) + 1).toNat < hi + 1 - (i : Int).toNat)⟩)
    · rw [decide_eq_false hF, ← hy] at hsuc
      have hF' : ((a2 : Nat) : Int) ≠ 18446744073709551615 := fun h => hF (by unfold FW; omega)
      (refine gw ?_; refine IfB.ff (by simpa using hF') ?_)
      (refine gw ?_)
      rw [hd]
      (refine gw ?_; refine Choice.mk ⟨true, Choice.mk ⟨false, _, _, c3 _, ?_⟩⟩)
      (refine gw ?_; refine ⟨[], [1], rfl, ⟨c + 1, by rw [show lo + (c + 1) = i + 1 by omega]; rfl, by rw [hsuc]; rfl, by omega⟩, (by omega : hi + 1 - ((i : Int) + 1).toNat < hi + 1 - (i : Int).toNat)⟩)
  · have e : hi + 1 - lo = c := by omega
    rw [e, hxe]
    (refine gw ?_; refine IfB.ff (by simp; omega) ?_)
    (refine gw ?_; exact RetN.mk ⟨[], rfl, rfl, rfl⟩)
end Go.Ev.W
namespace Go.Ev.W
open Go.Ev Go.Ev.N

/-- Levels, by level and place. -/
def tabV (H : Nat) (len : Nat → Nat) (f : Nat → Nat → Nat) : LV := (List.range H).map fun l => (List.range (len l)).map (f l)
theorem tabV_len (H : Nat) (len : Nat → Nat) (f : Nat → Nat → Nat) : (tabV H len f).length = H := by simp [tabV]
theorem tabV_get {H l : Nat} {len : Nat → Nat} {f : Nat → Nat → Nat} (h : l < (tabV H len f).length) : (tabV H len f)[l] = (List.range (len l)).map (f l) := by simp [tabV]
theorem tabV_at {H l k : Nat} {len : Nat → Nat} {f : Nat → Nat → Nat} (hl : l < H) (hk : k < len l) : atF (tabV H len f) l k = f l k := by
  unfold atF tabV
  rw [if_neg (by omega), List.getD_eq_getElem?_getD, List.getD_eq_getElem?_getD]
  simp [hl, hk]
theorem tabV_congr {H : Nat} {len : Nat → Nat} {f g : Nat → Nat → Nat} (h : ∀ l, l < H → ∀ k, k < len l → f l k = g l k) : tabV H len f = tabV H len g := by
  unfold tabV
  refine List.map_congr_left fun l hl => List.map_congr_left fun k hk => h l (by simpa using hl) k (by simpa using hk)
theorem tabV_put {H l k u : Nat} {len : Nat → Nat} {f : Nat → Nat → Nat} (hl : l < H) (hk : k < len l) : putF (tabV H len f) l k u = tabV H len fun l' k' => if l' = l ∧ k' = k then u else f l' k' := by
  unfold putF
  rw [if_neg (by omega), Int.toNat_natCast]
  apply List.ext_getElem (by simp [tabV])
  intro i h1 h2
  rw [List.getElem_modify, tabV_get]
  have hi : i < H := by simpa [tabV] using h2
  have hi2 : i < (tabV H len f).length := by rw [tabV_len]; exact hi
  by_cases hil : l = i
  · subst hil
    rw [if_pos rfl, tabV_get]
    apply List.ext_getElem (by simp)
    intro j h3 h4
    have hj : j < len l := by simpa using h4
    rw [List.getElem_set]
    simp only [List.getElem_map, List.getElem_range]
    by_cases hjk : k = j
    · subst hjk; simp
    · rw [if_neg hjk, if_neg (by omega)]
  · rw [if_neg hil, tabV_get]
    refine List.map_congr_left fun j _ => ?_
    rw [if_neg (by omega)]
theorem tabV_w {H : Nat} {len : Nat → Nat} {f : Nat → Nat → Nat} (h : ∀ l k, f l k < 2 ^ 64) : IsW (tabV H len f) := by
  intro r hr u hu
  obtain ⟨l, _, rfl⟩ := List.mem_map.1 hr
  obtain ⟨k, _, rfl⟩ := List.mem_map.1 hu
  exact h l k
theorem tabV_row {H N : Nat} {len : Nat → Nat} {f : Nat → Nat → Nat} (h : ∀ l, l < H → len l ≤ N) : ∀ r ∈ tabV H len f, r.length ≤ N := by
  intro r hr
  obtain ⟨l, hl, rfl⟩ := List.mem_map.1 hr
  simpa using h l (by simpa using hl)

/-- How many bits a level has. -/
def szT (n : Nat) : Nat → Nat
  | 0 => n
  | l + 1 => (szT n l - 1) / 64 + 1
/-- A word of some bits, of which those beyond are set. -/
def wdT (n : Nat) (b : Nat → Bool) (k : Nat) : Nat := wB 64 fun j => decide (n ≤ 64 * k + j) || b (64 * k + j)
/-- A level's bits. -/
def btT (n : Nat) (b : Nat → Bool) : Nat → Nat → Bool
  | 0 => b
  | l + 1 => fun k => decide (wdT (szT n l) (btT n b l) k = FW)
def hT (n : Nat) : Nat := if n ≤ 64 then 1 else if n ≤ 4096 then 2 else 3
def fT (n : Nat) (b : Nat → Bool) (l k : Nat) : Nat := wdT (szT n l) (btT n b l) k
def lenT (n l : Nat) : Nat := szT n (l + 1)
def lvT (n : Nat) (b : Nat → Bool) : LV := tabV (hT n) (lenT n) (fT n b)
def eTr (n : Nat) (b : Nat → Bool) : AV := eT n (lvT n b)
theorem wdT_lt (n : Nat) (b : Nat → Bool) (k : Nat) : wdT n b k < 2 ^ 64 := wB_lt _ _
theorem fT_lt (n : Nat) (b : Nat → Bool) (l k : Nat) : fT n b l k < 2 ^ 64 := wB_lt _ _
theorem hT_le (n : Nat) : 1 ≤ hT n ∧ hT n ≤ 3 := by
  unfold hT
  split
  · omega
  · split <;> omega
theorem szT_pos {n : Nat} (h : 1 ≤ n) : ∀ l, 1 ≤ szT n l
  | 0 => h
  | l + 1 => by unfold szT; omega
theorem szT_le {n : Nat} (h : 1 ≤ n) : ∀ l, szT n (l + 1) ≤ szT n l := fun l => by
  have := szT_pos h l
  show (szT n l - 1) / 64 + 1 ≤ szT n l
  omega
theorem szT_le_n {n : Nat} (h : 1 ≤ n) : ∀ l, szT n l ≤ n
  | 0 => Nat.le_refl _
  | l + 1 => Nat.le_trans (szT_le h l) (szT_le_n h l)
/-- The last level has one word, those below more. -/
theorem hT_last {n : Nat} (h : 1 ≤ n) (h2 : n ≤ 65536) : szT n (hT n - 1) ≤ 64 ∧ ∀ l, l + 1 < hT n → 64 < szT n l := by
  unfold hT
  split
  · exact ⟨by assumption, fun l hl => by omega⟩
  · split
    · refine ⟨by show (n - 1) / 64 + 1 ≤ 64; omega, fun l hl => ?_⟩
      have : l = 0 := by omega
      subst this; show 64 < n; omega
    · refine ⟨by show ((n - 1) / 64 + 1 - 1) / 64 + 1 ≤ 64; omega, fun l hl => ?_⟩
      rcases (by omega : l = 0 ∨ l = 1) with rfl | rfl
      · show 64 < n; omega
      · show 64 < (n - 1) / 64 + 1; omega
theorem lenT_le {n : Nat} (h : 1 ≤ n) (h2 : n ≤ 65536) (l : Nat) : 1 ≤ lenT n l ∧ lenT n l ≤ 1024 := by
  have h3 := szT_le_n h l
  show 1 ≤ (szT n l - 1) / 64 + 1 ∧ (szT n l - 1) / 64 + 1 ≤ 1024
  omega
theorem wdT_congr {n : Nat} {b c : Nat → Bool} {k : Nat} (h : ∀ i, 64 * k ≤ i → i < 64 * k + 64 → i < n → b i = c i) : wdT n b k = wdT n c k := by
  unfold wdT
  refine wB_congr fun j hj => ?_
  by_cases h1 : n ≤ 64 * k + j
  · rw [decide_eq_true h1]; simp
  · rw [decide_eq_false h1, h _ (by omega) (by omega) (by omega)]
theorem btT_congr {n : Nat} {b c : Nat → Bool} (h : ∀ i, i < n → b i = c i) : ∀ l i, i < szT n l → btT n b l i = btT n c l i
  | 0, i, hi => h i hi
  | l + 1, i, hi => by
    show decide (wdT (szT n l) (btT n b l) i = FW) = decide (wdT (szT n l) (btT n c l) i = FW)
    rw [wdT_congr fun j _ _ hj => btT_congr h l j hj]
theorem lvT_congr {n : Nat} {b c : Nat → Bool} (h : ∀ i, i < n → b i = c i) : lvT n b = lvT n c :=
  tabV_congr fun l _ k _ => wdT_congr fun j _ _ hj => btT_congr h l j hj
theorem lvT_len (n : Nat) (b : Nat → Bool) : (lvT n b).length = hT n := tabV_len _ _ _

/-- One bit of a word. -/
theorem sumW_wd {n k i : Nat} {b c : Nat → Bool} (hk : k = i / 64) (hi : i < n) (h : ∀ x, x ≠ i → c x = b x) : sumW (wdT n b k) (i % 64) (c i) = wdT n c k := by
  subst hk
  unfold sumW wdT
  refine wB_congr fun j hj => ?_
  rw [wB_bit, decide_eq_true hj, Bool.true_and]
  by_cases h1 : j = i % 64
  · rw [if_pos h1, show 64 * (i / 64) + j = i by omega, decide_eq_false (by omega)]; rfl
  · rw [if_neg h1, h _ (by omega)]
/-- Half of the levels of the new bits, half of the old. -/
def mixT (n : Nat) (b c : Nat → Bool) (k : Nat) : LV := tabV (hT n) (lenT n) fun l i => if l < k then fT n c l i else fT n b l i
theorem sums_mix {n : Nat} (hn : 1 ≤ n) {b c : Nat → Bool} {k lo hi : Nat} (hk : 1 ≤ k) (hkh : k < hT n) (hlo : lo ≤ hi + 1) (hhi : hi < szT n k) (hsame : ∀ i, (i < lo ∨ hi < i) → fT n b (k - 1) i = fT n c (k - 1) i) : sumsF (mixT n b c k) k lo (hi + 1 - lo) = mixT n b c (k + 1) := by
  have step : ∀ d, lo + d ≤ hi + 1 → sumsF (mixT n b c k) k lo d = tabV (hT n) (lenT n) fun l i => if l < k then fT n c l i else if l = k then wdT (szT n k) (fun x => if lo ≤ x ∧ x < lo + d then btT n c k x else btT n b k x) i else fT n b l i := by
    intro d
    induction d with
    | zero =>
      intro _
      show mixT n b c k = _
      unfold mixT
      refine tabV_congr fun l _ i _ => ?_
      by_cases h1 : l < k
      · rw [if_pos h1, if_pos h1]
      · rw [if_neg h1, if_neg h1]
        by_cases h2 : l = k
        · subst h2
          rw [if_pos rfl]
          refine wdT_congr fun x _ _ _ => ?_
          rw [if_neg (by omega)]
        · rw [if_neg h2]
    | succ d ih =>
      intro hd
      have ih := ih (by omega)
      show sum1 (sumsF (mixT n b c k) k lo d) k (lo + d) = _
      rw [ih]
      unfold sum1
      have hik : lo + d < szT n k := by omega
      have hq : (lo + d) / 64 < lenT n k := by
        show (lo + d) / 64 < (szT n k - 1) / 64 + 1
        omega
      have hk1 : lo + d < lenT n (k - 1) := by
        show lo + d < szT n (k - 1 + 1)
        rw [show k - 1 + 1 = k by omega]; exact hik
      rw [tabV_at (by omega) hk1, tabV_at hkh hq, tabV_put hkh hq]
      rw [if_neg (show ¬ k < k by omega), if_pos (show k = k from rfl), if_pos (show k - 1 < k by omega)]
      refine tabV_congr fun l _ i _ => ?_
      by_cases h1 : l < k
      · rw [if_pos h1, if_neg (by omega), if_pos h1]
      · rw [if_neg h1, if_neg h1]
        by_cases h2 : l = k
        · subst h2
          rw [if_pos rfl, if_pos rfl]
          by_cases h3 : i = (lo + d) / 64
          · rw [if_pos ⟨rfl, h3⟩, h3]
            have hbt : decide (fT n c (l - 1) (lo + d) = FW) = btT n c l (lo + d) := by
              obtain ⟨m, rfl⟩ : ∃ m, l = m + 1 := ⟨l - 1, by omega⟩
              rfl
            rw [hbt]
            have := sumW_wd (n := szT n l) (k := (lo + d) / 64) (i := lo + d) (b := fun x => if lo ≤ x ∧ x < lo + d then btT n c l x else btT n b l x) (c := fun x => if lo ≤ x ∧ x < lo + (d + 1) then btT n c l x else btT n b l x) rfl hik (fun x hx => by
              by_cases h4 : lo ≤ x ∧ x < lo + d
              · rw [if_pos h4, if_pos (by omega)]
              · rw [if_neg h4, if_neg (by omega)])
            rw [if_pos (by omega)] at this
            exact this
          · rw [if_neg (by omega)]
            refine wdT_congr fun x hx1 hx2 _ => ?_
            have : x ≠ lo + d := fun e => h3 (by omega)
            by_cases h4 : lo ≤ x ∧ x < lo + d
            · rw [if_pos h4, if_pos (by omega)]
            · rw [if_neg h4, if_neg (by omega)]
        · rw [if_neg h2, if_neg h2, if_neg (by omega)]
  rw [step _ (by omega)]
  unfold mixT
  refine tabV_congr fun l _ i _ => ?_
  by_cases h1 : l < k
  · rw [if_pos h1, if_pos (by omega)]
  · rw [if_neg h1]
    by_cases h2 : l = k
    · subst h2
      rw [if_pos rfl, if_pos (by omega)]
      refine wdT_congr fun x _ _ _ => ?_
      by_cases h4 : lo ≤ x ∧ x < lo + (hi + 1 - lo)
      · rw [if_pos h4]
      · rw [if_neg h4]
        obtain ⟨m, rfl⟩ : ∃ m, l = m + 1 := ⟨l - 1, by omega⟩
        have := hsame x (by omega)
        show decide (wdT (szT n m) (btT n b m) x = FW) = decide (wdT (szT n m) (btT n c m) x = FW)
        have this : wdT (szT n m) (btT n b m) x = wdT (szT n m) (btT n c m) x := this
        rw [this]
    · rw [if_neg h2, if_neg (by omega)]
/-- Words that are the same lie in words above that are. -/
theorem fT_same {n : Nat} {b c : Nat → Bool} {k lo hi : Nat} (h : ∀ i, (i < lo ∨ hi < i) → fT n b k i = fT n c k i) : ∀ i, (i < lo / 64 ∨ hi / 64 < i) → fT n b (k + 1) i = fT n c (k + 1) i := by
  intro i hi'
  refine wdT_congr fun x hx1 hx2 _ => ?_
  have := h x (by omega)
  show decide (wdT (szT n k) (btT n b k) x = FW) = decide (wdT (szT n k) (btT n c k) x = FW)
  have this : wdT (szT n k) (btT n b k) x = wdT (szT n k) (btT n c k) x := this
  rw [this]
theorem mix_all {n : Nat} (b c : Nat → Bool) : mixT n b c (hT n) = lvT n c := tabV_congr fun l hl i _ => by rw [if_pos hl]
theorem mixT_all_row {n : Nat} (hn : 1 ≤ n) (hn2 : n ≤ 65536) (b : Nat → Bool) : ∀ r ∈ lvT n b, r.length ≤ 100000 := tabV_row fun l _ => by have := lenT_le hn hn2 l; omega
end Go.Ev.W
namespace Go.Ev.W
open Go.Ev Go.Ev.N

theorem clone_words (es : List AV) (hl : es.length ≤ 1000000) : Told P T slices_Clone_uint64_uint64_b [] [.lst t_uint64 es] (.ref 0) [.row t_uint64 es] := by
  refine told_of_ev (fn := slices_Clone_uint64_uint64_b_fn) tabOk mixed (by kernel_rfl) (by kernel_rfl) (by kernel_rfl) (by kernel_rfl) ?_
  refine AnyB.mk (fun b hb => ?_)
  refine IfB.mk (fun h1 => ?_) (fun h1 => ?_)
  · obtain rfl := hb h1
    exact RetN.mk ⟨[1], rfl, rfl, rfl⟩
  · refine Room.mk (by first | omega | (simp; omega) | (simp; done)) ?_
    exact RetN.mk ⟨[2], rfl, rfl, rfl⟩
theorem clone_rows (es : List AV) (hl : es.length ≤ 1000000) : Told P T slices_Clone_uint64_uint64 [] [.lst ts_uint64 es] (.ref 0) [.row ts_uint64 es] := by
  refine told_of_ev (fn := slices_Clone_uint64_uint64_fn) tabOk mixed (by kernel_rfl) (by kernel_rfl) (by kernel_rfl) (by kernel_rfl) ?_
  refine AnyB.mk (fun b hb => ?_)
  refine IfB.mk (fun h1 => ?_) (fun h1 => ?_)
  · obtain rfl := hb h1
    exact RetN.mk ⟨[1], rfl, rfl, rfl⟩
  · refine Room.mk (by first | omega | (simp; omega) | (simp; done)) ?_
    exact RetN.mk ⟨[2], rfl, rfl, rfl⟩
/-- Rows of which the first so many are its own. -/
def ownG (v : LV) (k : Nat) : List (Bool × List AV) := ((v.take k).map fun r => (true, r.map u64)) ++ ((v.drop k).map fun r => (false, r.map u64))
theorem ownG_len (v : LV) (k : Nat) : (ownG v k).length = v.length := by simp [ownG]; omega
theorem ownG_at {v : LV} {k : Nat} (h : k < v.length) : (ownG v k)[k]? = some (false, v[k].map u64) := by
  unfold ownG
  rw [List.getElem?_append_right (by simp; omega)]
  simp [Nat.min_eq_left (Nat.le_of_lt h), h]
theorem ownG_set {v : LV} {k : Nat} (h : k < v.length) : (ownG v k).set k (true, v[k].map u64) = ownG v (k + 1) := by
  have hl : ((v.take k).map fun r => (true, r.map u64)).length = k := by simp; omega
  unfold ownG
  rw [List.set_append_right _ _ (by rw [hl]; exact Nat.le_refl _), hl, Nat.sub_self, List.drop_eq_getElem_cons h, List.map_cons, List.set_cons_zero, List.take_succ_eq_append_getElem h, List.map_append, List.append_assoc]
  rfl
theorem cloneG_told (v : LV) (hl : v.length ≤ 1000) : Told P T slices_Clone_uint64_uint64 [] [lV v] (.ref 0) [.grid ts_uint64 t_uint64 (ownG v 0)] := by
  have t := clone_rows (v.map lR) (by simp; omega)
  have t := t.grid 0 (e := ts_uint64) (e' := t_uint64) (fs := v.map fun r => r.map u64) (by
    show some (Blk.row ts_uint64 (v.map lR)) = _
    rw [List.map_map]; rfl) rfl (by decide)
  rw [show (v.map fun r => r.map u64).map (fun x => (false, x)) = ownG v 0 by unfold ownG; rw [List.map_map]; simp] at t
  exact t
set_option maxHeartbeats 2000000 in
theorem treeTwin_told {s : Int} {v : LV} (hv : v.length ≤ 1000) (hr : ∀ r ∈ v, r.length ≤ 100000) : Told P T tree_twin [] [eT s v] (.agg [i64 s, .ref 0]) [gV v] := by
  have c1 := cloneG_told v hv
  have hg0 := ownG_len v
  refine told_of_ev (fn := tree_twin_fn) tabOk mixed (by kernel_rfl) (by kernel_rfl) (by kernel_rfl) (by kernel_rfl) ?_
  (refine gw ?_; refine Choice.mk ⟨false, Choice.mk ⟨false, _, _, c1, ?_⟩⟩)
  (refine gw ?_; refine LoopN.mk ⟨[1,2,10,11,12], fun vs L => ∃ k : Nat, vs = [.ptr 0 0 0, .ptr 1 0 0, .ref 2, i64 (ownG v 0).length, i64 k] ∧ L = [.var (.agg [i64 s, .ref 2]), .var (.agg [i64 0, .und]), .grid ts_uint64 t_uint64 (ownG v k)] ∧ k ≤ v.length, fun vs L => match vs with | [_, _, _, _, .int _ i] => v.length - i.toNat | _ => 0, [], [0,1,3], rfl, ⟨0, rfl, rfl, by omega⟩, ?_⟩)
  rintro vs L ⟨k, rfl, rfl, hk⟩
  have hg := ownG_len v k
  have hg00 := hg0 0
  by_cases h1 : k < v.length
  · have hc2 := clone_words (v[k].map u64) (by have := hr _ (List.getElem_mem h1); simp; omega)
    have hat := ownG_at h1
    have hset := ownG_set h1
    (refine gw ?_; refine IfB.tt (by rw [hg00]; simp; omega) ?_)
    (refine gw ?_)
    refine ⟨_, _, hat, ?_⟩
    (refine gw ?_; refine Choice.mk ⟨false, Choice.mk ⟨false, _, _, hc2, ?_⟩⟩)
    (refine gw ?_)
    refine ⟨_, _, hat, ?_⟩
    (refine gw ?_; refine ⟨[], [0,1,2], rfl, ⟨k + 1, rfl, by rw [← hset]; rfl, h1⟩, (by omega : v.length - ((k : Int) + 1).toNat < v.length - (k : Int).toNat)⟩)
  · have e : k = v.length := by omega
    subst e
    have hend : ownG v v.length = v.map fun r => (true, r.map u64) := by unfold ownG; rw [List.take_length, List.drop_length]; simp
    rw [hend]
    (refine gw ?_; refine IfB.ff (by rw [hg00]; simp) ?_)
    (refine gw ?_)
    exact RetN.mk ⟨[2], rfl, rfl, rfl⟩
end Go.Ev.W
namespace Go.Ev.W
open Go.Ev Go.Ev.N

/-- Some bits set, or not. -/
def setB (b : Nat → Bool) (f m : Nat) (on : Bool) : Nat → Bool := fun x => if f ≤ x ∧ x < f + m then on else b x
/-- The same, as far as so many words. -/
def midB (b : Nat → Bool) (f last w : Nat) (on : Bool) : Nat → Bool := fun x => if f ≤ x ∧ x ≤ last ∧ x < 64 * w then on else b x
theorem mask_wd {n f last k : Nat} {b : Nat → Bool} {on : Bool} (h1 : f ≤ last) (h2 : last < n) (hk : f / 64 ≤ k) (hk2 : k ≤ last / 64) :
    ∃ y : Nat, bitsOp .andNot .u64 ((wdT n (midB b f last k on) k : Nat) : Int) ((maskF ((f - 64 * k : Nat) : Int) ((min (last - 64 * k) 63 - (f - 64 * k) + 1 : Nat) : Int) : Nat) : Int) = (y : Int) ∧
      (on = true → bitsOp .or .u64 (y : Int) ((maskF ((f - 64 * k : Nat) : Int) ((min (last - 64 * k) 63 - (f - 64 * k) + 1 : Nat) : Int) : Nat) : Int) = ((wdT n (midB b f last (k + 1) on) k : Nat) : Int)) ∧ (on = false → y = wdT n (midB b f last (k + 1) on) k) := by
  have hm := maskF_lt ((f - 64 * k : Nat) : Int) ((min (last - 64 * k) 63 - (f - 64 * k) + 1 : Nat) : Int)
  have hb : ∀ j, j < 64 → (maskF ((f - 64 * k : Nat) : Int) ((min (last - 64 * k) 63 - (f - 64 * k) + 1 : Nat) : Int)).testBit j = decide (f ≤ 64 * k + j ∧ 64 * k + j ≤ last) := fun j hj => by
    rw [maskF_bit hj (by omega), ← Bool.decide_and]
    refine decide_eq_decide.2 ?_
    omega
  generalize maskF ((f - 64 * k : Nat) : Int) ((min (last - 64 * k) 63 - (f - 64 * k) + 1 : Nat) : Int) = M at *
  have hw := wdT_lt n (midB b f last k on) k
  have hy := wB_lt 64 fun j => (wdT n (midB b f last k on) k).testBit j && !M.testBit j
  have hwb : ∀ j, j < 64 → (wdT n (midB b f last k on) k).testBit j = (decide (n ≤ 64 * k + j) || b (64 * k + j)) := fun j hj => by
    unfold wdT
    rw [wB_bit, decide_eq_true hj, Bool.true_and]
    congr 1
    unfold midB
    rw [if_neg (by omega)]
  refine ⟨_, andn64 hw hm, fun ho => ?_, fun ho => ?_⟩
  · subst ho
    rw [or64 hy hm]
    refine congrArg Int.ofNat ?_
    apply Nat.eq_of_testBit_eq
    intro j
    rw [Nat.testBit_or, wB_bit]
    by_cases hj : j < 64
    · rw [decide_eq_true hj, Bool.true_and, hwb j hj, hb j hj]
      unfold wdT
      rw [wB_bit, decide_eq_true hj, Bool.true_and]
      unfold midB
      by_cases h3 : f ≤ 64 * k + j ∧ 64 * k + j ≤ last
      · rw [decide_eq_true h3, if_pos (by omega)]; simp
      · rw [decide_eq_false h3, if_neg (by omega)]; simp
    · have hz := Nat.testBit_lt_two_pow (Nat.lt_of_lt_of_le (wdT_lt n (midB b f last (k + 1) true) k) (Nat.pow_le_pow_right (n := 2) (by omega) (show 64 ≤ j by omega)))
      rw [decide_eq_false hj, Nat.testBit_lt_two_pow (Nat.lt_of_lt_of_le hm (Nat.pow_le_pow_right (by omega) (by omega))), hz]; rfl
  · subst ho
    unfold wdT
    refine wB_congr fun j hj => ?_
    have := hwb j hj
    unfold wdT at this
    rw [this, hb j hj]
    unfold midB
    by_cases h3 : f ≤ 64 * k + j ∧ 64 * k + j ≤ last
    · rw [decide_eq_true h3, if_pos (by omega), decide_eq_false (show ¬ n ≤ 64 * k + j by omega)]; simp
    · rw [decide_eq_false h3, if_neg (by omega)]; simp
/-- The tree while its first level is written. -/
def zerT (n : Nat) (b c : Nat → Bool) : LV := tabV (hT n) (lenT n) fun l i => if l = 0 then wdT n c i else fT n b l i
theorem zerT_put {n : Nat} (hn : 1 ≤ n) {b : Nat → Bool} {f last k : Nat} {on : Bool} (hk2 : k ≤ last / 64) (h2 : last < n) : putF (zerT n b (midB b f last k on)) 0 k (wdT n (midB b f last (k + 1) on) k) = zerT n b (midB b f last (k + 1) on) := by
  have hk : k < lenT n 0 := by show k < (n - 1) / 64 + 1; omega
  unfold zerT
  rw [tabV_put (by have := hT_le n; omega) hk]
  refine tabV_congr fun l _ i _ => ?_
  by_cases hl : l = 0
  · subst hl
    rw [if_pos rfl, if_pos rfl]
    by_cases hi : i = k
    · subst hi; rw [if_pos ⟨rfl, rfl⟩]
    · rw [if_neg (by omega)]
      refine wdT_congr fun x _ _ _ => ?_
      unfold midB
      by_cases h3 : f ≤ x ∧ x ≤ last ∧ x < 64 * k
      · rw [if_pos h3, if_pos (by omega)]
      · rw [if_neg h3, if_neg (by omega)]
  · rw [if_neg hl, if_neg (by omega), if_neg hl]
theorem zerT_start {n : Nat} {b : Nat → Bool} {f last : Nat} {on : Bool} : lvT n b = zerT n b (midB b f last (f / 64) on) := by
  refine tabV_congr fun l _ i _ => ?_
  by_cases hl : l = 0
  · subst hl
    rw [if_pos rfl]
    refine wdT_congr fun x _ _ _ => ?_
    unfold midB
    rw [if_neg (by omega)]; rfl
  · rw [if_neg hl]
theorem zerT_end {n : Nat} {b : Nat → Bool} {f m last : Nat} {on : Bool} (hl : last + 1 = f + m ∨ (last + 1 = n ∧ n ≤ f + m)) : zerT n b (midB b f last (last / 64 + 1) on) = mixT n b (setB b f m on) 1 := by
  refine tabV_congr fun l _ i _ => ?_
  by_cases hl0 : l = 0
  · subst hl0
    rw [if_pos rfl, if_pos (by omega)]
    refine wdT_congr fun x _ _ hx => ?_
    show _ = setB b f m on x
    unfold midB setB
    have hx : x < n := hx
    by_cases h3 : f ≤ x ∧ x < f + m
    · rw [if_pos h3, if_pos (by omega)]
    · rw [if_neg h3, if_neg (by omega)]
  · rw [if_neg hl0, if_neg (by omega)]
theorem set_same {n : Nat} {b : Nat → Bool} {f m last : Nat} {on : Bool} (h1 : 1 ≤ m) (hl : last + 1 = f + m ∨ (last + 1 = n ∧ n ≤ f + m)) : ∀ i, (i < f / 64 ∨ last / 64 < i) → fT n b 0 i = fT n (setB b f m on) 0 i := by
  intro i hi
  refine wdT_congr fun x _ _ hx => ?_
  show b x = setB b f m on x
  have hx : x < n := hx
  unfold setB
  rw [if_neg (by omega)]
theorem div_lv {last n : Nat} (h : last < n) (l : Nat) : last / 64 ^ (l + 1) < szT n (l + 1) := by
  have key : ∀ l, last / 64 ^ l < szT n l := by
    intro l
    induction l with
    | zero => simpa [szT] using h
    | succ l ih =>
      show last / 64 ^ (l + 1) < (szT n l - 1) / 64 + 1
      rw [Nat.pow_succ, ← Nat.div_div_eq_div_mul]
      generalize last / 64 ^ l = q at *
      omega
  exact key (l + 1)
end Go.Ev.W
namespace Go.Ev.W
open Go.Ev Go.Ev.N

def setZ (b : Nat → Bool) (f m : Int) (on : Bool) : Nat → Bool := fun x => if 0 ≤ f ∧ f ≤ x ∧ (x : Int) < f + m then on else b x
theorem tabV_gn {H l : Nat} {len : Nat → Nat} {f : Nat → Nat → Nat} (h : l < H) {Q : Bool → List AV → Prop} (q : Q true (((List.range (len l)).map (f l)).map u64)) : GNode ((tabV H len f).map fun r => (true, r.map u64)) l Q := by
  have hl : l < (tabV H len f).length := by rw [tabV_len]; exact h
  refine gnode hl ?_
  rw [tabV_get]; exact q
theorem set_eq (b : Nat → Bool) {a mm : Nat} {m : Int} {on : Bool} (h : m = mm) (x : Nat) : setB b a mm on x = setZ b a m on x := by
  subst h
  unfold setB setZ
  by_cases hq : a ≤ x ∧ x < a + mm
  · rw [if_pos hq, if_pos (by omega)]
  · rw [if_neg hq, if_neg (by omega)]
theorem mix_len (n : Nat) (b c : Nat → Bool) (k : Nat) : (mixT n b c k).length = hT n := tabV_len _ _ _
theorem mix_row {n : Nat} (hn : 1 ≤ n) (hn2 : n ≤ 65536) (b c : Nat → Bool) (k : Nat) : ∀ r ∈ mixT n b c k, r.length ≤ 100000 := tabV_row fun l _ => by have := lenT_le hn hn2 l; omega
theorem mix_w (n : Nat) (b c : Nat → Bool) (k : Nat) : IsW (mixT n b c k) := tabV_w fun l k' => by split <;> exact fT_lt _ _ _ _
theorem pow_div64 (a c : Nat) : ((a / 64 ^ (c + 1) : Nat) : Int).tdiv 64 = ((a / 64 ^ (c + 2) : Nat) : Int) := by
  rw [Nat.pow_succ 64 (c + 1), ← Nat.div_div_eq_div_mul]
  exact (Int.ofNat_tdiv _ 64).symm
set_option maxHeartbeats 4000000 in
theorem treeSet_told {n : Nat} (hn : 1 ≤ n) (hn2 : n ≤ 65536) (b : Nat → Bool) (f m : Int) (hf : -9223372036854775808 ≤ f ∧ f ≤ 9223372036854775807) (on : Bool) : Told P T tree_Set [] [eTr n b, i64 f, i64 m, .bool on] (eTr n (setZ b f m on)) [] := by
  have hh := hT_le n
  have hlen := lvT_len n b
  have hrow : ∀ r ∈ lvT n b, r.length ≤ 100000 := tabV_row fun l _ => by have := lenT_le hn hn2 l; omega
  have c1 := treeTwin_told (s := n) (v := lvT n b) (by omega) hrow
  have c1 : Told P T tree_twin [] [eTr n b] _ _ := c1
  have hgl : ((lvT n b).map fun r => (true, r.map u64)).length = hT n := by simp [hlen]
  have same : (f < 0 ∨ m < 1 ∨ f ≥ n) → eTr n (setZ b f m on) = eTg n (lvT n b) := fun h => by
    unfold eTr
    rw [eTg_eq, lvT_congr (b := setZ b f m on) (c := b) fun x hx => by unfold setZ; rw [if_neg (by omega)]]
  refine told_of_ev (fn := tree_Set_fn) tabOk mixed (by kernel_rfl) (by kernel_rfl) (by kernel_rfl) (by kernel_rfl) ?_
  (refine gw ?_; refine Choice.mk ⟨false, Choice.mk ⟨false, _, _, c1, ?_⟩⟩)
  by_cases h1 : f < 0
  · rw [same (.inl h1)]
    (refine gw ?_; refine IfB.tt (by simpa using h1) ?_)
    (refine gw ?_; exact RetN.fz ⟨[true], [], rfl, rfl, rfl⟩)
  · (refine gw ?_; refine IfB.ff (by simpa using h1) ?_)
    by_cases h2 : m < 1
    · rw [same (.inr (.inl h2))]
      (refine gw ?_; refine IfB.tt (by simpa using h2) ?_)
      (refine gw ?_; exact RetN.fz ⟨[true], [], rfl, rfl, rfl⟩)
    · (refine gw ?_; refine IfB.ff (by simpa using h2) ?_)
      by_cases h3 : f ≥ n
      · rw [same (.inr (.inr h3))]
        (refine gw ?_; refine IfB.tt (by simpa using h3) ?_)
        (refine gw ?_; exact RetN.fz ⟨[true], [], rfl, rfl, rfl⟩)
      · obtain ⟨a, rfl⟩ : ∃ a : Nat, f = a := ⟨f.toNat, by omega⟩
        obtain ⟨last, hlast⟩ : ∃ last : Nat, ((a : Nat) : Int) + (if (n : Int) - a < m then (n : Int) - a else m) - 1 = last := ⟨((a : Nat) + (if (n : Int) - a < m then (n : Int) - a else m) - 1).toNat, by split <;> omega⟩
        have hlt : a ≤ last ∧ last < n := by split at hlast <;> omega
        have hld : ((last : Nat) : Int).tdiv 64 = ((last / 64 : Nat) : Int) := (Int.ofNat_tdiv last 64).symm
        have had : ((a : Nat) : Int).tdiv 64 = ((a / 64 : Nat) : Int) := (Int.ofNat_tdiv a 64).symm
        (refine gw ?_; refine IfB.ff (by simpa using h3) ?_)
        (refine gw ?_; refine IfB.ff (by rw [hgl]; simp; omega) ?_)
        (refine gw ?_)
        rw [hlast, had]
        (refine gw ?_; refine LoopN.mk ⟨[1,3,4,8,9,10], fun vs L => ∃ k : Nat, vs = [i64 a, .bool on, .ptr 0 0 0, .ptr 1 0 0, i64 last, i64 k] ∧ L = [.var (.agg [i64 n, .ref 2]), .var (.agg [i64 0, .und]), gV (zerT n b (midB b a last k on))] ∧ a / 64 ≤ k ∧ k ≤ last / 64 + 1, fun vs L => match vs with | [_, _, _, _, _, .int _ i] => last / 64 + 1 - i.toNat | _ => 0, [], [0,1,3], rfl, ⟨a / 64, rfl, by rw [← zerT_start]; rfl, by omega, by omega⟩, ?_⟩)
        rintro vs L ⟨k, rfl, rfl, hk1, hk2⟩
        have hl0 : (((List.range (lenT n 0)).map fun i => if (0 : Nat) = 0 then wdT n (midB b a last k on) i else fT n b 0 i).map u64).length = lenT n 0 := by simp
        have hln : lenT n 0 = (n - 1) / 64 + 1 := rfl
        have hmin : (if ((lenT n 0 : Nat) : Int) - 1 < ((last / 64 : Nat) : Int) then ((lenT n 0 : Nat) : Int) - 1 else ((last / 64 : Nat) : Int)) = ((last / 64 : Nat) : Int) := by rw [if_neg (by omega)]
        have hzl : ((zerT n b (midB b a last k on)).map fun r => (true, r.map u64)).length = hT n := by simp [zerT, tabV_len]
        (refine gw ?_)
        refine tabV_gn (l := 0) (by omega) ?_
        (refine gw ?_)
        refine tabV_gn (l := 0) (by omega) ?_
        (refine gw ?_)
        rw [hl0, hld]
        (refine gw ?_)
        rw [hmin]
        by_cases hkl : k ≤ last / 64
        · have hzr : ∀ r ∈ zerT n b (midB b a last k on), r.length ≤ 100000 := tabV_row fun l _ => by have := lenT_le hn hn2 l; omega
          have hzn : (zerT n b (midB b a last k on)).length ≤ 1000 := by simp [zerT, tabV_len]; omega
          have hat : atF (zerT n b (midB b a last k on)) 0 (k : Nat) = wdT n (midB b a last k on) k := by
            unfold zerT
            rw [tabV_at (by omega) (by rw [hln]; omega), if_pos rfl]
          have c2 := treeAt_told (s := n) hzn hzr 0 (k : Nat)
          rw [hat, ← eTg_eq] at c2
          have c3 := fun u => treePut_told (s := n) hzn hzr 0 (k : Nat) u
          have hput := zerT_put hn (b := b) (f := a) (on := on) hkl hlt.2
          obtain ⟨y, hy1, hy2, hy3⟩ := mask_wd (b := b) (on := on) hlt.1 hlt.2 hk1 hkl
          have hfst : (if (a : Int) - (k : Int) * 64 < 0 then (0 : Int) else (a : Int) - (k : Int) * 64) = ((a - 64 * k : Nat) : Int) := by split <;> omega
          have hmn : (if (63 : Int) < (last : Int) - (k : Int) * 64 then (63 : Int) else (last : Int) - (k : Int) * 64) - ((a - 64 * k : Nat) : Int) + 1 = ((min (last - 64 * k) 63 - (a - 64 * k) + 1 : Nat) : Int) := by split <;> omega
          have c4 : Told P T word_Mask [] _ _ _ := mask_told ((a - 64 * k : Nat) : Int) ((min (last - 64 * k) 63 - (a - 64 * k) + 1 : Nat) : Int) (by omega) (by omega)
          generalize maskF ((a - 64 * k : Nat) : Int) ((min (last - 64 * k) 63 - (a - 64 * k) + 1 : Nat) : Int) = M at hy1 hy2 c4
          generalize wdT n (midB b a last k on) k = w0 at hy1 hy2 hy3 c2 hat
          generalize wdT n (midB b a last (k + 1) on) k = w1 at hy2 hy3 hput
          (refine gw ?_; refine IfB.tt (by simp; omega) ?_)
          (refine gw ?_)
          rw [hfst]
          (refine gw ?_)
          rw [hmn]
          (refine gw ?_; refine Choice.mk ⟨false, Choice.mk ⟨true, _, _, c4, ?_⟩⟩)
          (refine gw ?_; refine Choice.mk ⟨false, Choice.mk ⟨true, _, _, c2, ?_⟩⟩)
          (refine gw ?_)
          rw [hy1]
          by_cases ho : on = true
          · (refine gw ?_; refine IfB.tt (by simpa using ho) ?_)
            (refine gw ?_)
            rw [hy2 ho]
            (refine gw ?_; refine Choice.mk ⟨true, Choice.mk ⟨false, _, _, c3 _, ?_⟩⟩)
            (refine gw ?_; refine ⟨[], [0,1,2], rfl, ⟨k + 1, rfl, by rw [← hput]; rfl, by omega, by omega⟩, (by omega : last / 64 + 1 - ((k : Int) + 1).toNat < last / 64 + 1 - (k : Int).toNat)⟩)
          · (refine gw ?_; refine IfB.ff (by simpa using ho) ?_)
            rw [hy3 (by simpa using ho)]
            (refine gw ?_; refine Choice.mk ⟨true, Choice.mk ⟨false, _, _, c3 _, ?_⟩⟩)
            (refine gw ?_; refine ⟨[], [0,1,2], rfl, ⟨k + 1, rfl, by rw [← hput]; rfl, by omega, by omega⟩, (by omega : last / 64 + 1 - ((k : Int) + 1).toNat < last / 64 + 1 - (k : Int).toNat)⟩)
        · (refine gw ?_; refine IfB.ff (by simp; omega) ?_)
          (refine gw ?_)
          refine tabV_gn (l := 0) (by omega) ?_
          (refine gw ?_)
          refine tabV_gn (l := 0) (by omega) ?_
          (refine gw ?_)
          rw [hl0, had, hld]
          (refine gw ?_)
          rw [hmin]
          have hke : k = last / 64 + 1 := by omega
          obtain ⟨mm, hme⟩ : ∃ mm : Nat, m = mm := ⟨m.toNat, by omega⟩
          have hlm : last + 1 = a + mm ∨ (last + 1 = n ∧ n ≤ a + mm) := by split at hlast <;> omega
          have hend : eTg n (lvT n (setB b a mm on)) = eTr n (setZ b a m on) := by
            unfold eTr
            rw [eTg_eq, lvT_congr (b := setB b a mm on) (c := setZ b a m on) fun x hx => set_eq b hme x]
          rw [hke, zerT_end hlm]
          (refine gw ?_; refine LoopN.mk ⟨[4,8,14,15,16], fun vs L => ∃ c : Nat, vs = [.ptr 0 0 0, .ptr 1 0 0, i64 (a / 64 ^ (c + 1) : Nat), i64 (last / 64 ^ (c + 1) : Nat), i64 (c + 1 : Nat)] ∧ L = [.var (.agg [i64 n, .ref 2]), .var (.agg [i64 0, .und]), gV (mixT n b (setB b a mm on) (c + 1))] ∧ c + 1 ≤ hT n ∧ (∀ i, (i < a / 64 ^ (c + 1) ∨ last / 64 ^ (c + 1) < i) → fT n b c i = fT n (setB b a mm on) c i), fun vs L => match vs with | [_, _, _, _, .int _ i] => hT n - i.toNat | _ => 0, [], [0,1,2], rfl, ⟨0, by rw [Nat.pow_one]; rfl, rfl, by omega, by rw [Nat.pow_one]; exact set_same (by omega) hlm⟩, ?_⟩)
          rintro vs L ⟨c, rfl, rfl, hc, hsame⟩
          have hml : ((mixT n b (setB b a mm on) (c + 1)).map fun r => (true, r.map u64)).length = hT n := by rw [List.length_map]; exact mix_len _ _ _ _
          have hda := pow_div64 a c
          have hdl := pow_div64 last c
          have hle : a / 64 ^ (c + 1) ≤ last / 64 ^ (c + 1) := Nat.div_le_div_right hlt.1
          have hsm : last / 64 ^ (c + 1) < szT n (c + 1) := div_lv hlt.2 c
          have hsz := szT_le_n hn (c + 1)
          have hd1 : a / 64 ^ (c + 1 + 1) ≤ a := Nat.div_le_self _ _
          have hd2 : last / 64 ^ (c + 1 + 1) ≤ last := Nat.div_le_self _ _
          have hd3 : a / 64 ^ (c + 1 + 1) ≤ last / 64 ^ (c + 1 + 1) := Nat.div_le_div_right hlt.1
          have hd4 : a / 64 ^ (c + 1) ≤ a := Nat.div_le_self _ _
          have hd5 : last / 64 ^ (c + 1) ≤ last := Nat.div_le_self _ _
          by_cases hcc : c + 1 < hT n
          · have c5 := treeSums_told (s := n) (by rw [mix_len]; omega) (mix_row hn hn2 b (setB b a mm on) (c + 1)) (mix_w _ _ _ _) (c + 1) (a / 64 ^ (c + 1)) (last / 64 ^ (c + 1)) (by omega) (by omega) (by omega)
            rw [sums_mix hn (by omega) hcc (by omega) hsm hsame] at c5
            have hsame2 := fT_same hsame
            rw [Nat.div_div_eq_div_mul, Nat.div_div_eq_div_mul, ← Nat.pow_succ] at hsame2
            generalize setB b a mm on = cb at *
            generalize hA : a / 64 ^ (c + 1) = A at *
            generalize hB : a / 64 ^ (c + 1 + 1) = A' at *
            generalize hC : last / 64 ^ (c + 1) = B at *
            generalize hD : last / 64 ^ (c + 1 + 1) = B' at *
            (refine gw ?_; refine IfB.tt (by rw [hml]; simp; omega) ?_)
            (refine gw ?_; refine Choice.mk ⟨true, Choice.mk ⟨false, _, _, c5, ?_⟩⟩)
            (refine gw ?_)
            rw [hda]
            (refine gw ?_)
            rw [hdl]
            (refine gw ?_)
            (refine gw ?_; refine ⟨[], [0,1,2], rfl, ⟨c + 1, by rw [hB, hD]; rfl, rfl, by omega, by rw [hB, hD]; exact hsame2⟩, (by omega : hT n - ((c + 1 : Nat) + 1 : Int).toNat < hT n - ((c + 1 : Nat) : Int).toNat)⟩)
          · have e : c + 1 = hT n := by omega
            (refine gw ?_; refine IfB.ff (by rw [hml]; simp; omega) ?_)
            rw [e, mix_all, ← hend]
            (refine gw ?_; exact RetN.fz ⟨[true], [], rfl, rfl, rfl⟩)
end Go.Ev.W
namespace Go.Ev.W
open Go.Ev Go.Ev.N

def offB : Nat → Bool := fun _ => false
theorem off_full {m k : Nat} (h : 64 * k + 64 ≤ m) : wdT m offB k = 0 := by
  unfold wdT
  apply Nat.eq_of_testBit_eq
  intro j
  rw [wB_bit, Nat.zero_testBit]
  by_cases hj : j < 64
  · rw [decide_eq_false (show ¬ m ≤ 64 * k + j by omega)]; simp [offB]
  · rw [decide_eq_false hj]; rfl
theorem off_last {m k : Nat} (h : 64 * k < m) (h2 : m < 64 * k + 64) : wdT m offB k = maskF ((m % 64 : Nat) : Int) 64 := by
  have hm := maskF_lt ((m % 64 : Nat) : Int) 64
  unfold wdT
  apply Nat.eq_of_testBit_eq
  intro j
  rw [wB_bit]
  by_cases hj : j < 64
  · rw [maskF_bit hj (by omega), decide_eq_true hj, Bool.true_and, ← Bool.decide_and]
    show (decide (m ≤ 64 * k + j) || false) = _
    rw [Bool.or_false]
    refine decide_eq_decide.2 ?_
    omega
  · rw [decide_eq_false hj, Nat.testBit_lt_two_pow (Nat.lt_of_lt_of_le hm (Nat.pow_le_pow_right (by omega) (by omega)))]; rfl
def rowT (m : Nat) (b : Nat → Bool) : List Nat := (List.range ((m - 1) / 64 + 1)).map (wdT m b)
theorem rowT_len (m : Nat) (b : Nat → Bool) : (rowT m b).length = (m - 1) / 64 + 1 := by simp [rowT]
theorem rowT_get {m i : Nat} {b : Nat → Bool} (h : i < (rowT m b).length) : (rowT m b)[i] = wdT m b i := by simp [rowT]
theorem level_told {m : Nat} (h1 : 1 ≤ m) (h2 : m ≤ 65536) : Told P T tree_level [] [i64 m] (.ref 0) [.row t_uint64 ((rowT m offB).map u64)] := by
  have hd : ((m : Nat) : Int) - 1 = ((m - 1 : Nat) : Int) := by omega
  have hdd : ((m - 1 : Nat) : Int).tdiv 64 = (((m - 1) / 64 : Nat) : Int) := (Int.ofNat_tdiv (m - 1) 64).symm
  have hmd : ((m : Nat) : Int).tmod 64 = ((m % 64 : Nat) : Int) := by rw [Int.tmod_eq_emod_of_nonneg (by omega)]; omega
  refine told_of_ev (fn := tree_level_fn) tabOk mixed (by kernel_rfl) (by kernel_rfl) (by kernel_rfl) (by kernel_rfl) ?_
  (refine gw ?_)
  rw [hd, hdd]
  (refine gw ?_)
  rw [show (((m - 1) / 64 : Nat) : Int) + 1 = (((m - 1) / 64 + 1 : Nat) : Int) by omega, Int.toNat_natCast]
  refine Room.mk (by omega) ?_
  have hz : List.replicate ((m - 1) / 64 + 1) (zeroE T t_uint64) = ((List.replicate ((m - 1) / 64 + 1) 0).map u64) := by rw [List.map_replicate]; rfl
  rw [hz]
  have hzl : ((List.replicate ((m - 1) / 64 + 1) 0).map u64).length = (m - 1) / 64 + 1 := by simp
  (refine gw ?_)
  rw [hmd]
  by_cases h3 : 0 < m % 64
  · have c1 := mask_told ((m % 64 : Nat) : Int) 64 (by omega) (by omega)
    have c1 : Told P T word_Mask [] _ _ _ := c1
    have hs : (List.replicate ((m - 1) / 64 + 1) 0).set ((m - 1) / 64) (maskF ((m % 64 : Nat) : Int) 64) = rowT m offB := by
      apply List.ext_getElem (by simp [rowT_len])
      intro i h4 h5
      have hi : i < (m - 1) / 64 + 1 := by simpa using h4
      rw [rowT_get, List.getElem_set]
      split
      · rename_i he; subst he; rw [off_last (by omega) (by omega)]
      · rw [List.getElem_replicate, off_full (by omega)]
    rw [← hs]
    generalize maskF ((m % 64 : Nat) : Int) 64 = M at *
    (refine gw ?_; refine IfB.tt (by simp; omega) ?_)
    (refine gw ?_)
    rw [hzl]
    (refine gw ?_; refine Choice.mk ⟨false, Choice.mk ⟨false, _, _, c1, ?_⟩⟩)
    (refine gw ?_)
    have hs2 : ((List.replicate ((m - 1) / 64 + 1) 0).map u64).set ((((m - 1) / 64 + 1 : Nat) : Int) - 1).toNat (u64 M) = ((List.replicate ((m - 1) / 64 + 1) 0).set ((m - 1) / 64) M).map u64 := by
      rw [show ((((m - 1) / 64 + 1 : Nat) : Int) - 1).toNat = (m - 1) / 64 by omega, List.map_set]
    rw [← hs2]
    exact RetN.mk ⟨[1], rfl, rfl, rfl⟩
  · have hs : List.replicate ((m - 1) / 64 + 1) 0 = rowT m offB := by
      apply List.ext_getElem (by simp [rowT_len])
      intro i h4 h5
      have hi : i < (m - 1) / 64 + 1 := by simpa using h4
      rw [rowT_get, List.getElem_replicate, off_full (by omega)]
    rw [← hs]
    (refine gw ?_; refine IfB.ff (by simp; omega) ?_)
    (refine gw ?_; exact RetN.mk ⟨[1], rfl, rfl, rfl⟩)
end Go.Ev.W
namespace Go.Ev.W
open Go.Ev Go.Ev.N

/-- The first levels of a tree. -/
def upT (n : Nat) (b : Nat → Bool) (l : Nat) : LV := (lvT n b).take l
theorem off_bt {n : Nat} (hn : 1 ≤ n) : ∀ (l i : Nat), i < szT n l → btT n offB l i = false := by
  intro l
  induction l with
  | zero => intro i _; rfl
  | succ l ih =>
    intro i hi
    have hi : i < (szT n l - 1) / 64 + 1 := hi
    show decide (wdT (szT n l) (btT n offB l) i = FW) = false
    refine decide_eq_false fun h => ?_
    have hz := szT_pos hn l
    have := congrArg (fun u => Nat.testBit u 0) h
    unfold wdT at this
    simp only [wB_bit] at this
    rw [ih _ (by omega), decide_eq_false (show ¬ szT n l ≤ 64 * i + 0 by omega)] at this
    revert this; decide
theorem upT_len {n l : Nat} (b : Nat → Bool) (h : l ≤ hT n) : (upT n b l).length = l := by
  unfold upT
  rw [List.length_take, lvT_len]; omega
theorem upT_suc {n l : Nat} (hn : 1 ≤ n) (h : l < hT n) : upT n offB (l + 1) = upT n offB l ++ [rowT (szT n l) offB] := by
  have hl : l < (lvT n offB).length := by rw [lvT_len]; exact h
  unfold upT
  rw [List.take_succ_eq_append_getElem hl]
  congr 2
  rw [show (lvT n offB)[l] = (List.range (lenT n l)).map (fT n offB l) from tabV_get hl]
  refine List.map_congr_left fun i _ => wdT_congr fun x _ _ hx => off_bt hn l x hx
end Go.Ev.W
namespace Go.Ev.W
open Go.Ev Go.Ev.N

theorem sz_div {n : Nat} {x : Nat} (h : x < n) : ∀ l, x / 64 ^ l < szT n l := by
  intro l
  induction l with
  | zero => simpa [szT] using h
  | succ l ih =>
    show x / 64 ^ (l + 1) < (szT n l - 1) / 64 + 1
    rw [Nat.pow_succ, ← Nat.div_div_eq_div_mul]
    generalize x / 64 ^ l = q at *
    omega
theorem fT_bit {n : Nat} {b : Nat → Bool} {l k j : Nat} (hj : j < 64) : (fT n b l k).testBit j = (decide (szT n l ≤ 64 * k + j) || btT n b l (64 * k + j)) := by
  unfold fT wdT
  rw [wB_bit, decide_eq_true hj, Bool.true_and]
theorem FW_bit {j : Nat} (hj : j < 64) : FW.testBit j = true := by
  have h : FW = 2 ^ 64 - 1 := by decide
  rw [h, Nat.testBit_two_pow_sub_one]; simpa using hj
/-- A bit that is set tells that all below it are. -/
theorem bt_full {n : Nat} {b : Nat → Bool} : ∀ (k j : Nat), btT n b k j = true → ∀ x, x / 64 ^ k = j → x < n → b x = true := by
  intro k
  induction k with
  | zero => intro j h x hx _; rw [Nat.pow_zero, Nat.div_one] at hx; subst hx; exact h
  | succ k ih =>
    intro j h x hx hn
    have h : decide (fT n b k j = FW) = true := h
    have h := of_decide_eq_true h
    rw [Nat.pow_succ, ← Nat.div_div_eq_div_mul] at hx
    have hs := sz_div hn k
    refine ih (x / 64 ^ k) ?_ x rfl hn
    generalize x / 64 ^ k = q at *
    have hb : (fT n b k j).testBit (q - 64 * j) = FW.testBit (q - 64 * j) := congrArg (fun u => Nat.testBit u (q - 64 * j)) h
    rw [fT_bit (by omega), FW_bit (by omega), show 64 * j + (q - 64 * j) = q by omega, decide_eq_false (by omega), Bool.false_or] at hb
    exact hb
/-- A bit that is not set has one below it that is not. -/
theorem bt_zero {n : Nat} {b : Nat → Bool} {k j : Nat} (h : btT n b (k + 1) j = false) : ∃ z, z < 64 ∧ lowW (fun i => !(fT n b k j).testBit i) = z ∧ 64 * j + z < szT n k ∧ btT n b k (64 * j + z) = false ∧ ∀ i, i < z → btT n b k (64 * j + i) = true ∨ szT n k ≤ 64 * j + i := by
  have h : decide (fT n b k j = FW) = false := h
  have h := of_decide_eq_false h
  rcases lowW_spec (fun i => !(fT n b k j).testBit i) with ⟨_, h2⟩ | ⟨h1, h2, h3⟩
  · refine absurd ?_ h
    apply Nat.eq_of_testBit_eq
    intro i
    by_cases hi : i < 64
    · rw [FW_bit hi]; simpa using h2 i hi
    · rw [Nat.testBit_lt_two_pow (Nat.lt_of_lt_of_le (fT_lt n b k j) (Nat.pow_le_pow_right (n := 2) (by omega) (show 64 ≤ i by omega))), Nat.testBit_lt_two_pow (Nat.lt_of_lt_of_le (show FW < 2 ^ 64 by decide) (Nat.pow_le_pow_right (n := 2) (by omega) (show 64 ≤ i by omega)))]
  · refine ⟨_, h1, rfl, ?_, ?_, fun i hi => ?_⟩
    · rw [fT_bit h1] at h2
      generalize lowW _ = z at *
      cases hd : decide (szT n k ≤ 64 * j + z) with
      | true => rw [hd] at h2; simp at h2
      | false => have := of_decide_eq_false hd; omega
    · rw [fT_bit h1] at h2
      generalize lowW _ = z at *
      simpa using (by simpa using h2 : _ ∧ _).2
    · have h4 := h3 i hi
      rw [fT_bit (by omega)] at h4
      generalize lowW _ = z at *
      by_cases h5 : szT n k ≤ 64 * j + i
      · exact .inr h5
      · rw [decide_eq_false h5] at h4; left; simpa using h4
end Go.Ev.W
