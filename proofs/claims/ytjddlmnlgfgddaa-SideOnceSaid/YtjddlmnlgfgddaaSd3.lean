/- Words and lemmas for the law s of this seat (a part of its proof). -/
import Derived.Test.YtjddlmnlgfgddaaSlMark
import Derived.Laws.Bits64
set_option linter.unusedVariables false
set_option linter.unusedSimpArgs false
namespace Go.Ev.W
open Go.Ev Go.Ev.N

structure M where
  at' : Int
  cl : Int
  deriving DecidableEq
def encM (m : M) : AV := .agg [.int .i64 m.at', .int .i64 m.cl]
def cmpI (x y : Int) : Int := if x < y then -1 else if x > y then 1 else 0

theorem isNaN_told (x : Int) : Told P T cmp_isNaN_int [] [.int .i64 x] (.bool false) [] := by
  refine told_of_ev (fn := cmp_isNaN_int_fn) tabOk mixed (by kernel_rfl) (by kernel_rfl) (by kernel_rfl) (by kernel_rfl) ?_
  refine RetN.mk ⟨[], rfl, ?_, rfl⟩
  show AV.bool (x != x) = AV.bool false
  simp
theorem compare_told (x y : Int) : Told P T cmp_Compare_int [] [.int .i64 x, .int .i64 y] (.int .i64 (cmpI x y)) [] := by
  refine told_of_ev (fn := cmp_Compare_int_fn) tabOk mixed (by kernel_rfl) (by kernel_rfl) (by kernel_rfl) (by kernel_rfl) ?_
  refine Choice.mk ⟨false, Choice.mk ⟨false, _, _, isNaN_told x, ?_⟩⟩
  refine Choice.mk ⟨false, Choice.mk ⟨false, _, _, isNaN_told y, ?_⟩⟩
  refine IfB.ff rfl ?_
  refine IfB.ff rfl ?_
  refine IfB.mk (fun h1 => ?_) (fun h1 => ?_)
  · refine RetN.mk ⟨[], rfl, ?_, rfl⟩
    show AV.int .i64 (-1) = AV.int .i64 (cmpI x y)
    have := of_decide_eq_true h1
    simp [cmpI, this]
  · have h1 := of_decide_eq_false h1
    refine IfB.mk (fun h2 => ?_) (fun h2 => ?_)
    · refine RetN.mk ⟨[], rfl, ?_, rfl⟩
      have := of_decide_eq_true h2
      show AV.int .i64 1 = AV.int .i64 (cmpI x y)
      simp [cmpI, h1, this]
    · refine RetN.mk ⟨[], rfl, ?_, rfl⟩
      have := of_decide_eq_false h2
      show AV.int .i64 0 = AV.int .i64 (cmpI x y)
      simp [cmpI, h1, this]
theorem find1_told (m : M) (y : Int) : Told P T side_find_1 [] [encM m, .int .i64 y] (.int .i64 (cmpI m.at' y)) [] := by
  refine told_of_ev (fn := side_find_1_fn) tabOk mixed (by kernel_rfl) (by kernel_rfl) (by kernel_rfl) (by kernel_rfl) ?_
  refine Choice.mk ⟨false, Choice.mk ⟨false, _, _, compare_told m.at' y, ?_⟩⟩
  exact RetN.mk ⟨[], rfl, rfl, rfl⟩

/-- Marks that rise. -/
def Rise (l : List M) : Prop := l.Pairwise fun a b => a.at' < b.at'
/-- How many begin below. -/
def low (y : Int) : List M → Nat
  | [] => 0
  | m :: l => if m.at' < y then low y l + 1 else 0
theorem low_le (y : Int) : ∀ l, low y l ≤ l.length
  | [] => Nat.le_refl _
  | m :: l => by
    have := low_le y l
    unfold low; split <;> simp <;> omega
theorem low_spec {y : Int} : ∀ {l : List M}, Rise l → ∀ k (h : k < l.length), (k < low y l ↔ (l[k]).at' < y)
  | [], _, k, h => by simp at h
  | m :: l, hr, k, h => by
    have hr' : Rise l := (List.pairwise_cons.1 hr).2
    have hm := (List.pairwise_cons.1 hr).1
    unfold low
    split
    · rename_i hlt
      cases k with
      | zero => simpa using hlt
      | succ k =>
        have := low_spec (y := y) hr' k (by simpa using h)
        simpa using this
    · rename_i hge
      constructor
      · intro h; omega
      · intro h2
        cases k with
        | zero => exact absurd h2 hge
        | succ k =>
          have hk : k < l.length := by simpa using h
          have := hm l[k] (List.getElem_mem hk)
          simp at h2; omega
def isAt (y : Int) (l : List M) : Bool := match l[low y l]? with
  | some m => m.at' == y
  | none => false

set_option maxHeartbeats 4000000 in
theorem bsearch_told (l : List M) (hr : Rise l) (y : Int) (hl : l.length ≤ 1000000) :
    Told P T slices_BinarySearchFunc_api_Mark_api_Mark_int [] [.lst t_api_Mark (l.map encM), .int .i64 y, .fn side_find_1 []] (.tup [.int .i64 (low y l : Nat), .bool (isAt y l)]) [] := by
  refine told_of_ev (fn := slices_BinarySearchFunc_api_Mark_api_Mark_int_fn) tabOk mixed (by kernel_rfl) (by kernel_rfl) (by kernel_rfl) (by kernel_rfl) ?_
  have hlow := low_le y l
  refine LoopN.mk ⟨[0, 1, 2, 8, 9, 10], fun vs L => ∃ i j : Nat, vs = [.lst t_api_Mark (l.map encM), .int .i64 y, .fn side_find_1 [], .int .i64 (l.map encM).length, .int .i64 (i : Nat), .int .i64 (j : Nat)] ∧ L = [] ∧ i ≤ low y l ∧ low y l ≤ j ∧ j ≤ l.length,
    fun vs L => match vs with | [_, _, _, _, .int _ i, .int _ j] => j.toNat - i.toNat | _ => 0, [], [], rfl, ⟨0, (l.map encM).length, rfl, rfl, Nat.zero_le _, by rw [List.length_map]; exact hlow, by rw [List.length_map]; exact Nat.le_refl _⟩, ?_⟩
  rintro vs L ⟨i, j, rfl, rfl, h1, h2, h3⟩
  refine IfB.mk (fun h4 => ?_) (fun h4 => ?_)
  · have hij : i < j := by have := of_decide_eq_true h4; omega
    refine fits (wrap64 (by omega) (by omega)) ?_
    refine Fits.mk ?_
    refine Need.mk (by decide) ?_
    refine Fits.mk ?_
    have eh : IntKind.i64.wrap ((IntKind.u64.wrap ((i : Int) + j)).fdiv (2 ^ min (Int.toNat 1) IntKind.u64.bits)) = (((i + j) / 2 : Nat) : Int) := by
      rw [IntKind.wrap_u64, show (2 : Int) ^ min (Int.toNat 1) IntKind.u64.bits = 2 from rfl, Int.fdiv_eq_ediv_of_nonneg _ (by omega), IntKind.wrap_i64]
      omega
    rw [eh]
    generalize hq : (i + j) / 2 = q
    have hqj : q < l.length := by omega
    refine Idx.mk ⟨encM l[q], by omega, by simp [hqj], ?_⟩
    refine Choice.mk ⟨false, Choice.mk ⟨false, _, _, find1_told l[q] y, ?_⟩⟩
    have hs := low_spec (y := y) hr q hqj
    refine IfB.mk (fun h5 => ?_) (fun h5 => ?_)
    · have hlt : (l[q]).at' < y := by
        have := of_decide_eq_true h5
        unfold cmpI at this
        split at this
        · assumption
        · split at this <;> omega
      refine fits (wrap64 (by omega) (by omega)) ?_
      refine ⟨[], [], rfl, ⟨q + 1, j, ?_, rfl, by have := hs.2 hlt; omega, h2, h3⟩, ?_⟩
      · rw [show (((q + 1 : Nat)) : Int) = ((q : Nat) : Int) + 1 by omega]; rfl
      · show ((j : Nat) : Int).toNat - (((q : Nat) : Int) + 1).toNat < ((j : Nat) : Int).toNat - ((i : Nat) : Int).toNat
        omega
    · have hge : ¬ (l[q]).at' < y := by
        intro hlt
        have := of_decide_eq_false h5
        simp [cmpI, hlt] at this
      refine ⟨[], [], rfl, ⟨i, q, rfl, rfl, h1, by have := fun h => hge (hs.1 h); omega, by omega⟩, ?_⟩
      show ((q : Nat) : Int).toNat - ((i : Nat) : Int).toNat < ((j : Nat) : Int).toNat - ((i : Nat) : Int).toNat
      omega
  · have hij : i = low y l := by have := of_decide_eq_false h4; omega
    subst hij
    refine IfB.mk (fun h5 => ?_) (fun h5 => ?_)
    · have hlt : low y l < l.length := by have := of_decide_eq_true h5; simp at this; omega
      repeat refine IfB.tt rfl ?_
      refine Idx.mk ⟨encM l[low y l], by omega, by simp [hlt], ?_⟩
      repeat refine IfB.tt rfl ?_
      refine Choice.mk ⟨false, Choice.mk ⟨false, _, _, find1_told _ y, ?_⟩⟩
      repeat refine IfB.tt rfl ?_
      refine RetN.mk ⟨[], rfl, ?_, rfl⟩
      show AV.tup [.int .i64 _, .bool (cmpI _ y == 0)] = AV.tup [.int .i64 _, .bool (isAt y l)]
      have : (cmpI (l[low y l]).at' y == 0) = isAt y l := by
        unfold isAt
        rw [List.getElem?_eq_getElem hlt]
        simp only [cmpI]
        split
        · rename_i h; simp; omega
        · split
          · rename_i h; simp; omega
          · simp; omega
      rw [this]
    · have hge : ¬ low y l < l.length := by have := of_decide_eq_false h5; simp at this; omega
      repeat refine IfB.ff rfl ?_
      refine RetN.mk ⟨[], rfl, ?_, rfl⟩
      show AV.tup [.int .i64 _, .bool false] = AV.tup [.int .i64 _, .bool (isAt y l)]
      have : isAt y l = false := by
        unfold isAt
        rw [List.getElem?_eq_none (by omega)]
      rw [this]
end Go.Ev.W

