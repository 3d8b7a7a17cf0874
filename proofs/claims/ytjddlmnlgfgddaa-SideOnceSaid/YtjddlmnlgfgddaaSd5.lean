/- Words and lemmas for the law s of this seat (a part of its proof). -/
import Derived.Test.YtjddlmnlgfgddaaSd4
set_option linter.unusedVariables false
set_option linter.unusedSimpArgs false
namespace Go.Ev.W
open Go.Ev Go.Ev.N

set_option maxHeartbeats 4000000 in
theorem sameMarks (xs ys : List M) (hx : xs.length ≤ 1000000) : Told P T ref8_SameMarks [] [.lst t_api_Mark (xs.map encM), .lst t_api_Mark (ys.map encM)] (.bool (decide (xs = ys))) [] := by
  refine told_of_ev (fn := ref8_SameMarks_fn) tabOk mixed (by kernel_rfl) (by kernel_rfl) (by kernel_rfl) (by kernel_rfl) ?_
  refine IfB.mk (fun hb => ?_) (fun hb => ?_)
  · refine RetN.mk ⟨[], rfl, ?_, rfl⟩
    show AV.bool false = AV.bool _
    rw [decide_eq_false]
    rintro rfl
    simp at hb
  · have hl : xs.length = ys.length := by simp at hb; omega
    refine LoopN.mk ⟨[0,1,5], fun vs L => ∃ i : Nat, vs = [.lst t_api_Mark (xs.map encM), .lst t_api_Mark (ys.map encM), .int .i64 i] ∧ i ≤ xs.length ∧ L = [] ∧ xs.take i = ys.take i, fun vs L => match vs with | [_, _, .int _ i] => xs.length - i.toNat | _ => 0, [], [], rfl, ⟨0, rfl, by omega, rfl, rfl⟩, ?_⟩
    rintro vs L ⟨i, rfl, hi, rfl, ht⟩
    refine IfB.mk (fun hb => ?_) (fun hb => ?_)
    · have hlt : i < xs.length := by simpa using hb
      refine Idx.mk ⟨encM xs[i], by omega, by simp [hlt], ?_⟩
      refine Idx.mk ⟨encM ys[i], by omega, by simp [hl ▸ hlt], ?_⟩
      refine Sure.mk (by kernel_rfl) ?_
      refine IfB.mk (fun hc => ?_) (fun hc => ?_)
      · refine RetN.mk ⟨[], rfl, ?_, rfl⟩
        show AV.bool false = AV.bool _
        rw [decide_eq_false]
        rintro rfl
        simp at hc
      · refine fits (wrap64 (by omega) (by omega)) ?_
        refine ⟨[], [], rfl, ⟨i + 1, rfl, hlt, rfl, ?_⟩, ?_⟩
        · have : xs[i] = ys[i] := by
            cases hx : xs[i]; cases hy : ys[i]
            rw [hx, hy] at hc
            simpa [encM] using hc
          rw [List.take_succ_eq_append_getElem hlt, List.take_succ_eq_append_getElem (hl ▸ hlt), ht, this]
        · show xs.length - (((i : Int) + 1).toNat) < xs.length - ((i : Int)).toNat
          omega
    · have hge : ¬ i < xs.length := by simpa using hb
      refine RetN.mk ⟨[], rfl, ?_, rfl⟩
      show AV.bool true = AV.bool _
      have : i = xs.length := by omega
      subst this
      rw [List.take_length, hl, List.take_length] at ht
      subst ht
      simp

theorem low_at {y : Int} {l : List M} (hr : Rise l) {k : Nat} (hk : k < l.length) : (l[k]).at' = y ↔ (k = low y l ∧ isAt y l = true) := by
  have hs := low_spec (y := y) hr
  constructor
  · intro e
    have h1 : ¬ k < low y l := fun h => by have := (hs k hk).1 h; omega
    have h2 : k = low y l := by
      rcases Nat.lt_or_ge (low y l) k with h | h
      · exfalso
        have h3 : low y l < l.length := by omega
        have h4 : ¬ (l[low y l]).at' < y := fun h5 => by have := (hs _ h3).2 h5; omega
        have h5 := List.pairwise_iff_getElem.1 hr (low y l) k h3 hk h
        omega
      · omega
    refine ⟨h2, ?_⟩
    subst h2
    unfold isAt
    rw [List.getElem?_eq_getElem hk]
    simpa using e
  · rintro ⟨rfl, h⟩
    unfold isAt at h
    rw [List.getElem?_eq_getElem hk] at h
    simpa using h

def skipAt (y : Int) (l : List M) : Nat := if isAt y l = true then 1 else 0
def outM (l : List M) (m : M) (i : Nat) : List M := if i ≤ low m.at' l then l.take i else l.take (low m.at' l) ++ (m :: (l.take i).drop (low m.at' l + skipAt m.at' l))
theorem outM_zero (l : List M) (m : M) : outM l m 0 = [] := by simp [outM]
theorem outM_len (l : List M) (m : M) (i : Nat) : (outM l m i).length ≤ i + 1 := by
  unfold outM
  split
  · simp; omega
  · simp; omega
theorem outM_below {l : List M} {m : M} {i : Nat} (h : i < low m.at' l) (hl : i < l.length) : outM l m (i + 1) = outM l m i ++ [l[i]] := by
  unfold outM
  rw [if_pos (by omega), if_pos (by omega), List.take_succ_eq_append_getElem hl]
theorem outM_at {l : List M} {m : M} (hl : low m.at' l < l.length) : outM l m (low m.at' l + 1) = outM l m (low m.at' l) ++ (m :: if isAt m.at' l = true then [] else [l[low m.at' l]]) := by
  unfold outM skipAt
  rw [if_neg (by omega), if_pos (Nat.le_refl _)]
  split
  · rw [List.drop_eq_nil_of_le (by simp; omega)]
  · rw [List.take_succ_eq_append_getElem hl, Nat.add_zero]
    have : (l.take (low m.at' l)).length = low m.at' l := by rw [List.length_take]; omega
    congr 2
    rw [List.drop_append_of_le_length (by omega), List.drop_eq_nil_of_le (by omega), List.nil_append]
theorem outM_above {l : List M} {m : M} {i : Nat} (h : low m.at' l < i) (hl : i < l.length) : outM l m (i + 1) = outM l m i ++ [l[i]] := by
  unfold outM
  rw [if_neg (by omega), if_neg (by omega), List.take_succ_eq_append_getElem hl, List.append_assoc, List.cons_append]
  congr 2
  rw [List.drop_append_of_le_length]
  unfold skipAt
  split <;> simp <;> omega
theorem outM_end {l : List M} {m : M} (h : low m.at' l < l.length) : outM l m l.length = putM l m := by
  unfold outM putM skipAt
  rw [if_neg (by omega), List.take_length]
  split
  · rw [List.set_eq_take_append_cons_drop, if_pos h]
  · rw [Nat.add_zero]
theorem outM_last {l : List M} {m : M} (h : ¬ low m.at' l < l.length) : outM l m l.length ++ [m] = putM l m := by
  have := low_le m.at' l
  have e : low m.at' l = l.length := by omega
  have ha : isAt m.at' l = false := by unfold isAt; rw [List.getElem?_eq_none (by omega)]
  unfold outM putM
  rw [if_pos (by omega), if_neg (by rw [ha]; decide), e]
  simp

set_option maxHeartbeats 8000000 in
theorem putMark_told (l : List M) (hr : Rise l) (m : M) (hl : l.length ≤ 1000000) : Told P T ref8_PutMark [] [.lst t_api_Mark (l.map encM), encM m] (.ref 0) [.row t_api_Mark ((putM l m).map encM)] := by
  have hml : (l.map encM).length = l.length := by simp
  have hs := low_spec (y := m.at') hr
  refine told_of_ev (fn := ref8_PutMark_fn) tabOk mixed (by kernel_rfl) (by kernel_rfl) (by kernel_rfl) (by kernel_rfl) ?_
  refine LoopN.mk ⟨[0, 3, 5, 6, 7], fun vs L => ∃ i : Nat, vs = [.lst t_api_Mark (l.map encM), .ptr 0 0 0, .ref 1, .bool (decide (low m.at' l < i)), .int .i64 (i : Nat)] ∧ L = [.var (encM m), .row t_api_Mark ((outM l m i).map encM)] ∧ i ≤ l.length,
    fun vs L => match vs with | [_, _, _, _, .int _ i] => l.length - i.toNat | _ => 0, [], [0, 2], rfl, ⟨0, ?_, by rw [outM_zero]; rfl, Nat.zero_le _⟩, ?_⟩
  · have : decide (low m.at' l < 0) = false := by simp
    rw [this]; rfl
  rintro vs L ⟨i, rfl, rfl, hi⟩
  have hol := outM_len l m i
  have holm : ((outM l m i).map encM).length = (outM l m i).length := by simp
  refine IfB.mk (fun h1 => ?_) (fun h1 => ?_)
  · have hlt : i < l.length := by have := of_decide_eq_true h1; rw [hml] at this; omega
    have hat := low_at (y := m.at') hr hlt
    have hix : (l.map encM)[((i : Nat) : Int).toNat]? = some (encM l[i]) := by simp [hlt]
    rcases Nat.lt_trichotomy (low m.at' l) i with hc | hc | hc
    · rw [show decide (low m.at' l < i) = true by simp [hc]]
      repeat refine IfB.ff rfl ?_
      refine Sure.mk (by kernel_rfl) ?_
      refine IfB.ff rfl ?_
      refine Idx.mk ⟨encM l[i], by omega, hix, ?_⟩
      refine Sure.mk (by kernel_rfl) ?_
      refine IfB.tt (by simp; rw [hat]; omega) ?_
      refine Idx.mk ⟨encM l[i], by omega, hix, ?_⟩
      refine Room.mk (by simp; omega) ?_
      refine fits (wrap64 (by omega) (by omega)) ?_
      refine ⟨[], [0, 3], rfl, ⟨i + 1, ?_, ?_, hlt⟩, ?_⟩
      · rw [show decide (low m.at' l < i + 1) = true by simp; omega]; rfl
      · show [Blk.var _, Blk.row _ _] = [Blk.var _, Blk.row _ _]; rw [outM_above hc hlt, List.map_append]; rfl
      · show l.length - (((i : Int) + 1).toNat) < l.length - ((i : Int)).toNat
        omega
    · rw [show decide (low m.at' l < i) = false by simp; omega]
      have hge : ¬ l[i].at' < m.at' := fun h => by have := (hs i hlt).2 h; omega
      repeat refine IfB.tt rfl ?_
      refine Idx.mk ⟨encM l[i], by omega, hix, ?_⟩
      repeat refine IfB.tt rfl ?_
      refine Sure.mk (by kernel_rfl) ?_
      refine IfB.tt (by simp; omega) ?_
      refine Room.mk (by simp; omega) ?_
      refine Idx.mk ⟨encM l[i], by omega, hix, ?_⟩
      refine Sure.mk (by kernel_rfl) ?_
      have hol2 : (outM l m i ++ [m]).length ≤ i + 2 := by simp; omega
      refine IfB.mk (fun h2 => ?_) (fun h2 => ?_)
      · have hna : isAt m.at' l = false := by
          cases ha : isAt m.at' l
          · rfl
          · have := hat.2 ⟨hc.symm, ha⟩; simp [this] at h2
        refine Idx.mk ⟨encM l[i], by omega, hix, ?_⟩
        refine Room.mk (by simp; omega) ?_
        refine fits (wrap64 (by omega) (by omega)) ?_
        refine ⟨[], [0, 5], rfl, ⟨i + 1, ?_, ?_, hlt⟩, ?_⟩
        · rw [show decide (low m.at' l < i + 1) = true by simp; omega]; rfl
        · show [Blk.var _, Blk.row _ _] = [Blk.var _, Blk.row _ _]
          subst hc
          rw [outM_at hlt, hna, List.map_append]
          simp; exact ⟨rfl, rfl, rfl⟩
        · show l.length - (((i : Int) + 1).toNat) < l.length - ((i : Int)).toNat
          omega
      · have hya : isAt m.at' l = true := by
          have : l[i].at' = m.at' := by simpa using h2
          exact (hat.1 this).2
        refine fits (wrap64 (by omega) (by omega)) ?_
        refine ⟨[], [0, 3], rfl, ⟨i + 1, ?_, ?_, hlt⟩, ?_⟩
        · rw [show decide (low m.at' l < i + 1) = true by simp; omega]; rfl
        · show [Blk.var _, Blk.row _ _] = [Blk.var _, Blk.row _ _]
          subst hc
          rw [outM_at hlt, hya, List.map_append]
          rfl
        · show l.length - (((i : Int) + 1).toNat) < l.length - ((i : Int)).toNat
          omega
    · rw [show decide (low m.at' l < i) = false by simp; omega]
      have hge : l[i].at' < m.at' := (hs i hlt).1 hc
      repeat refine IfB.tt rfl ?_
      refine Idx.mk ⟨encM l[i], by omega, hix, ?_⟩
      repeat refine IfB.tt rfl ?_
      refine Sure.mk (by kernel_rfl) ?_
      refine IfB.ff (by simp; omega) ?_
      refine Idx.mk ⟨encM l[i], by omega, hix, ?_⟩
      refine Sure.mk (by kernel_rfl) ?_
      refine IfB.tt (by simp; rw [hat]; omega) ?_
      refine Idx.mk ⟨encM l[i], by omega, hix, ?_⟩
      refine Room.mk (by simp; omega) ?_
      refine fits (wrap64 (by omega) (by omega)) ?_
      refine ⟨[], [0, 3], rfl, ⟨i + 1, ?_, ?_, hlt⟩, ?_⟩
      · rw [show decide (low m.at' l < i + 1) = false by simp; omega]; rfl
      · show [Blk.var _, Blk.row _ _] = [Blk.var _, Blk.row _ _]; rw [outM_below hc hlt, List.map_append]; rfl
      · show l.length - (((i : Int) + 1).toNat) < l.length - ((i : Int)).toNat
        omega
  · have hle : l.length ≤ i := by have := of_decide_eq_false h1; rw [hml] at this; omega
    obtain rfl : i = l.length := by omega
    by_cases hlo : low m.at' l < l.length
    · rw [show decide (low m.at' l < l.length) = true by simp; exact hlo]
      refine IfB.ff rfl ?_
      refine RetN.mk ⟨[1], rfl, rfl, ?_⟩
      rw [← outM_end hlo]; rfl
    · rw [show decide (low m.at' l < l.length) = false by simp; omega]
      refine IfB.tt rfl ?_
      refine Room.mk (by simp; omega) ?_
      refine RetN.mk ⟨[3], rfl, rfl, ?_⟩
      show [Blk.row _ _] = [Blk.row _ _]; rw [← outM_last hlo, List.map_append]; rfl

theorem isAt_get {y : Int} {l : List M} (h : isAt y l = true) : ∃ x, l[low y l]? = some x ∧ x.at' = y := by
  have hlt := isAt_lt h
  refine ⟨l[low y l], List.getElem?_eq_getElem hlt, ?_⟩
  unfold isAt at h
  rw [List.getElem?_eq_getElem hlt] at h
  simpa using h

set_option maxHeartbeats 4000000 in
theorem takeMark_no (l : List M) (hr : Rise l) (y : Int) (hl : l.length ≤ 1000000) (h : isAt y l = false) : Told P T ref8_TakeMark [] [.lst t_api_Mark (l.map encM), .int .i64 y] (.tup [.lst t_api_Mark (l.map encM), .int .i64 0, .bool false]) [] := by
  have hml : (l.map encM).length = l.length := by simp
  refine told_of_ev (fn := ref8_TakeMark_fn) tabOk mixed (by kernel_rfl) (by kernel_rfl) (by kernel_rfl) (by kernel_rfl) ?_
  refine LoopN.mk ⟨[0, 1, 7], fun vs L => ∃ i : Nat, vs = [.lst t_api_Mark (l.map encM), .int .i64 y, .int .i64 (i : Nat)] ∧ L = [] ∧ i ≤ l.length,
    fun vs L => match vs with | [_, _, .int _ i] => l.length - i.toNat | _ => 0, [], [], rfl, ⟨0, rfl, rfl, Nat.zero_le _⟩, ?_⟩
  rintro vs L ⟨i, rfl, rfl, hi⟩
  refine IfB.mk (fun h1 => ?_) (fun h1 => ?_)
  · have hlt : i < l.length := by have := of_decide_eq_true h1; rw [hml] at this; omega
    have hat := low_at (y := y) hr hlt
    refine Idx.mk ⟨encM l[i], by omega, by simp [hlt], ?_⟩
    refine IfB.ff (by simp; rw [hat]; simp [h]) ?_
    refine fits (wrap64 (by omega) (by omega)) ?_
    refine ⟨[], [], rfl, ⟨i + 1, rfl, rfl, hlt⟩, ?_⟩
    show l.length - (((i : Int) + 1).toNat) < l.length - ((i : Int)).toNat
    omega
  · refine RetN.mk ⟨[], rfl, rfl, rfl⟩

set_option maxHeartbeats 4000000 in
theorem takeMark_yes (l : List M) (hr : Rise l) (y : Int) (hl : l.length ≤ 1000000) (h : isAt y l = true) : Told P T ref8_TakeMark [] [.lst t_api_Mark (l.map encM), .int .i64 y] (.tup [.ref 0, .int .i64 (clsM l y), .bool true]) [.row t_api_Mark ((takeM l y).map encM)] := by
  have hml : (l.map encM).length = l.length := by simp
  have hlo := isAt_lt h
  refine told_of_ev (fn := ref8_TakeMark_fn) tabOk mixed (by kernel_rfl) (by kernel_rfl) (by kernel_rfl) (by kernel_rfl) ?_
  refine LoopN.mk ⟨[0, 1, 7], fun vs L => ∃ i : Nat, vs = [.lst t_api_Mark (l.map encM), .int .i64 y, .int .i64 (i : Nat)] ∧ L = [] ∧ i ≤ low y l,
    fun vs L => match vs with | [_, _, .int _ i] => l.length - i.toNat | _ => 0, [], [], rfl, ⟨0, rfl, rfl, Nat.zero_le _⟩, ?_⟩
  rintro vs L ⟨i, rfl, rfl, hi⟩
  have hlt : i < l.length := by omega
  have hat := low_at (y := y) hr hlt
  refine IfB.tt (by simp; omega) ?_
  refine Idx.mk ⟨encM l[i], by omega, by simp [hlt], ?_⟩
  refine IfB.mk (fun h2 => ?_) (fun h2 => ?_)
  · have hil : i = low y l := (hat.1 (by simpa using h2)).1
    refine Cut.mk (by omega) (by omega) (by rw [hml]; omega) ?_
    refine Room.mk (by simp; omega) ?_
    refine fits (wrap64 (by omega) (by omega)) ?_
    refine Cut.mk (by omega) (by rw [hml]; omega) (by omega) ?_
    refine Room.mk (by simp; omega) ?_
    refine Idx.mk ⟨encM l[i], by omega, by simp [hlt], ?_⟩
    refine Sure.mk (by kernel_rfl) ?_
    refine RetN.mk ⟨[2], rfl, ?_, ?_⟩
    · have : clsM l y = l[i].cl := by unfold clsM; rw [← hil, List.getElem?_eq_getElem hlt]
      rw [this]; rfl
    · show [Blk.row _ _] = [Blk.row _ _]
      unfold takeM
      rw [← hil, List.map_append, List.map_take, List.map_drop]
      rw [show ((i : Int) + 1).toNat = i + 1 by omega, List.nil_append]
      rfl
  · have : ¬ l[i].at' = y := by simpa using h2
    have hne : i ≠ low y l := fun e => this (hat.2 ⟨e, h⟩)
    refine fits (wrap64 (by omega) (by omega)) ?_
    refine ⟨[], [], rfl, ⟨i + 1, rfl, rfl, by omega⟩, ?_⟩
    show l.length - (((i : Int) + 1).toNat) < l.length - ((i : Int)).toNat
    omega

set_option maxHeartbeats 4000000 in
theorem classOf_told (l : List M) (hr : Rise l) (y : Int) (hl : l.length ≤ 1000000) : Told P T ref8_ClassOf [] [.lst t_api_Mark (l.map encM), .int .i64 y] (.tup [.int .i64 (if isAt y l = true then clsM l y else 0), .bool (isAt y l)]) [] := by
  refine told_of_ev (fn := ref8_ClassOf_fn) tabOk mixed (by kernel_rfl) (by kernel_rfl) (by kernel_rfl) (by kernel_rfl) ?_
  cases h : isAt y l
  · refine Choice.mk ⟨false, Choice.mk ⟨false, _, _, takeMark_no l hr y hl h, ?_⟩⟩
    refine RetN.mk ⟨[], rfl, rfl, rfl⟩
  · refine Choice.mk ⟨false, Choice.mk ⟨false, _, _, takeMark_yes l hr y hl h, ?_⟩⟩
    refine RetN.mk ⟨[], rfl, rfl, rfl⟩
end Go.Ev.W

