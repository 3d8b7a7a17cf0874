/- Words and lemmas for the law s of this seat (a part of its proof). -/
import Derived.Test.YtjddlmnlgfgddaaSd3
set_option linter.unusedVariables false
set_option linter.unusedSimpArgs false
namespace Go.Ev.W
open Go.Ev Go.Ev.N

theorem find_told (l : List M) (hr : Rise l) (y : Int) (hl : l.length ≤ 1000000) :
    Told P T side_find [] [.lst t_api_Mark (l.map encM), .int .i64 y] (.tup [.int .i64 (low y l : Nat), .bool (isAt y l)]) [] := by
  refine told_of_ev (fn := side_find_fn) tabOk mixed (by kernel_rfl) (by kernel_rfl) (by kernel_rfl) (by kernel_rfl) ?_
  refine Choice.mk ⟨false, Choice.mk ⟨false, _, _, bsearch_told l hr y hl, ?_⟩⟩
  exact RetN.mk ⟨[], rfl, rfl, rfl⟩

def putM (l : List M) (m : M) : List M := if isAt m.at' l = true then l.set (low m.at' l) m else l.take (low m.at' l) ++ (m :: l.drop (low m.at' l))

theorem isAt_lt {y : Int} {l : List M} (h : isAt y l = true) : low y l < l.length := by
  unfold isAt at h
  split at h
  · rename_i m hm; exact (List.getElem?_eq_some_iff.1 hm).1
  · cases h

set_option maxHeartbeats 4000000 in
theorem put_told (l : List M) (hr : Rise l) (m : M) (hl : l.length ≤ 1000000) : Told P T side_Put [] [.lst t_api_Mark (l.map encM), encM m] (.ref 0) [.row t_api_Mark ((putM l m).map encM)] := by
  have hml : (l.map encM).length = l.length := by simp
  refine told_of_ev (fn := side_Put_fn) tabOk mixed (by kernel_rfl) (by kernel_rfl) (by kernel_rfl) (by kernel_rfl) ?_
  refine Choice.mk ⟨false, Choice.mk ⟨false, _, _, clone_Mark (l.map encM) (by omega), ?_⟩⟩
  refine Choice.mk ⟨false, Choice.mk ⟨false, _, _, find_told l hr m.at' hl, ?_⟩⟩
  refine IfB.mk (fun h1 => ?_) (fun h1 => ?_)
  · have hlt := isAt_lt h1
    refine InB.mk (by omega) (by omega) ?_
    refine RetN.mk ⟨[2], rfl, rfl, ?_⟩
    show [Blk.row t_api_Mark ((l.map encM).set (low m.at' l) (encM m))] = _
    rw [putM, if_pos h1, List.map_set]
  · have h1 : isAt m.at' l = false := h1
    have hi := insert_Mark (l.map encM) (encM m) (low m.at' l) (by rw [hml]; exact low_le _ _) (by omega)
    refine Choice.mk ⟨true, Choice.mk ⟨false, _, _, hi, ?_⟩⟩
    refine RetN.mk ⟨[4], rfl, rfl, ?_⟩
    show [Blk.row t_api_Mark ((l.map encM).take (low m.at' l) ++ (encM m :: (l.map encM).drop (low m.at' l)))] = _
    rw [putM, if_neg (by rw [h1]; decide)]
    simp [List.map_take, List.map_drop]

def takeM (l : List M) (y : Int) : List M := l.take (low y l) ++ l.drop (low y l + 1)
def clsM (l : List M) (y : Int) : Int := match l[low y l]? with | some m => m.cl | none => 0

set_option maxHeartbeats 4000000 in
theorem take_no (l : List M) (hr : Rise l) (y : Int) (hl : l.length ≤ 1000000) (h : isAt y l = false) : Told P T side_Take [] [.lst t_api_Mark (l.map encM), .int .i64 y] (.tup [.ref 0, .int .i64 0, .bool false]) [.row t_api_Mark (l.map encM)] := by
  have hml : (l.map encM).length = l.length := by simp
  refine told_of_ev (fn := side_Take_fn) tabOk mixed (by kernel_rfl) (by kernel_rfl) (by kernel_rfl) (by kernel_rfl) ?_
  refine Choice.mk ⟨false, Choice.mk ⟨false, _, _, clone_Mark (l.map encM) (by omega), ?_⟩⟩
  refine Choice.mk ⟨false, Choice.mk ⟨false, _, _, find_told l hr y hl, ?_⟩⟩
  refine IfB.tt (by rw [h]; rfl) ?_
  exact RetN.mk ⟨[1], rfl, rfl, rfl⟩
set_option maxHeartbeats 4000000 in
theorem take_yes (l : List M) (hr : Rise l) (y : Int) (hl : l.length ≤ 1000000) (h : isAt y l = true) : Told P T side_Take [] [.lst t_api_Mark (l.map encM), .int .i64 y] (.tup [.sub 0 0 (l.length - 1), .int .i64 (clsM l y), .bool true])
    [.row t_api_Mark ((takeM l y).map encM ++ [zeroE T t_api_Mark])] := by
  have hml : (l.map encM).length = l.length := by simp
  have hlt := isAt_lt h
  refine told_of_ev (fn := side_Take_fn) tabOk mixed (by kernel_rfl) (by kernel_rfl) (by kernel_rfl) (by kernel_rfl) ?_
  refine Choice.mk ⟨false, Choice.mk ⟨false, _, _, clone_Mark (l.map encM) (by omega), ?_⟩⟩
  refine Choice.mk ⟨false, Choice.mk ⟨false, _, _, find_told l hr y hl, ?_⟩⟩
  refine IfB.ff (by rw [h]; rfl) ?_
  refine fits (wrap64 (by omega) (by omega)) ?_
  refine Choice.mk ⟨true, Choice.mk ⟨false, _, _, delete_Mark (l.map encM) (low y l) (by omega) (by omega), ?_⟩⟩
  refine Idx.mk ⟨encM l[low y l], by omega, by simp [hlt], ?_⟩
  refine Sure.mk (by kernel_rfl) ?_
  refine RetN.mk ⟨[1], rfl, ?_, ?_⟩
  · show AV.tup [.sub 0 0 ((l.map encM).length - 1), .int .i64 (l[low y l]).cl, .bool true] = AV.tup [.sub 0 0 (l.length - 1), .int .i64 (clsM l y), .bool true]
    have : clsM l y = (l[low y l]).cl := by unfold clsM; rw [List.getElem?_eq_getElem hlt]
    rw [hml, this]
  · show [Blk.row t_api_Mark ((l.map encM).take (low y l) ++ ((l.map encM).drop (low y l + 1) ++ [zeroE T t_api_Mark]))] = _
    simp [takeM, List.map_take, List.map_drop]

set_option maxHeartbeats 4000000 in
theorem class_told (l : List M) (hr : Rise l) (y : Int) (hl : l.length ≤ 1000000) : Told P T side_Class [] [.lst t_api_Mark (l.map encM), .int .i64 y] (.tup [.int .i64 (if isAt y l = true then clsM l y else 0), .bool (isAt y l)]) [] := by
  refine told_of_ev (fn := side_Class_fn) tabOk mixed (by kernel_rfl) (by kernel_rfl) (by kernel_rfl) (by kernel_rfl) ?_
  refine Choice.mk ⟨false, Choice.mk ⟨false, _, _, find_told l hr y hl, ?_⟩⟩
  cases h : isAt y l with
  | false =>
    refine IfB.tt rfl ?_
    exact RetN.mk ⟨[], rfl, rfl, rfl⟩
  | true =>
    have hlt := isAt_lt h
    refine IfB.ff rfl ?_
    refine Idx.mk ⟨encM l[low y l], by omega, by simp [hlt], ?_⟩
    refine RetN.mk ⟨[], rfl, ?_, rfl⟩
    have : clsM l y = (l[low y l]).cl := by unfold clsM; rw [List.getElem?_eq_getElem hlt]
    show AV.tup [.int .i64 (l[low y l]).cl, .bool true] = AV.tup [.int .i64 (if true = true then clsM l y else 0), .bool true]
    rw [if_pos rfl, this]
end Go.Ev.W

