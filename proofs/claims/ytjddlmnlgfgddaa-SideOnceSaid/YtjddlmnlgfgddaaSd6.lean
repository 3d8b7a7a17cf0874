/- Words and lemmas for the law s of this seat (a part of its proof). -/
import Derived.Test.YtjddlmnlgfgddaaSd5
set_option linter.unusedVariables false
set_option linter.unusedSimpArgs false
namespace Go.Ev.W
open Go.Ev Go.Ev.N

instance (l : List M) : Decidable (Rise l) := inferInstanceAs (Decidable (l.Pairwise fun a b => a.at' < b.at'))
theorem putC (l r : List M) (m : M) (hr : Rise l) (hl : l.length ≤ 1000000) (e : putM l m = r) : Told P T side_Put [] [.lst t_api_Mark (l.map encM), encM m] (.ref 0) [.row t_api_Mark (r.map encM)] := e ▸ put_told l hr m hl
theorem takeC (l r : List M) (y c : Int) (hr : Rise l) (hl : l.length ≤ 1000000) (h : isAt y l = true) (e : takeM l y = r) (ec : clsM l y = c) : Told P T side_Take [] [.lst t_api_Mark (l.map encM), .int .i64 y] (.tup [.sub 0 0 (l.length - 1), .int .i64 c, .bool true]) [.row t_api_Mark (r.map encM ++ [zeroE T t_api_Mark])] := e ▸ ec ▸ take_yes l hr y hl h
theorem classC (l : List M) (y c : Int) (b : Bool) (hr : Rise l) (hl : l.length ≤ 1000000) (h : isAt y l = b) (ec : (if isAt y l = true then clsM l y else 0) = c) : Told P T side_Class [] [.lst t_api_Mark (l.map encM), .int .i64 y] (.tup [.int .i64 c, .bool b]) [] := h ▸ ec ▸ class_told l hr y hl
theorem sameC (us bs : List AV) (xs ys : List M) (ha : us = xs.map encM) (hb : bs = ys.map encM) (hx : xs.length ≤ 1000000) : Told P T ref8_SameMarks [] [.lst t_api_Mark us, .lst t_api_Mark bs] (.bool (decide (xs = ys))) [] := by
  subst ha hb; exact sameMarks xs ys hx

set_option maxHeartbeats 4000000 in
theorem begun_told : Told P T law10_begun [] [] (.bool true) [] := by
  refine told_of_ev (fn := law10_begun_fn) tabOk mixed (by kernel_rfl) (by kernel_rfl) (by kernel_rfl) (by kernel_rfl) ?_
  refine Choice.mk ⟨false, Choice.mk ⟨false, _, _, putC [] [⟨8, 1⟩] ⟨8, 1⟩ (by decide) (by decide) (by decide), ?_⟩⟩
  refine Choice.mk ⟨false, Choice.mk ⟨false, _, _, putC [⟨8, 1⟩] [⟨0, 2⟩, ⟨8, 1⟩] ⟨0, 2⟩ (by decide) (by decide) (by decide), ?_⟩⟩
  refine Choice.mk ⟨false, Choice.mk ⟨false, _, _, classC [⟨0, 2⟩, ⟨8, 1⟩] 8 1 true (by decide) (by decide) (by decide) (by decide), ?_⟩⟩
  refine Choice.mk ⟨false, Choice.mk ⟨false, _, _, takeC [⟨0, 2⟩, ⟨8, 1⟩] [⟨8, 1⟩] 0 2 (by decide) (by decide) (by decide) (by decide) (by decide), ?_⟩⟩
  refine Choice.mk ⟨false, Choice.mk ⟨false, _, _, classC [⟨0, 2⟩, ⟨8, 1⟩] 1 0 false (by decide) (by decide) (by decide) (by decide), ?_⟩⟩
  refine IfB.tt rfl ?_
  refine IfB.tt rfl ?_
  refine Idx.mk ⟨encM ⟨0, 2⟩, by decide, rfl, ?_⟩
  repeat refine IfB.tt rfl ?_
  exact RetN.mk ⟨[], rfl, rfl, rfl⟩

set_option maxHeartbeats 4000000 in
theorem sideForms : Told P T law10_SideForms [] [] (.bool true) [] := by
  refine told_of_ev (fn := law10_SideForms_fn) tabOk mixed (by kernel_rfl) (by kernel_rfl) (by kernel_rfl) (by kernel_rfl) ?_
  refine Choice.mk ⟨false, Choice.mk ⟨true, _, _, begun_told, ?_⟩⟩
  refine IfB.ff rfl ?_
  refine Choice.mk ⟨false, Choice.mk ⟨false, _, _, putC [] [⟨16, 2⟩] ⟨16, 2⟩ (by decide) (by decide) (by decide), ?_⟩⟩
  refine Choice.mk ⟨false, Choice.mk ⟨false, _, _, putC [⟨16, 2⟩] [⟨0, 1⟩, ⟨16, 2⟩] ⟨0, 1⟩ (by decide) (by decide) (by decide), ?_⟩⟩
  refine Choice.mk ⟨false, Choice.mk ⟨false, _, _, putC [⟨0, 1⟩, ⟨16, 2⟩] [⟨0, 1⟩, ⟨16, 3⟩] ⟨16, 3⟩ (by decide) (by decide) (by decide), ?_⟩⟩
  refine Choice.mk ⟨false, Choice.mk ⟨false, _, _, takeC [⟨0, 1⟩, ⟨16, 3⟩] [⟨0, 1⟩] 16 3 (by decide) (by decide) (by decide) (by decide) (by decide), ?_⟩⟩
  refine Choice.mk ⟨false, Choice.mk ⟨false, _, _, take_no [⟨0, 1⟩] (by decide) 16 (by decide) (by decide), ?_⟩⟩
  repeat refine IfB.tt rfl ?_
  refine Idx.mk ⟨encM ⟨0, 1⟩, by decide, rfl, ?_⟩
  repeat refine IfB.tt rfl ?_
  refine Idx.mk ⟨encM ⟨16, 3⟩, by decide, rfl, ?_⟩
  repeat refine IfB.tt rfl ?_
  refine Choice.mk ⟨false, Choice.mk ⟨true, _, _, sameC _ _ [⟨0, 1⟩] [⟨0, 1⟩] rfl rfl (by decide), ?_⟩⟩
  exact RetN.mk ⟨[], rfl, rfl, rfl⟩
end Go.Ev.W

