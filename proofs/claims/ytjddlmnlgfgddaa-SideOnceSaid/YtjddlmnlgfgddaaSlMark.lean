/- Words and lemmas for the law s of this seat (a part of its proof). -/
import Derived.Test.YtjddlmnlgfgddaaK1
set_option linter.unusedVariables false
set_option linter.unusedSimpArgs false
namespace Go.Ev.W
open Go.Ev Go.Ev.N

theorem clone_Mark (es : List AV) (hl : es.length ≤ 1000000) : Told P T slices_Clone_api_Mark_api_Mark [] [.lst t_api_Mark es] (.ref 0) [.row t_api_Mark es] := by
  refine told_of_ev (fn := slices_Clone_api_Mark_api_Mark_fn) tabOk mixed (by kernel_rfl) (by kernel_rfl) (by kernel_rfl) (by kernel_rfl) ?_
  refine AnyB.mk (fun b hb => ?_)
  refine IfB.mk (fun h1 => ?_) (fun h1 => ?_)
  · obtain rfl := hb h1
    exact RetN.mk ⟨[1], rfl, rfl, rfl⟩
  · refine Room.mk (by first | omega | (simp; omega) | (simp; done)) ?_
    exact RetN.mk ⟨[2], rfl, rfl, rfl⟩


theorem overlaps_Mark (xs es : List AV) (hx : 0 < xs.length) (i n : Nat) : Told P T slices_overlaps_api_Mark [.row t_api_Mark xs, .row t_api_Mark es] [.ref 0, .sub 1 i n] (.bool false) [.row t_api_Mark xs, .row t_api_Mark es] :=
  told_overlaps (fn := slices_overlaps_api_Mark_fn) (tS := ts_api_Mark) (tR := t_bool) tabOk (by kernel_rfl) (by kernel_rfl) (by kernel_rfl) (by kernel_rfl) (by kernel_rfl) (by kernel_rfl) (by kernel_rfl) xs es hx i n

theorem ins_splice_Mark (es : List AV) (x : AV) (i : Nat) (hi : i < es.length) :
    es.take i ++ (x :: es.drop i) = (es.take i ++ ([x] ++ es.drop i)) := by simp
set_option maxHeartbeats 4000000 in
theorem insert_Mark (es : List AV) (x : AV) (i : Nat) (hi : i ≤ es.length) (hl : es.length ≤ 1000000) :
    Told P T slices_Insert_api_Mark_api_Mark [.row t_api_Mark es, .row t_api_Mark [x]] [.ref 0, .int .i64 (i : Nat), .ref 1] (.ref 2) [.dead, .row t_api_Mark [x], .row t_api_Mark (es.take i ++ (x :: es.drop i))] := by
  refine told_of_ev_drop (fn := slices_Insert_api_Mark_api_Mark_fn) tabOk mixed (by kernel_rfl) (by kernel_rfl) (by kernel_rfl) (by kernel_rfl) ?_
  refine Cut.mk (by omega) (by omega) (by omega) ?_
  refine IfB.ff rfl ?_
  refine IfB.mk (fun h1 => ?_) (fun h1 => ?_)
  · have hie : i = es.length := by have := of_decide_eq_true h1; omega
    refine Room.mk (by first | omega | (simp; omega) | (simp; done)) ?_
    refine RetN.mk ⟨[3], rfl, rfl, .inl rfl, .inl rfl, .inl ?_, trivial⟩
    subst hie
    show Blk.row t_api_Mark (es.take es.length ++ (x :: es.drop es.length)) = Blk.row t_api_Mark (es ++ [x])
    rw [List.take_length, List.drop_length]
  · have hlt : i < es.length := by have := of_decide_eq_false h1; omega
    refine fits (wrap64 (by first | omega | (simp; omega) | (simp; done)) (by first | omega | (simp; omega) | (simp; done))) ?_
    refine AnyN.mk (fun c hc => ?_)
    refine IfB.mk (fun h2 => ?_) (fun h2 => ?_)
    · have hcc : c < es.length + 1 := by have := of_decide_eq_true h2; simp at this; omega
      refine Choice.mk ⟨false, ?_⟩
      refine Cut.mk (Int.le_refl _) (by omega) (by omega) ?_
      refine fits (wrap64 (by first | omega | (simp; omega) | (simp; done)) (by first | omega | (simp; omega) | (simp; done))) ?_
      refine fits (wrap64 (by first | omega | (simp; omega) | (simp; done)) (by first | omega | (simp; omega) | (simp; done))) ?_
      refine Need.mk (by first | omega | (simp; omega) | (simp; done)) ?_
      refine Need.mk (by first | omega | (simp; omega) | (simp; done)) ?_
      refine Room.mk (by first | omega | (simp; omega) | (simp; done)) ?_
      refine Cut.mk (by omega) (by first | omega | (simp; omega) | (simp; done)) (by first | omega | (simp; omega) | (simp; done)) ?_
      refine fits (wrap64 (by first | omega | (simp; omega) | (simp; done)) (by first | omega | (simp; omega) | (simp; done))) ?_
      refine Cut.mk (by first | omega | (simp; omega) | (simp; done)) (by first | omega | (simp; omega) | (simp; done)) (by first | omega | (simp; omega) | (simp; done)) ?_
      refine Cut.mk (by omega) (by omega) (by omega) ?_
      refine Sure.mk (by kernel_rfl) ?_
      refine RetN.mk ⟨[3], rfl, rfl, .inr rfl, .inl rfl, .inl ?_, trivial⟩
      show Blk.row t_api_Mark (es.take i ++ (x :: es.drop i)) = Blk.row t_api_Mark _
      refine congrArg _ ?_
      have e1 : ((es.length : Int) + (([x] : List AV).length : Int) - (i : Int)).toNat = es.length + 1 - i := by first | (simp; done) | (simp; omega)
      have e2 : ((i : Int) + (([x] : List AV).length : Int)).toNat = i + 1 := by first | (simp; done) | (simp; omega)
      have e3 : min 1 (es.length + 1 - i) = 1 := by omega
      simp only [e1, e2, Int.toNat_natCast]
      have e4 : i + (1 + (es.length + 1 - i - 1)) - (i + 1) = es.length - i := by omega
      have e5 : i + 1 + (es.length - i) - i - 1 = es.length - i := by omega
      have e6 : es.length + 1 - i - 1 - (es.length - i) = 0 := by omega
      have e7 : (es.take i).length = i := by rw [List.length_take]; omega
      have d1 : ∀ k, i ≤ k → (es.take i).drop k = [] := fun k hk => List.drop_eq_nil_of_le (by omega)
      have d2 : ∀ k, 1 ≤ k → ([x] : List AV).drop k = [] := fun k hk => List.drop_eq_nil_of_le (by simpa using hk)
      have d3 : ([x] : List AV).take 1 = [x] := rfl
      have d4 : (es.drop i).take (es.length - i) = es.drop i := List.take_of_length_le (by simp)
      have e8 : i + 1 + (es.length - i) - i = 1 + (es.length - i) := by omega
      simp [List.take_append, List.drop_append, List.take_of_length_le, Nat.min_eq_left (Nat.le_of_lt hlt), e3, e4, e8, d3, d4, d2, d1, e6]
      have e9 : i + (es.length + 1 - i - 1 + 1) - (i + 1) = es.length - i := by omega
      have d5 : ∀ z : AV, (x :: List.replicate (es.length + 1 - i - 1) z).drop (i + 1 + (es.length - i) - i) = [] := fun z => List.drop_eq_nil_of_le (by rw [List.length_cons, List.length_replicate]; omega)
      rw [e9, Nat.min_self, d4, d1 _ (by omega), d5]
      simp
    · have hcc : es.length + 1 ≤ c := by have := of_decide_eq_false h2; simp at this; omega
      refine fits (wrap64 (by first | omega | (simp; omega) | (simp; done)) (by first | omega | (simp; omega) | (simp; done))) ?_
      refine Choice.mk ⟨true, ?_⟩
      refine Cut.mk (by omega) (by first | omega | (simp; omega) | (simp; done)) (by first | omega | (simp; omega) | (simp; done)) ?_
      refine fits (wrap64 (by first | omega | (simp; omega) | (simp; done)) (by first | omega | (simp; omega) | (simp; done))) ?_
      refine Cut.mk (by first | omega | (simp; omega) | (simp; done)) (by first | omega | (simp; omega) | (simp; done)) (by first | omega | (simp; omega) | (simp; done)) ?_
      refine Choice.mk ⟨true, Choice.mk ⟨false, _, _, overlaps_Mark [x] _ (by simp) _ _, ?_⟩⟩
      refine IfB.tt rfl ?_
      refine fits (wrap64 (by first | omega | (simp; omega) | (simp; done)) (by first | omega | (simp; omega) | (simp; done))) ?_
      refine Cut.mk (by first | omega | (simp; omega) | (simp; done)) (by first | omega | (simp; omega) | (simp; done)) (by first | omega | (simp; omega) | (simp; done)) ?_
      refine Cut.mk (by simp) (by first | omega | (simp; omega) | (simp; done)) (by first | omega | (simp; omega) | (simp; done)) ?_
      refine Sure.mk (by kernel_rfl) ?_
      refine Cut.mk (by simp) (by first | omega | (simp; omega) | (simp; done)) (by first | omega | (simp; omega) | (simp; done)) ?_
      refine RetN.mk ⟨[3], rfl, rfl, .inl rfl, .inl rfl, .inl ?_, trivial⟩
      show Blk.row t_api_Mark (es.take i ++ (x :: es.drop i)) = Blk.row t_api_Mark _
      refine congrArg _ ?_
      have n1 : ((es.length : Int) + (([x] : List AV).length : Int)).toNat - es.length = 1 := by first | (simp; done) | (simp; omega)
      have n2 : ((i : Int) + (([x] : List AV).length : Int)).toNat = i + 1 := by first | (simp; done) | (simp; omega)
      have r := ins_room es x (junkE T t_api_Mark) i hlt
      have m1 : min ([x] : List AV).length (es.length + 1 - i) = 1 := by first | (simp; done) | (simp; omega)
      simp only [n1, n2, Int.toNat_natCast, List.replicate_one]
      rw [r.2.2, m1, r.1, r.2.1]
      rfl

set_option maxHeartbeats 4000000 in
theorem delete_Mark (es : List AV) (i : Nat) (hi : i < es.length) (hl : es.length ≤ 1000000) :
    Told P T slices_Delete_api_Mark_api_Mark [.row t_api_Mark es] [.ref 0, .int .i64 (i : Nat), .int .i64 ((i : Nat) + 1)] (.sub 0 0 (es.length - 1)) [.row t_api_Mark (es.take i ++ (es.drop (i + 1) ++ [zeroE T t_api_Mark]))] := by
  refine told_of_ev (fn := slices_Delete_api_Mark_api_Mark_fn) tabOk mixed (by kernel_rfl) (by kernel_rfl) (by kernel_rfl) (by kernel_rfl) ?_
  refine Cut.mk (by omega) (by omega) (by omega) ?_
  refine Need.mk (by omega) ?_
  refine IfB.ff (by simp; omega) ?_
  refine Cut.mk (by omega) (by omega) (by omega) ?_
  refine Cut.mk (by omega) (by omega) (by omega) ?_
  refine Need.mk (by simp; omega) ?_
  refine Sure.mk (by kernel_rfl) ?_
  refine Cut.mk (by omega) (by simp; omega) (by simp; omega) ?_
  have f0 : Int.toNat 0 = 0 := rfl
  have f1 : (((i : Nat) : Int) + 1).toNat = i + 1 := by omega
  have f2 : (es.drop (i + 1)).take (es.length - (i + 1)) = es.drop (i + 1) := List.take_of_length_le (by simp)
  have f3 : (es.drop (i + 1)).length = es.length - (i + 1) := by simp
  have f4 : i + (es.length - (i + 1)) = es.length - 1 := by omega
  have f5 : es.length - (es.length - 1) = 1 := by omega
  have f6 : es.length - 1 + 1 = es.length := by omega
  refine RetN.mk ⟨[], rfl, ?_, ?_⟩
  · show AV.sub 0 0 _ = AV.sub 0 0 _
    congr 1
    simp only [Int.toNat_natCast, f1, f2, f3, f0, Nat.sub_zero]
    omega
  · show [Blk.row t_api_Mark _] = [Blk.row t_api_Mark _]
    congr 2
    simp only [Int.toNat_natCast, f1, f2, f3, f0, Nat.sub_zero, Nat.zero_add, f4, f5, f6]
    have g1 : (es.take i ++ es.drop (i + 1)).length = es.length - 1 := by rw [List.length_append, List.length_take, f3]; omega
    have R : es.take i ++ (es.drop (i + 1) ++ es.drop (es.length - 1)) = (es.take i ++ es.drop (i + 1)) ++ es.drop (es.length - 1) := by simp
    have g3 : ((es.take i ++ es.drop (i + 1)) ++ es.drop (es.length - 1)).drop es.length = [] := List.drop_eq_nil_of_le (by rw [List.length_append, g1, List.length_drop]; omega)
    rw [R, List.take_append_of_le_length (by omega), List.take_of_length_le (by omega), g3, List.append_nil, List.append_assoc]
    rfl

end Go.Ev.W

