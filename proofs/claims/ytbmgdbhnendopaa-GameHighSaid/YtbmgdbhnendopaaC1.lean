/- Words and lemmas, part 1, for laws of this seat (a part of their proofs). -/
import Derived.Laws.Bits64
import Derived.Test.YtbmgdbhnendopaaNm
import Derived.Test.YtbmgdbhnendopaaEvOpen
import Derived.Test.YtbmgdbhnendopaaEvLib
set_option linter.unusedVariables false
set_option linter.unusedSimpArgs false
namespace Go.Ev
theorem IfB.tt {b : Bool} {P R : Prop} (h : b = true) (p : P) : IfB b P R := ⟨fun _ => p, fun e => (by rw [h] at e; cases e)⟩
theorem IfB.ff {b : Bool} {P R : Prop} (h : b = false) (p : R) : IfB b P R := ⟨fun e => (by rw [h] at e; cases e), fun _ => p⟩
theorem IfB.dec {p : Prop} [Decidable p] {P R : Prop} (t : p → P) (f : ¬ p → R) : IfB (decide p) P R := ⟨fun h => t (of_decide_eq_true h), fun h => f (of_decide_eq_false h)⟩
theorem IfB.eq {a b : Int} {P R : Prop} (t : a = b → P) (f : a ≠ b → R) : IfB (a == b) P R := ⟨fun h => t (by simpa using h), fun h => f (by simpa using h)⟩
theorem IfB.ne {a b : Int} {P R : Prop} (t : a ≠ b → P) (f : a = b → R) : IfB (a != b) P R := ⟨fun h => t (by simpa using h), fun h => f (by simpa using h)⟩
end Go.Ev
namespace Go.Ev.W
open Go.Ev Go.Ev.N
theorem fits {k : IntKind} {n : Int} {Q : Int → Prop} (h : k.wrap n = n) (q : Q n) : Fits k n Q := ⟨by rw [h]; exact q⟩
theorem wrap64 {n : Int} (h1 : -9223372036854775808 ≤ n) (h2 : n ≤ 9223372036854775807) : IntKind.i64.wrap n = n := by rw [IntKind.wrap_i64]; omega
theorem wrapU64 {n : Int} (h1 : 0 ≤ n) (h2 : n ≤ 18446744073709551615) : IntKind.u64.wrap n = n := by rw [IntKind.wrap_u64]; omega
theorem idx_map {α : Type} {f : α → AV} {l : List α} {k : Nat} {Q : AV → Prop} (h : k < l.length) (q : Q (f l[k])) : Idx (l.map f) ((k : Nat) : Int) Q := ⟨f l[k], by omega, by simp [h], q⟩
theorem idx_map' {α : Type} {f : α → AV} {l : List α} {i : Int} {Q : AV → Prop} (k : Nat) (e : i = k) (h : k < l.length) (q : Q (f l[k])) : Idx (l.map f) i Q := by subst e; exact idx_map h q
theorem at_map {α : Type} {f : α → AV} {l : List α} {k : Nat} {Q : AV → Prop} (h : k < l.length) (q : Q (f l[k])) : At (l.map f) k Q := ⟨f l[k], by simp [h], q⟩
abbrev i64 (n : Int) : AV := .int .i64 n
theorem ins_room {α : Type} (es : List α) (x J : α) (i : Nat) (hi : i < es.length) :
    List.take i (List.take (i + 1) (es ++ [J]) ++
      (List.take (min (List.take ((es ++ [J]).length - i) (List.drop i (es ++ [J]))).length ((es ++ [J]).length - (i + 1))) (List.take ((es ++ [J]).length - i) (List.drop i (es ++ [J]))) ++
       List.drop (i + 1 + min (List.take ((es ++ [J]).length - i) (List.drop i (es ++ [J]))).length ((es ++ [J]).length - (i + 1))) (es ++ [J]))) = es.take i ∧
    List.drop (i + 1) (List.take (i + 1) (es ++ [J]) ++
      (List.take (min (List.take ((es ++ [J]).length - i) (List.drop i (es ++ [J]))).length ((es ++ [J]).length - (i + 1))) (List.take ((es ++ [J]).length - i) (List.drop i (es ++ [J]))) ++
       List.drop (i + 1 + min (List.take ((es ++ [J]).length - i) (List.drop i (es ++ [J]))).length ((es ++ [J]).length - (i + 1))) (es ++ [J]))) = es.drop i ∧
    (List.take (i + 1) (es ++ [J]) ++
      (List.take (min (List.take ((es ++ [J]).length - i) (List.drop i (es ++ [J]))).length ((es ++ [J]).length - (i + 1))) (List.take ((es ++ [J]).length - i) (List.drop i (es ++ [J]))) ++
       List.drop (i + 1 + min (List.take ((es ++ [J]).length - i) (List.drop i (es ++ [J]))).length ((es ++ [J]).length - (i + 1))) (es ++ [J]))).length = es.length + 1 := by
  obtain ⟨a, b, rfl, rfl⟩ : ∃ a b, es = a ++ b ∧ i = a.length := ⟨es.take i, es.drop i, (List.take_append_drop ..).symm, by rw [List.length_take]; omega⟩
  cases b with
  | nil => simp at hi
  | cons y b =>
    have e1 : List.drop a.length (a ++ y :: b ++ [J]) = y :: (b ++ [J]) := by rw [List.append_assoc, List.drop_left]; rfl
    have e2 : (a ++ y :: b ++ [J]).length - a.length = b.length + 2 := by first | (simp; done) | (simp; omega)
    have e3 : (a ++ y :: b ++ [J]).length - (a.length + 1) = b.length + 1 := by first | (simp; done) | (simp; omega)
    have e4 : List.take (b.length + 2) (y :: (b ++ [J])) = y :: (b ++ [J]) := List.take_of_length_le (by simp)
    have e5 : (y :: (b ++ [J])).length = b.length + 2 := by simp
    have e6 : List.take (a.length + 1) (a ++ y :: b ++ [J]) = a ++ [y] := by
      rw [List.append_assoc, List.take_append, List.take_of_length_le (by omega), show a.length + 1 - a.length = 1 by omega]; rfl
    have e7 : List.take (b.length + 1) (y :: (b ++ [J])) = y :: b := by
      rw [List.take_succ_cons, List.take_left]
    have e8 : List.drop (a.length + 1 + (b.length + 1)) (a ++ y :: b ++ [J]) = [] := List.drop_eq_nil_of_le (by simp; omega)
    simp only [e1, e2, e3, e4, e5, e6, Nat.min_eq_right (show b.length + 1 ≤ b.length + 2 by omega), e7, e8, List.append_nil]
    refine ⟨?_, ?_, ?_⟩
    · rw [List.append_assoc, List.take_left, List.take_left]
    · rw [List.drop_left]
      rw [show a.length + 1 = (a ++ [y]).length by simp, List.drop_left]
    · simp; omega

end Go.Ev.W
namespace Go.Ev.W
open Go.Ev Go.Ev.N

theorem clone_Span (es : List AV) (hl : es.length ≤ 1000000) : Told P T slices_Clone_api_Span_api_Span [] [.lst t_api_Span es] (.ref 0) [.row t_api_Span es] := by
  refine told_of_ev (fn := slices_Clone_api_Span_api_Span_fn) tabOk mixed (by kernel_rfl) (by kernel_rfl) (by kernel_rfl) (by kernel_rfl) ?_
  refine AnyB.mk (fun b hb => ?_)
  refine IfB.mk (fun h1 => ?_) (fun h1 => ?_)
  · obtain rfl := hb h1
    exact RetN.mk ⟨[1], rfl, rfl, rfl⟩
  · refine Room.mk (by first | omega | (simp; omega) | (simp; done)) ?_
    exact RetN.mk ⟨[2], rfl, rfl, rfl⟩


theorem overlaps_Span (xs es : List AV) (hx : 0 < xs.length) (i n : Nat) : Told P T slices_overlaps_api_Span [.row t_api_Span xs, .row t_api_Span es] [.ref 0, .sub 1 i n] (.bool false) [.row t_api_Span xs, .row t_api_Span es] :=
  told_overlaps (fn := slices_overlaps_api_Span_fn) (tS := ts_api_Span) (tR := t_bool) tabOk (by kernel_rfl) (by kernel_rfl) (by kernel_rfl) (by kernel_rfl) (by kernel_rfl) (by kernel_rfl) (by kernel_rfl) xs es hx i n

theorem ins_splice_Span (es : List AV) (x : AV) (i : Nat) (hi : i < es.length) :
    es.take i ++ (x :: es.drop i) = (es.take i ++ ([x] ++ es.drop i)) := by simp
set_option maxHeartbeats 4000000 in
theorem insert_Span (es : List AV) (x : AV) (i : Nat) (hi : i ≤ es.length) (hl : es.length ≤ 1000000) :
    Told P T slices_Insert_api_Span_api_Span [.row t_api_Span es, .row t_api_Span [x]] [.ref 0, .int .i64 (i : Nat), .ref 1] (.ref 2) [.dead, .row t_api_Span [x], .row t_api_Span (es.take i ++ (x :: es.drop i))] := by
  refine told_of_ev_drop (fn := slices_Insert_api_Span_api_Span_fn) tabOk mixed (by kernel_rfl) (by kernel_rfl) (by kernel_rfl) (by kernel_rfl) ?_
  refine Cut.mk (by omega) (by omega) (by omega) ?_
  refine IfB.ff rfl ?_
  refine IfB.mk (fun h1 => ?_) (fun h1 => ?_)
  · have hie : i = es.length := by have := of_decide_eq_true h1; omega
    refine Room.mk (by first | omega | (simp; omega) | (simp; done)) ?_
    refine RetN.mk ⟨[3], rfl, rfl, .inl rfl, .inl rfl, .inl ?_, trivial⟩
    subst hie
    show Blk.row t_api_Span (es.take es.length ++ (x :: es.drop es.length)) = Blk.row t_api_Span (es ++ [x])
    rw [List.take_length, List.drop_length]
  · have hlt : i < es.length := by have := of_decide_eq_false h1; omega
    refine fits (wrap64 (by first | omega | (simp; omega) | (simp; done)) (by first | omega | (simp; omega) | (simp; done))) ?_
    refine AnyN.mk (fun c hc => ?_)
    refine IfB.mk (fun h2 => ?_) (fun h2 => ?_)
    · have hcc : c < es.length + 1 := by have := of_decide_eq_true h2; simp at this; omega
      refine Choice.mk ⟨false, ?_⟩
      refine Cut.mk (Int.le_refl _) (by omega) (by omega) ?_
      refine fits (wrap64 (by first | omega | (simp; omega) | (simp; done)) (by first | omega | (simp; omega) | (simp; done))) ?_
      refine fits (wrap64 (by first | omega | (simp; omega) | (simp; done)) (by first | omega | (simp; omega) | (simp; done))) ?_
      refine Need.mk (by first | omega | (simp; omega) | (simp; done)) ?_
      refine Need.mk (by first | omega | (simp; omega) | (simp; done)) ?_
      refine Room.mk (by first | omega | (simp; omega) | (simp; done)) ?_
      refine Cut.mk (by omega) (by first | omega | (simp; omega) | (simp; done)) (by first | omega | (simp; omega) | (simp; done)) ?_
      refine fits (wrap64 (by first | omega | (simp; omega) | (simp; done)) (by first | omega | (simp; omega) | (simp; done))) ?_
      refine Cut.mk (by first | omega | (simp; omega) | (simp; done)) (by first | omega | (simp; omega) | (simp; done)) (by first | omega | (simp; omega) | (simp; done)) ?_
      refine Cut.mk (by omega) (by omega) (by omega) ?_
      refine Sure.mk (by kernel_rfl) ?_
      refine RetN.mk ⟨[3], rfl, rfl, .inr rfl, .inl rfl, .inl ?_, trivial⟩
      show Blk.row t_api_Span (es.take i ++ (x :: es.drop i)) = Blk.row t_api_Span _
      refine congrArg _ ?_
      have e1 : ((es.length : Int) + (([x] : List AV).length : Int) - (i : Int)).toNat = es.length + 1 - i := by first | (simp; done) | (simp; omega)
      have e2 : ((i : Int) + (([x] : List AV).length : Int)).toNat = i + 1 := by first | (simp; done) | (simp; omega)
      have e3 : min 1 (es.length + 1 - i) = 1 := by omega
      simp only [e1, e2, Int.toNat_natCast]
      have e4 : i + (1 + (es.length + 1 - i - 1)) - (i + 1) = es.length - i := by omega
      have e5 : i + 1 + (es.length - i) - i - 1 = es.length - i := by omega
      have e6 : es.length + 1 - i - 1 - (es.length - i) = 0 := by omega
      have e7 : (es.take i).length = i := by rw [List.length_take]; omega
      have d1 : ∀ k, i ≤ k → (es.take i).drop k = [] := fun k hk => List.drop_eq_nil_of_le (by omega)
      have d2 : ∀ k, 1 ≤ k → ([x] : List AV).drop k = [] := fun k hk => List.drop_eq_nil_of_le (by simpa using hk)
      have d3 : ([x] : List AV).take 1 = [x] := rfl
      have d4 : (es.drop i).take (es.length - i) = es.drop i := List.take_of_length_le (by simp)
      have e8 : i + 1 + (es.length - i) - i = 1 + (es.length - i) := by omega
      simp [List.take_append, List.drop_append, List.take_of_length_le, Nat.min_eq_left (Nat.le_of_lt hlt), e3, e4, e8, d3, d4, d2, d1, e6]
      have e9 : i + (es.length + 1 - i - 1 + 1) - (i + 1) = es.length - i := by omega
      have d5 : ∀ z : AV, (x :: List.replicate (es.length + 1 - i - 1) z).drop (i + 1 + (es.length - i) - i) = [] := fun z => List.drop_eq_nil_of_le (by rw [List.length_cons, List.length_replicate]; omega)
      rw [e9, Nat.min_self, d4, d1 _ (by omega), d5]
      simp
    · have hcc : es.length + 1 ≤ c := by have := of_decide_eq_false h2; simp at this; omega
      refine fits (wrap64 (by first | omega | (simp; omega) | (simp; done)) (by first | omega | (simp; omega) | (simp; done))) ?_
      refine Choice.mk ⟨true, ?_⟩
      refine Cut.mk (by omega) (by first | omega | (simp; omega) | (simp; done)) (by first | omega | (simp; omega) | (simp; done)) ?_
      refine fits (wrap64 (by first | omega | (simp; omega) | (simp; done)) (by first | omega | (simp; omega) | (simp; done))) ?_
      refine Cut.mk (by first | omega | (simp; omega) | (simp; done)) (by first | omega | (simp; omega) | (simp; done)) (by first | omega | (simp; omega) | (simp; done)) ?_
      refine Choice.mk ⟨true, Choice.mk ⟨false, _, _, overlaps_Span [x] _ (by simp) _ _, ?_⟩⟩
      refine IfB.tt rfl ?_
      refine fits (wrap64 (by first | omega | (simp; omega) | (simp; done)) (by first | omega | (simp; omega) | (simp; done))) ?_
      refine Cut.mk (by first | omega | (simp; omega) | (simp; done)) (by first | omega | (simp; omega) | (simp; done)) (by first | omega | (simp; omega) | (simp; done)) ?_
      refine Cut.mk (by simp) (by first | omega | (simp; omega) | (simp; done)) (by first | omega | (simp; omega) | (simp; done)) ?_
      refine Sure.mk (by kernel_rfl) ?_
      refine Cut.mk (by simp) (by first | omega | (simp; omega) | (simp; done)) (by first | omega | (simp; omega) | (simp; done)) ?_
      refine RetN.mk ⟨[3], rfl, rfl, .inl rfl, .inl rfl, .inl ?_, trivial⟩
      show Blk.row t_api_Span (es.take i ++ (x :: es.drop i)) = Blk.row t_api_Span _
      refine congrArg _ ?_
      have n1 : ((es.length : Int) + (([x] : List AV).length : Int)).toNat - es.length = 1 := by first | (simp; done) | (simp; omega)
      have n2 : ((i : Int) + (([x] : List AV).length : Int)).toNat = i + 1 := by first | (simp; done) | (simp; omega)
      have r := ins_room es x (junkE T t_api_Span) i hlt
      have m1 : min ([x] : List AV).length (es.length + 1 - i) = 1 := by first | (simp; done) | (simp; omega)
      simp only [n1, n2, Int.toNat_natCast, List.replicate_one]
      rw [r.2.2, m1, r.1, r.2.1]
      rfl

set_option maxHeartbeats 4000000 in
theorem delete_Span (es : List AV) (i : Nat) (hi : i < es.length) (hl : es.length ≤ 1000000) :
    Told P T slices_Delete_api_Span_api_Span [.row t_api_Span es] [.ref 0, .int .i64 (i : Nat), .int .i64 ((i : Nat) + 1)] (.sub 0 0 (es.length - 1)) [.row t_api_Span (es.take i ++ (es.drop (i + 1) ++ [zeroE T t_api_Span]))] := by
  refine told_of_ev (fn := slices_Delete_api_Span_api_Span_fn) tabOk mixed (by kernel_rfl) (by kernel_rfl) (by kernel_rfl) (by kernel_rfl) ?_
  refine Cut.mk (by omega) (by omega) (by omega) ?_
  refine Need.mk (by omega) ?_
  refine IfB.ff (by simp; omega) ?_
  refine Cut.mk (by omega) (by omega) (by omega) ?_
  refine Cut.mk (by omega) (by omega) (by omega) ?_
  refine Need.mk (by simp; omega) ?_
  refine Sure.mk (by kernel_rfl) ?_
  refine Cut.mk (by omega) (by simp; omega) (by simp; omega) ?_
  have f0 : Int.toNat 0 = 0 := rfl
  have f1 : (((i : Nat) : Int) + 1).toNat = i + 1 := by omega
  have f2 : (es.drop (i + 1)).take (es.length - (i + 1)) = es.drop (i + 1) := List.take_of_length_le (by simp)
  have f3 : (es.drop (i + 1)).length = es.length - (i + 1) := by simp
  have f4 : i + (es.length - (i + 1)) = es.length - 1 := by omega
  have f5 : es.length - (es.length - 1) = 1 := by omega
  have f6 : es.length - 1 + 1 = es.length := by omega
  refine RetN.mk ⟨[], rfl, ?_, ?_⟩
  · show AV.sub 0 0 _ = AV.sub 0 0 _
    congr 1
    simp only [Int.toNat_natCast, f1, f2, f3, f0, Nat.sub_zero]
    omega
  · show [Blk.row t_api_Span _] = [Blk.row t_api_Span _]
    congr 2
    simp only [Int.toNat_natCast, f1, f2, f3, f0, Nat.sub_zero, Nat.zero_add, f4, f5, f6]
    have g1 : (es.take i ++ es.drop (i + 1)).length = es.length - 1 := by rw [List.length_append, List.length_take, f3]; omega
    have R : es.take i ++ (es.drop (i + 1) ++ es.drop (es.length - 1)) = (es.take i ++ es.drop (i + 1)) ++ es.drop (es.length - 1) := by simp
    have g3 : ((es.take i ++ es.drop (i + 1)) ++ es.drop (es.length - 1)).drop es.length = [] := List.drop_eq_nil_of_le (by rw [List.length_append, g1, List.length_drop]; omega)
    rw [R, List.take_append_of_le_length (by omega), List.take_of_length_le (by omega), g3, List.append_nil, List.append_assoc]
    rfl

end Go.Ev.W
namespace Go.Ev.W
open Go.Ev Go.Ev.N

structure Sp where
  a : Int
  n : Int
  deriving DecidableEq
def eS (x : Sp) : AV := .agg [i64 x.a, i64 x.n]
def lS (l : List Sp) : AV := .lst t_api_Span (l.map eS)
def oneB (x : Sp) : Bool := decide (1 ≤ x.n ∧ x.n ≤ 1099511627776 ∧ 0 ≤ x.a ∧ x.a ≤ 1099511627776 - x.n)

theorem one_told (x : Sp) : Told P T span_one [] [eS x] (.bool (oneB x)) [] := by
  refine told_of_ev (fn := span_one_fn) tabOk mixed (by kernel_rfl) (by kernel_rfl) (by kernel_rfl) (by kernel_rfl) ?_
  repeat' ((conv => whnf); first | (refine Sure.mk (by kernel_rfl) ?_) | (refine IfB.tt rfl ?_) | (refine IfB.ff rfl ?_) | (refine IfB.tt ?_ ?_; (focus (simp <;> fail))) | (refine IfB.ff ?_ ?_; (focus (simp <;> fail))) | (refine fits (wrap64 ?_ ?_) ?_; (focus omega); (focus omega)) | (refine fits (wrapU64 ?_ ?_) ?_; (focus omega); (focus omega)) | (refine Need.mk ?_ ?_; (focus omega)) | (refine InB.mk ?_ ?_ ?_; (focus omega); (focus omega)) | (refine IfB.dec (fun h => ?_) (fun h => ?_)) | (refine IfB.eq (fun h => ?_) (fun h => ?_)) | (refine IfB.ne (fun h => ?_) (fun h => ?_)))
  all_goals ((repeat ((conv => whnf); first | (refine Sure.mk (by kernel_rfl) ?_) | (refine IfB.tt rfl ?_) | (refine IfB.ff rfl ?_) | (refine IfB.tt ?_ ?_; (focus (simp <;> fail))) | (refine IfB.ff ?_ ?_; (focus (simp <;> fail))) | (refine fits (wrap64 ?_ ?_) ?_; (focus omega); (focus omega)) | (refine fits (wrapU64 ?_ ?_) ?_; (focus omega); (focus omega)) | (refine Need.mk ?_ ?_; (focus omega)) | (refine InB.mk ?_ ?_ ?_; (focus omega); (focus omega)))); (try (conv => whnf)); refine RetN.mk ⟨[], rfl, ?_, rfl⟩)
  all_goals ((try (conv => lhs; whnf)); (try simp [oneB, *]); (try omega))

def mayFrom (e : Int) : List Sp → Bool
  | [] => true
  | x :: l => oneB x && decide (e ≤ x.a) && mayFrom (x.a + x.n) l

theorem may_told (l : List Sp) (hl : l.length ≤ 1000000) : Told P T span_May [] [lS l] (.bool (mayFrom 0 l)) [] := by
  have hml : (l.map eS).length = l.length := by simp
  refine told_of_ev (fn := span_May_fn) tabOk mixed (by kernel_rfl) (by kernel_rfl) (by kernel_rfl) (by kernel_rfl) ?_
  ((repeat ((conv => whnf); first | (refine Sure.mk (by kernel_rfl) ?_) | (refine IfB.tt rfl ?_) | (refine IfB.ff rfl ?_) | (refine IfB.tt ?_ ?_; (focus (simp <;> fail))) | (refine IfB.ff ?_ ?_; (focus (simp <;> fail))) | (refine fits (wrap64 ?_ ?_) ?_; (focus omega); (focus omega)) | (refine fits (wrapU64 ?_ ?_) ?_; (focus omega); (focus omega)) | (refine Need.mk ?_ ?_; (focus omega)) | (refine InB.mk ?_ ?_ ?_; (focus omega); (focus omega)))); (try (conv => whnf)); refine LoopN.mk ⟨[3,6,7,8], fun vs L => ∃ (i : Nat) (e : Int), vs = [i64 e, lS l, i64 (l.map eS).length, i64 i] ∧ L = [] ∧ i ≤ l.length ∧ mayFrom 0 l = mayFrom e (l.drop i) ∧ 0 ≤ e ∧ e ≤ 1099511627776, fun vs L => match vs with | [_, _, _, .int _ i] => l.length - i.toNat | _ => 0, [], [], rfl, ⟨0, 0, rfl, rfl, by omega, rfl, by omega, by omega⟩, ?_⟩)
  rintro vs L ⟨i, e, rfl, rfl, hi, hm, he1, he2⟩
  ((repeat ((conv => whnf); first | (refine Sure.mk (by kernel_rfl) ?_) | (refine IfB.tt rfl ?_) | (refine IfB.ff rfl ?_) | (refine IfB.tt ?_ ?_; (focus (simp <;> fail))) | (refine IfB.ff ?_ ?_; (focus (simp <;> fail))) | (refine fits (wrap64 ?_ ?_) ?_; (focus omega); (focus omega)) | (refine fits (wrapU64 ?_ ?_) ?_; (focus omega); (focus omega)) | (refine Need.mk ?_ ?_; (focus omega)) | (refine InB.mk ?_ ?_ ?_; (focus omega); (focus omega)))); (try (conv => whnf)); first | refine IfB.dec (fun h1 => ?_) (fun h1 => ?_) | refine IfB.eq (fun h1 => ?_) (fun h1 => ?_) | refine IfB.ne (fun h1 => ?_) (fun h1 => ?_) | refine IfB.mk (fun h1 => ?_) (fun h1 => ?_))
  · have hlt : i < l.length := by omega
    rw [List.drop_eq_getElem_cons hlt, mayFrom] at hm
    ((repeat ((conv => whnf); first | (refine Sure.mk (by kernel_rfl) ?_) | (refine IfB.tt rfl ?_) | (refine IfB.ff rfl ?_) | (refine IfB.tt ?_ ?_; (focus (simp <;> fail))) | (refine IfB.ff ?_ ?_; (focus (simp <;> fail))) | (refine fits (wrap64 ?_ ?_) ?_; (focus omega); (focus omega)) | (refine fits (wrapU64 ?_ ?_) ?_; (focus omega); (focus omega)) | (refine Need.mk ?_ ?_; (focus omega)) | (refine InB.mk ?_ ?_ ?_; (focus omega); (focus omega)))); (try (conv => whnf)); refine idx_map (hlt) ?_)
    ((repeat ((conv => whnf); first | (refine Sure.mk (by kernel_rfl) ?_) | (refine IfB.tt rfl ?_) | (refine IfB.ff rfl ?_) | (refine IfB.tt ?_ ?_; (focus (simp <;> fail))) | (refine IfB.ff ?_ ?_; (focus (simp <;> fail))) | (refine fits (wrap64 ?_ ?_) ?_; (focus omega); (focus omega)) | (refine fits (wrapU64 ?_ ?_) ?_; (focus omega); (focus omega)) | (refine Need.mk ?_ ?_; (focus omega)) | (refine InB.mk ?_ ?_ ?_; (focus omega); (focus omega)))); (try (conv => whnf)); refine Choice.mk ⟨false, Choice.mk ⟨true, _, _, one_told l[i], ?_⟩⟩)
    cases h2 : oneB l[i] with
    | false =>
      rw [h2] at hm
      repeat ((conv => whnf); first | (refine Sure.mk (by kernel_rfl) ?_) | (refine IfB.tt rfl ?_) | (refine IfB.ff rfl ?_) | (refine IfB.tt ?_ ?_; (focus (simp <;> fail))) | (refine IfB.ff ?_ ?_; (focus (simp <;> fail))) | (refine fits (wrap64 ?_ ?_) ?_; (focus omega); (focus omega)) | (refine fits (wrapU64 ?_ ?_) ?_; (focus omega); (focus omega)) | (refine Need.mk ?_ ?_; (focus omega)) | (refine InB.mk ?_ ?_ ?_; (focus omega); (focus omega)))
      ((repeat ((conv => whnf); first | (refine Sure.mk (by kernel_rfl) ?_) | (refine IfB.tt rfl ?_) | (refine IfB.ff rfl ?_) | (refine IfB.tt ?_ ?_; (focus (simp <;> fail))) | (refine IfB.ff ?_ ?_; (focus (simp <;> fail))) | (refine fits (wrap64 ?_ ?_) ?_; (focus omega); (focus omega)) | (refine fits (wrapU64 ?_ ?_) ?_; (focus omega); (focus omega)) | (refine Need.mk ?_ ?_; (focus omega)) | (refine InB.mk ?_ ?_ ?_; (focus omega); (focus omega)))); (try (conv => whnf)); refine RetN.mk ⟨[], rfl, ?_, rfl⟩)
      rw [hm]; rfl
    | true =>
      repeat ((conv => whnf); first | (refine Sure.mk (by kernel_rfl) ?_) | (refine IfB.tt rfl ?_) | (refine IfB.ff rfl ?_) | (refine IfB.tt ?_ ?_; (focus (simp <;> fail))) | (refine IfB.ff ?_ ?_; (focus (simp <;> fail))) | (refine fits (wrap64 ?_ ?_) ?_; (focus omega); (focus omega)) | (refine fits (wrapU64 ?_ ?_) ?_; (focus omega); (focus omega)) | (refine Need.mk ?_ ?_; (focus omega)) | (refine InB.mk ?_ ?_ ?_; (focus omega); (focus omega)))
      ((repeat ((conv => whnf); first | (refine Sure.mk (by kernel_rfl) ?_) | (refine IfB.tt rfl ?_) | (refine IfB.ff rfl ?_) | (refine IfB.tt ?_ ?_; (focus (simp <;> fail))) | (refine IfB.ff ?_ ?_; (focus (simp <;> fail))) | (refine fits (wrap64 ?_ ?_) ?_; (focus omega); (focus omega)) | (refine fits (wrapU64 ?_ ?_) ?_; (focus omega); (focus omega)) | (refine Need.mk ?_ ?_; (focus omega)) | (refine InB.mk ?_ ?_ ?_; (focus omega); (focus omega)))); (try (conv => whnf)); first | refine IfB.dec (fun h3 => ?_) (fun h3 => ?_) | refine IfB.eq (fun h3 => ?_) (fun h3 => ?_) | refine IfB.ne (fun h3 => ?_) (fun h3 => ?_) | refine IfB.mk (fun h3 => ?_) (fun h3 => ?_))
      · repeat ((conv => whnf); first | (refine Sure.mk (by kernel_rfl) ?_) | (refine IfB.tt rfl ?_) | (refine IfB.ff rfl ?_) | (refine IfB.tt ?_ ?_; (focus (simp <;> fail))) | (refine IfB.ff ?_ ?_; (focus (simp <;> fail))) | (refine fits (wrap64 ?_ ?_) ?_; (focus omega); (focus omega)) | (refine fits (wrapU64 ?_ ?_) ?_; (focus omega); (focus omega)) | (refine Need.mk ?_ ?_; (focus omega)) | (refine InB.mk ?_ ?_ ?_; (focus omega); (focus omega)))
        ((repeat ((conv => whnf); first | (refine Sure.mk (by kernel_rfl) ?_) | (refine IfB.tt rfl ?_) | (refine IfB.ff rfl ?_) | (refine IfB.tt ?_ ?_; (focus (simp <;> fail))) | (refine IfB.ff ?_ ?_; (focus (simp <;> fail))) | (refine fits (wrap64 ?_ ?_) ?_; (focus omega); (focus omega)) | (refine fits (wrapU64 ?_ ?_) ?_; (focus omega); (focus omega)) | (refine Need.mk ?_ ?_; (focus omega)) | (refine InB.mk ?_ ?_ ?_; (focus omega); (focus omega)))); (try (conv => whnf)); refine RetN.mk ⟨[], rfl, ?_, rfl⟩)
        ((try (conv => lhs; whnf)); (try simp [hm, show ¬ e ≤ l[i].a by omega]); (try omega))
      · repeat ((conv => whnf); first | (refine Sure.mk (by kernel_rfl) ?_) | (refine IfB.tt rfl ?_) | (refine IfB.ff rfl ?_) | (refine IfB.tt ?_ ?_; (focus (simp <;> fail))) | (refine IfB.ff ?_ ?_; (focus (simp <;> fail))) | (refine fits (wrap64 ?_ ?_) ?_; (focus omega); (focus omega)) | (refine fits (wrapU64 ?_ ?_) ?_; (focus omega); (focus omega)) | (refine Need.mk ?_ ?_; (focus omega)) | (refine InB.mk ?_ ?_ ?_; (focus omega); (focus omega)))
        simp [oneB] at h2
        repeat ((conv => whnf); first | (refine Sure.mk (by kernel_rfl) ?_) | (refine IfB.tt rfl ?_) | (refine IfB.ff rfl ?_) | (refine IfB.tt ?_ ?_; (focus (simp <;> fail))) | (refine IfB.ff ?_ ?_; (focus (simp <;> fail))) | (refine fits (wrap64 ?_ ?_) ?_; (focus omega); (focus omega)) | (refine fits (wrapU64 ?_ ?_) ?_; (focus omega); (focus omega)) | (refine Need.mk ?_ ?_; (focus omega)) | (refine InB.mk ?_ ?_ ?_; (focus omega); (focus omega)))
        ((repeat ((conv => whnf); first | (refine Sure.mk (by kernel_rfl) ?_) | (refine IfB.tt rfl ?_) | (refine IfB.ff rfl ?_) | (refine IfB.tt ?_ ?_; (focus (simp <;> fail))) | (refine IfB.ff ?_ ?_; (focus (simp <;> fail))) | (refine fits (wrap64 ?_ ?_) ?_; (focus omega); (focus omega)) | (refine fits (wrapU64 ?_ ?_) ?_; (focus omega); (focus omega)) | (refine Need.mk ?_ ?_; (focus omega)) | (refine InB.mk ?_ ?_ ?_; (focus omega); (focus omega)))); (try (conv => whnf)); refine ⟨[], [], rfl, ⟨i + 1, l[i].a + l[i].n, rfl, rfl, hlt, by rw [hm]; simp [oneB]; omega, by omega, by omega⟩, (by omega : l.length - ((i : Int) + 1).toNat < l.length - (i : Int).toNat)⟩)
  · repeat ((conv => whnf); first | (refine Sure.mk (by kernel_rfl) ?_) | (refine IfB.tt rfl ?_) | (refine IfB.ff rfl ?_) | (refine IfB.tt ?_ ?_; (focus (simp <;> fail))) | (refine IfB.ff ?_ ?_; (focus (simp <;> fail))) | (refine fits (wrap64 ?_ ?_) ?_; (focus omega); (focus omega)) | (refine fits (wrapU64 ?_ ?_) ?_; (focus omega); (focus omega)) | (refine Need.mk ?_ ?_; (focus omega)) | (refine InB.mk ?_ ?_ ?_; (focus omega); (focus omega)))
    ((repeat ((conv => whnf); first | (refine Sure.mk (by kernel_rfl) ?_) | (refine IfB.tt rfl ?_) | (refine IfB.ff rfl ?_) | (refine IfB.tt ?_ ?_; (focus (simp <;> fail))) | (refine IfB.ff ?_ ?_; (focus (simp <;> fail))) | (refine fits (wrap64 ?_ ?_) ?_; (focus omega); (focus omega)) | (refine fits (wrapU64 ?_ ?_) ?_; (focus omega); (focus omega)) | (refine Need.mk ?_ ?_; (focus omega)) | (refine InB.mk ?_ ?_ ?_; (focus omega); (focus omega)))); (try (conv => whnf)); refine RetN.mk ⟨[], rfl, ?_, rfl⟩)
    have : i = l.length := by omega
    subst this
    ((try (conv => lhs; whnf)); (try simp [hm, mayFrom]); (try omega))

def total (l : List Sp) : Int := (l.map (·.n)).sum
theorem total_succ {l : List Sp} {i : Nat} (h : i < l.length) : total (l.take (i + 1)) = total (l.take i) + l[i].n := by
  unfold total; rw [List.take_succ_eq_append_getElem h, List.map_append, List.sum_append]; simp
theorem total_told (l : List Sp) (hl : l.length ≤ 1000000) (hb : ∀ k, k ≤ l.length → 0 ≤ total (l.take k) ∧ total (l.take k) ≤ 9223372036854775807) : Told P T span_Total [] [lS l] (i64 (total l)) [] := by
  have hml : (l.map eS).length = l.length := by simp
  refine told_of_ev (fn := span_Total_fn) tabOk mixed (by kernel_rfl) (by kernel_rfl) (by kernel_rfl) (by kernel_rfl) ?_
  ((repeat ((conv => whnf); first | (refine Sure.mk (by kernel_rfl) ?_) | (refine IfB.tt rfl ?_) | (refine IfB.ff rfl ?_) | (refine IfB.tt ?_ ?_; (focus (simp <;> fail))) | (refine IfB.ff ?_ ?_; (focus (simp <;> fail))) | (refine fits (wrap64 ?_ ?_) ?_; (focus omega); (focus omega)) | (refine fits (wrapU64 ?_ ?_) ?_; (focus omega); (focus omega)) | (refine Need.mk ?_ ?_; (focus omega)) | (refine InB.mk ?_ ?_ ?_; (focus omega); (focus omega)))); (try (conv => whnf)); refine LoopN.mk ⟨[2,5,6,7], fun vs L => ∃ i : Nat, vs = [i64 (total (l.take i)), lS l, i64 (l.map eS).length, i64 i] ∧ L = [] ∧ i ≤ l.length, fun vs L => match vs with | [_, _, _, .int _ i] => l.length - i.toNat | _ => 0, [], [], rfl, ⟨0, rfl, rfl, by omega⟩, ?_⟩)
  rintro vs L ⟨i, rfl, rfl, hi⟩
  ((repeat ((conv => whnf); first | (refine Sure.mk (by kernel_rfl) ?_) | (refine IfB.tt rfl ?_) | (refine IfB.ff rfl ?_) | (refine IfB.tt ?_ ?_; (focus (simp <;> fail))) | (refine IfB.ff ?_ ?_; (focus (simp <;> fail))) | (refine fits (wrap64 ?_ ?_) ?_; (focus omega); (focus omega)) | (refine fits (wrapU64 ?_ ?_) ?_; (focus omega); (focus omega)) | (refine Need.mk ?_ ?_; (focus omega)) | (refine InB.mk ?_ ?_ ?_; (focus omega); (focus omega)))); (try (conv => whnf)); first | refine IfB.dec (fun h1 => ?_) (fun h1 => ?_) | refine IfB.eq (fun h1 => ?_) (fun h1 => ?_) | refine IfB.ne (fun h1 => ?_) (fun h1 => ?_) | refine IfB.mk (fun h1 => ?_) (fun h1 => ?_))
  · have hlt : i < l.length := by omega
    have hs := total_succ hlt
    have hb1 := hb (i + 1) hlt
    ((repeat ((conv => whnf); first | (refine Sure.mk (by kernel_rfl) ?_) | (refine IfB.tt rfl ?_) | (refine IfB.ff rfl ?_) | (refine IfB.tt ?_ ?_; (focus (simp <;> fail))) | (refine IfB.ff ?_ ?_; (focus (simp <;> fail))) | (refine fits (wrap64 ?_ ?_) ?_; (focus omega); (focus omega)) | (refine fits (wrapU64 ?_ ?_) ?_; (focus omega); (focus omega)) | (refine Need.mk ?_ ?_; (focus omega)) | (refine InB.mk ?_ ?_ ?_; (focus omega); (focus omega)))); (try (conv => whnf)); refine idx_map (hlt) ?_)
    repeat ((conv => whnf); first | (refine Sure.mk (by kernel_rfl) ?_) | (refine IfB.tt rfl ?_) | (refine IfB.ff rfl ?_) | (refine IfB.tt ?_ ?_; (focus (simp <;> fail))) | (refine IfB.ff ?_ ?_; (focus (simp <;> fail))) | (refine fits (wrap64 ?_ ?_) ?_; (focus omega); (focus omega)) | (refine fits (wrapU64 ?_ ?_) ?_; (focus omega); (focus omega)) | (refine Need.mk ?_ ?_; (focus omega)) | (refine InB.mk ?_ ?_ ?_; (focus omega); (focus omega)))
    ((repeat ((conv => whnf); first | (refine Sure.mk (by kernel_rfl) ?_) | (refine IfB.tt rfl ?_) | (refine IfB.ff rfl ?_) | (refine IfB.tt ?_ ?_; (focus (simp <;> fail))) | (refine IfB.ff ?_ ?_; (focus (simp <;> fail))) | (refine fits (wrap64 ?_ ?_) ?_; (focus omega); (focus omega)) | (refine fits (wrapU64 ?_ ?_) ?_; (focus omega); (focus omega)) | (refine Need.mk ?_ ?_; (focus omega)) | (refine InB.mk ?_ ?_ ?_; (focus omega); (focus omega)))); (try (conv => whnf)); refine ⟨[], [], rfl, ⟨i + 1, by rw [hs]; rfl, rfl, hlt⟩, (by omega : l.length - ((i : Int) + 1).toNat < l.length - (i : Int).toNat)⟩)
  · ((repeat ((conv => whnf); first | (refine Sure.mk (by kernel_rfl) ?_) | (refine IfB.tt rfl ?_) | (refine IfB.ff rfl ?_) | (refine IfB.tt ?_ ?_; (focus (simp <;> fail))) | (refine IfB.ff ?_ ?_; (focus (simp <;> fail))) | (refine fits (wrap64 ?_ ?_) ?_; (focus omega); (focus omega)) | (refine fits (wrapU64 ?_ ?_) ?_; (focus omega); (focus omega)) | (refine Need.mk ?_ ?_; (focus omega)) | (refine InB.mk ?_ ?_ ?_; (focus omega); (focus omega)))); (try (conv => whnf)); refine RetN.mk ⟨[], rfl, ?_, rfl⟩)
    have : i = l.length := by omega
    subst this
    ((try (conv => lhs; whnf)); (try simp []); (try omega))
def endS (l : List Sp) : Int := match l.getLast? with | some x => x.a + x.n | none => 0
theorem end_told (l : List Sp) (hl : l.length ≤ 1000000) (hb : ∀ x ∈ l, oneB x = true) : Told P T span_End [] [lS l] (i64 (endS l)) [] := by
  have hml : (l.map eS).length = l.length := by simp
  refine told_of_ev (fn := span_End_fn) tabOk mixed (by kernel_rfl) (by kernel_rfl) (by kernel_rfl) (by kernel_rfl) ?_
  ((repeat ((conv => whnf); first | (refine Sure.mk (by kernel_rfl) ?_) | (refine IfB.tt rfl ?_) | (refine IfB.ff rfl ?_) | (refine IfB.tt ?_ ?_; (focus (simp <;> fail))) | (refine IfB.ff ?_ ?_; (focus (simp <;> fail))) | (refine fits (wrap64 ?_ ?_) ?_; (focus omega); (focus omega)) | (refine fits (wrapU64 ?_ ?_) ?_; (focus omega); (focus omega)) | (refine Need.mk ?_ ?_; (focus omega)) | (refine InB.mk ?_ ?_ ?_; (focus omega); (focus omega)))); (try (conv => whnf)); first | refine IfB.dec (fun h1 => ?_) (fun h1 => ?_) | refine IfB.eq (fun h1 => ?_) (fun h1 => ?_) | refine IfB.ne (fun h1 => ?_) (fun h1 => ?_) | refine IfB.mk (fun h1 => ?_) (fun h1 => ?_))
  · ((repeat ((conv => whnf); first | (refine Sure.mk (by kernel_rfl) ?_) | (refine IfB.tt rfl ?_) | (refine IfB.ff rfl ?_) | (refine IfB.tt ?_ ?_; (focus (simp <;> fail))) | (refine IfB.ff ?_ ?_; (focus (simp <;> fail))) | (refine fits (wrap64 ?_ ?_) ?_; (focus omega); (focus omega)) | (refine fits (wrapU64 ?_ ?_) ?_; (focus omega); (focus omega)) | (refine Need.mk ?_ ?_; (focus omega)) | (refine InB.mk ?_ ?_ ?_; (focus omega); (focus omega)))); (try (conv => whnf)); refine RetN.mk ⟨[], rfl, ?_, rfl⟩)
    have : l = [] := by rw [← List.length_eq_zero_iff]; omega
    subst this; rfl
  · have hlt : l.length - 1 < l.length := by omega
    have h2 := hb _ (List.getElem_mem hlt)
    simp [oneB] at h2
    repeat ((conv => whnf); first | (refine Sure.mk (by kernel_rfl) ?_) | (refine IfB.tt rfl ?_) | (refine IfB.ff rfl ?_) | (refine IfB.tt ?_ ?_; (focus (simp <;> fail))) | (refine IfB.ff ?_ ?_; (focus (simp <;> fail))) | (refine fits (wrap64 ?_ ?_) ?_; (focus omega); (focus omega)) | (refine fits (wrapU64 ?_ ?_) ?_; (focus omega); (focus omega)) | (refine Need.mk ?_ ?_; (focus omega)) | (refine InB.mk ?_ ?_ ?_; (focus omega); (focus omega)))
    refine idx_map' (l.length - 1) (by omega) hlt ?_
    repeat ((conv => whnf); first | (refine Sure.mk (by kernel_rfl) ?_) | (refine IfB.tt rfl ?_) | (refine IfB.ff rfl ?_) | (refine IfB.tt ?_ ?_; (focus (simp <;> fail))) | (refine IfB.ff ?_ ?_; (focus (simp <;> fail))) | (refine fits (wrap64 ?_ ?_) ?_; (focus omega); (focus omega)) | (refine fits (wrapU64 ?_ ?_) ?_; (focus omega); (focus omega)) | (refine Need.mk ?_ ?_; (focus omega)) | (refine InB.mk ?_ ?_ ?_; (focus omega); (focus omega)))
    ((repeat ((conv => whnf); first | (refine Sure.mk (by kernel_rfl) ?_) | (refine IfB.tt rfl ?_) | (refine IfB.ff rfl ?_) | (refine IfB.tt ?_ ?_; (focus (simp <;> fail))) | (refine IfB.ff ?_ ?_; (focus (simp <;> fail))) | (refine fits (wrap64 ?_ ?_) ?_; (focus omega); (focus omega)) | (refine fits (wrapU64 ?_ ?_) ?_; (focus omega); (focus omega)) | (refine Need.mk ?_ ?_; (focus omega)) | (refine InB.mk ?_ ?_ ?_; (focus omega); (focus omega)))); (try (conv => whnf)); refine RetN.mk ⟨[], rfl, ?_, rfl⟩)
    ((try (conv => lhs; whnf)); (try simp [endS, List.getLast?_eq_getElem?, hlt]); (try omega))
end Go.Ev.W
namespace Go.Ev.W
open Go.Ev Go.Ev.N

def lowS (y : Int) : List Sp → Nat
  | [] => 0
  | x :: l => if x.a < y then lowS y l + 1 else 0
theorem lowS_le (y : Int) : ∀ l, lowS y l ≤ l.length
  | [] => Nat.le_refl _
  | m :: l => by
    have := lowS_le y l
    unfold lowS; split <;> simp <;> omega
theorem lowS_lt {y : Int} : ∀ {l : List Sp} {k : Nat} (hk : k < l.length), k < lowS y l → l[k].a < y
  | [], k, h, _ => by simp at h
  | m :: l, 0, h, h2 => by
    unfold lowS at h2; split at h2
    · assumption
    · omega
  | m :: l, k + 1, h, h2 => by
    unfold lowS at h2; split at h2
    · exact lowS_lt (l := l) (by simpa using h) (by omega)
    · omega
theorem lowS_ge {y : Int} : ∀ {l : List Sp} (hk : lowS y l < l.length), y ≤ l[lowS y l].a
  | [], h => by simp at h
  | m :: l, h => by
    by_cases hm : m.a < y
    · have e : lowS y (m :: l) = lowS y l + 1 := by simp [lowS, hm]
      simp only [e] at h ⊢
      exact lowS_ge (l := l) (by simpa using h)
    · have e : lowS y (m :: l) = 0 := by simp [lowS, hm]
      simp only [e]
      simp; omega
/-- Put, as it is done. -/
def clashR (l : List Sp) (s : Sp) : Bool :=
  (match lowS s.a l with
    | 0 => false
    | k + 1 => match l[k]? with | some x => decide (x.a + x.n > s.a) | none => false) ||
  (match l[lowS s.a l]? with | some x => decide (s.a + s.n > x.a) | none => false)
def putR (l : List Sp) (s : Sp) : List Sp × Bool :=
  if oneB s = true ∧ clashR l s = false then (l.take (lowS s.a l) ++ s :: l.drop (lowS s.a l), true) else (l, false)

set_option maxHeartbeats 1000000 in
theorem put_told (l : List Sp) (s : Sp) (hl : l.length ≤ 100000) (hb : ∀ x ∈ l, oneB x = true) : Told P T span_Put [] [lS l, eS s] (.tup [lS (putR l s).1, .bool (putR l s).2]) [] := by
  have hml : (l.map eS).length = l.length := by simp
  refine told_of_ev (fn := span_Put_fn) tabOk mixed (by kernel_rfl) (by kernel_rfl) (by kernel_rfl) (by kernel_rfl) ?_
  ((repeat ((conv => whnf); first | (refine Sure.mk (by kernel_rfl) ?_) | (refine IfB.tt rfl ?_) | (refine IfB.ff rfl ?_) | (refine IfB.tt ?_ ?_; (focus (simp <;> fail))) | (refine IfB.ff ?_ ?_; (focus (simp <;> fail))) | (refine fits (wrap64 ?_ ?_) ?_; (focus omega); (focus omega)) | (refine fits (wrapU64 ?_ ?_) ?_; (focus omega); (focus omega)) | (refine Need.mk ?_ ?_; (focus omega)) | (refine InB.mk ?_ ?_ ?_; (focus omega); (focus omega)))); (try (conv => whnf)); refine Choice.mk ⟨false, Choice.mk ⟨false, _, _, clone_Span _ (by rw [hml]; omega), ?_⟩⟩)
  ((repeat ((conv => whnf); first | (refine Sure.mk (by kernel_rfl) ?_) | (refine IfB.tt rfl ?_) | (refine IfB.ff rfl ?_) | (refine IfB.tt ?_ ?_; (focus (simp <;> fail))) | (refine IfB.ff ?_ ?_; (focus (simp <;> fail))) | (refine fits (wrap64 ?_ ?_) ?_; (focus omega); (focus omega)) | (refine fits (wrapU64 ?_ ?_) ?_; (focus omega); (focus omega)) | (refine Need.mk ?_ ?_; (focus omega)) | (refine InB.mk ?_ ?_ ?_; (focus omega); (focus omega)))); (try (conv => whnf)); refine Choice.mk ⟨false, Choice.mk ⟨true, _, _, one_told s, ?_⟩⟩)
  cases h1 : oneB s with
  | false =>
    repeat ((conv => whnf); first | (refine Sure.mk (by kernel_rfl) ?_) | (refine IfB.tt rfl ?_) | (refine IfB.ff rfl ?_) | (refine IfB.tt ?_ ?_; (focus (simp <;> fail))) | (refine IfB.ff ?_ ?_; (focus (simp <;> fail))) | (refine fits (wrap64 ?_ ?_) ?_; (focus omega); (focus omega)) | (refine fits (wrapU64 ?_ ?_) ?_; (focus omega); (focus omega)) | (refine Need.mk ?_ ?_; (focus omega)) | (refine InB.mk ?_ ?_ ?_; (focus omega); (focus omega)))
    ((repeat ((conv => whnf); first | (refine Sure.mk (by kernel_rfl) ?_) | (refine IfB.tt rfl ?_) | (refine IfB.ff rfl ?_) | (refine IfB.tt ?_ ?_; (focus (simp <;> fail))) | (refine IfB.ff ?_ ?_; (focus (simp <;> fail))) | (refine fits (wrap64 ?_ ?_) ?_; (focus omega); (focus omega)) | (refine fits (wrapU64 ?_ ?_) ?_; (focus omega); (focus omega)) | (refine Need.mk ?_ ?_; (focus omega)) | (refine InB.mk ?_ ?_ ?_; (focus omega); (focus omega)))); (try (conv => whnf)); refine RetN.fz ⟨[true, true], [], rfl, ?_, rfl⟩)
    simp only [putR, h1]; rfl
  | true =>
    repeat ((conv => whnf); first | (refine Sure.mk (by kernel_rfl) ?_) | (refine IfB.tt rfl ?_) | (refine IfB.ff rfl ?_) | (refine IfB.tt ?_ ?_; (focus (simp <;> fail))) | (refine IfB.ff ?_ ?_; (focus (simp <;> fail))) | (refine fits (wrap64 ?_ ?_) ?_; (focus omega); (focus omega)) | (refine fits (wrapU64 ?_ ?_) ?_; (focus omega); (focus omega)) | (refine Need.mk ?_ ?_; (focus omega)) | (refine InB.mk ?_ ?_ ?_; (focus omega); (focus omega)))
    ((repeat ((conv => whnf); first | (refine Sure.mk (by kernel_rfl) ?_) | (refine IfB.tt rfl ?_) | (refine IfB.ff rfl ?_) | (refine IfB.tt ?_ ?_; (focus (simp <;> fail))) | (refine IfB.ff ?_ ?_; (focus (simp <;> fail))) | (refine fits (wrap64 ?_ ?_) ?_; (focus omega); (focus omega)) | (refine fits (wrapU64 ?_ ?_) ?_; (focus omega); (focus omega)) | (refine Need.mk ?_ ?_; (focus omega)) | (refine InB.mk ?_ ?_ ?_; (focus omega); (focus omega)))); (try (conv => whnf)); refine LoopN.mk ⟨[0,3,6,7], fun vs L => ∃ i : Nat, vs = [lS l, .ptr 0 0 0, .ref 1, i64 i] ∧ L = [.var (eS s), .row t_api_Span (l.map eS)] ∧ i ≤ lowS s.a l, fun vs L => match vs with | [_, _, _, .int _ i] => l.length - i.toNat | _ => 0, [], [0, 2], rfl, ⟨0, rfl, rfl, by omega⟩, ?_⟩)
    rintro vs L ⟨i, rfl, rfl, hi⟩
    have hle := lowS_le s.a l
    repeat ((conv => whnf); first | (refine Sure.mk (by kernel_rfl) ?_) | (refine IfB.tt rfl ?_) | (refine IfB.ff rfl ?_) | (refine IfB.tt ?_ ?_; (focus (simp <;> fail))) | (refine IfB.ff ?_ ?_; (focus (simp <;> fail))) | (refine fits (wrap64 ?_ ?_) ?_; (focus omega); (focus omega)) | (refine fits (wrapU64 ?_ ?_) ?_; (focus omega); (focus omega)) | (refine Need.mk ?_ ?_; (focus omega)) | (refine InB.mk ?_ ?_ ?_; (focus omega); (focus omega)))
    have fin : ∀ P : Prop, (i = lowS s.a l → P) → (i < lowS s.a l → P) → P := fun P a b => by
      rcases Nat.lt_or_ge i (lowS s.a l) with h | h
      · exact b h
      · exact a (by omega)
    have step : i < lowS s.a l → ∃ h : i < l.length, l[i].a < s.a := fun h => ⟨by omega, lowS_lt _ h⟩
    have stop : i = lowS s.a l → ∀ h : i < l.length, ¬ l[i].a < s.a := fun h h' => by subst h; have := lowS_ge h'; omega
    have hP : clashR l s = true → putR l s = (l, false) := fun h => by simp [putR, h]
    have hQ : clashR l s = false → putR l s = (l.take (lowS s.a l) ++ s :: l.drop (lowS s.a l), true) := fun h => by simp [putR, h, h1]
    have hI := insert_Span (l.map eS) (eS s) (lowS s.a l) (by omega) (by omega)
    have hR : (l.map eS).take (lowS s.a l) ++ (eS s :: (l.map eS).drop (lowS s.a l)) = (l.take (lowS s.a l) ++ s :: l.drop (lowS s.a l)).map eS := by simp
    simp [oneB] at h1
    ((repeat ((conv => whnf); first | (refine Sure.mk (by kernel_rfl) ?_) | (refine IfB.tt rfl ?_) | (refine IfB.ff rfl ?_) | (refine IfB.tt ?_ ?_; (focus (simp <;> fail))) | (refine IfB.ff ?_ ?_; (focus (simp <;> fail))) | (refine fits (wrap64 ?_ ?_) ?_; (focus omega); (focus omega)) | (refine fits (wrapU64 ?_ ?_) ?_; (focus omega); (focus omega)) | (refine Need.mk ?_ ?_; (focus omega)) | (refine InB.mk ?_ ?_ ?_; (focus omega); (focus omega)))); (try (conv => whnf)); first | refine IfB.dec (fun h2 => ?_) (fun h2 => ?_) | refine IfB.eq (fun h2 => ?_) (fun h2 => ?_) | refine IfB.ne (fun h2 => ?_) (fun h2 => ?_) | refine IfB.mk (fun h2 => ?_) (fun h2 => ?_))
    · have hlt : i < l.length := by omega
      repeat ((conv => whnf); first | (refine Sure.mk (by kernel_rfl) ?_) | (refine IfB.tt rfl ?_) | (refine IfB.ff rfl ?_) | (refine IfB.tt ?_ ?_; (focus (simp <;> fail))) | (refine IfB.ff ?_ ?_; (focus (simp <;> fail))) | (refine fits (wrap64 ?_ ?_) ?_; (focus omega); (focus omega)) | (refine fits (wrapU64 ?_ ?_) ?_; (focus omega); (focus omega)) | (refine Need.mk ?_ ?_; (focus omega)) | (refine InB.mk ?_ ?_ ?_; (focus omega); (focus omega)))
      ((repeat ((conv => whnf); first | (refine Sure.mk (by kernel_rfl) ?_) | (refine IfB.tt rfl ?_) | (refine IfB.ff rfl ?_) | (refine IfB.tt ?_ ?_; (focus (simp <;> fail))) | (refine IfB.ff ?_ ?_; (focus (simp <;> fail))) | (refine fits (wrap64 ?_ ?_) ?_; (focus omega); (focus omega)) | (refine fits (wrapU64 ?_ ?_) ?_; (focus omega); (focus omega)) | (refine Need.mk ?_ ?_; (focus omega)) | (refine InB.mk ?_ ?_ ?_; (focus omega); (focus omega)))); (try (conv => whnf)); refine idx_map (hlt) ?_)
      repeat ((conv => whnf); first | (refine Sure.mk (by kernel_rfl) ?_) | (refine IfB.tt rfl ?_) | (refine IfB.ff rfl ?_) | (refine IfB.tt ?_ ?_; (focus (simp <;> fail))) | (refine IfB.ff ?_ ?_; (focus (simp <;> fail))) | (refine fits (wrap64 ?_ ?_) ?_; (focus omega); (focus omega)) | (refine fits (wrapU64 ?_ ?_) ?_; (focus omega); (focus omega)) | (refine Need.mk ?_ ?_; (focus omega)) | (refine InB.mk ?_ ?_ ?_; (focus omega); (focus omega)))
      ((repeat ((conv => whnf); first | (refine Sure.mk (by kernel_rfl) ?_) | (refine IfB.tt rfl ?_) | (refine IfB.ff rfl ?_) | (refine IfB.tt ?_ ?_; (focus (simp <;> fail))) | (refine IfB.ff ?_ ?_; (focus (simp <;> fail))) | (refine fits (wrap64 ?_ ?_) ?_; (focus omega); (focus omega)) | (refine fits (wrapU64 ?_ ?_) ?_; (focus omega); (focus omega)) | (refine Need.mk ?_ ?_; (focus omega)) | (refine InB.mk ?_ ?_ ?_; (focus omega); (focus omega)))); (try (conv => whnf)); first | refine IfB.dec (fun h3 => ?_) (fun h3 => ?_) | refine IfB.eq (fun h3 => ?_) (fun h3 => ?_) | refine IfB.ne (fun h3 => ?_) (fun h3 => ?_) | refine IfB.mk (fun h3 => ?_) (fun h3 => ?_))
      · have : i ≠ lowS s.a l := fun e => stop e hlt h3
        repeat ((conv => whnf); first | (refine Sure.mk (by kernel_rfl) ?_) | (refine IfB.tt rfl ?_) | (refine IfB.ff rfl ?_) | (refine IfB.tt ?_ ?_; (focus (simp <;> fail))) | (refine IfB.ff ?_ ?_; (focus (simp <;> fail))) | (refine fits (wrap64 ?_ ?_) ?_; (focus omega); (focus omega)) | (refine fits (wrapU64 ?_ ?_) ?_; (focus omega); (focus omega)) | (refine Need.mk ?_ ?_; (focus omega)) | (refine InB.mk ?_ ?_ ?_; (focus omega); (focus omega)))
        ((repeat ((conv => whnf); first | (refine Sure.mk (by kernel_rfl) ?_) | (refine IfB.tt rfl ?_) | (refine IfB.ff rfl ?_) | (refine IfB.tt ?_ ?_; (focus (simp <;> fail))) | (refine IfB.ff ?_ ?_; (focus (simp <;> fail))) | (refine fits (wrap64 ?_ ?_) ?_; (focus omega); (focus omega)) | (refine fits (wrapU64 ?_ ?_) ?_; (focus omega); (focus omega)) | (refine Need.mk ?_ ?_; (focus omega)) | (refine InB.mk ?_ ?_ ?_; (focus omega); (focus omega)))); (try (conv => whnf)); refine ⟨[], [0, 1], rfl, ⟨i + 1, rfl, rfl, by omega⟩, (by omega : l.length - ((i : Int) + 1).toNat < l.length - (i : Int).toNat)⟩)
      · have e : i = lowS s.a l := by
          refine fin _ id fun h => ?_
          obtain ⟨_, h⟩ := step h; exact absurd h h3
        repeat ((conv => whnf); first | (refine Sure.mk (by kernel_rfl) ?_) | (refine IfB.tt rfl ?_) | (refine IfB.ff rfl ?_) | (refine IfB.tt ?_ ?_; (focus (simp <;> fail))) | (refine IfB.ff ?_ ?_; (focus (simp <;> fail))) | (refine fits (wrap64 ?_ ?_) ?_; (focus omega); (focus omega)) | (refine fits (wrapU64 ?_ ?_) ?_; (focus omega); (focus omega)) | (refine Need.mk ?_ ?_; (focus omega)) | (refine InB.mk ?_ ?_ ?_; (focus omega); (focus omega)))
        ((repeat ((conv => whnf); first | (refine Sure.mk (by kernel_rfl) ?_) | (refine IfB.tt rfl ?_) | (refine IfB.ff rfl ?_) | (refine IfB.tt ?_ ?_; (focus (simp <;> fail))) | (refine IfB.ff ?_ ?_; (focus (simp <;> fail))) | (refine fits (wrap64 ?_ ?_) ?_; (focus omega); (focus omega)) | (refine fits (wrapU64 ?_ ?_) ?_; (focus omega); (focus omega)) | (refine Need.mk ?_ ?_; (focus omega)) | (refine InB.mk ?_ ?_ ?_; (focus omega); (focus omega)))); (try (conv => whnf)); first | refine IfB.dec (fun h4 => ?_) (fun h4 => ?_) | refine IfB.eq (fun h4 => ?_) (fun h4 => ?_) | refine IfB.ne (fun h4 => ?_) (fun h4 => ?_) | refine IfB.mk (fun h4 => ?_) (fun h4 => ?_))
        · have hp : i - 1 < l.length := by omega
          have hx := hb _ (List.getElem_mem hp)
          simp [oneB] at hx
          repeat ((conv => whnf); first | (refine Sure.mk (by kernel_rfl) ?_) | (refine IfB.tt rfl ?_) | (refine IfB.ff rfl ?_) | (refine IfB.tt ?_ ?_; (focus (simp <;> fail))) | (refine IfB.ff ?_ ?_; (focus (simp <;> fail))) | (refine fits (wrap64 ?_ ?_) ?_; (focus omega); (focus omega)) | (refine fits (wrapU64 ?_ ?_) ?_; (focus omega); (focus omega)) | (refine Need.mk ?_ ?_; (focus omega)) | (refine InB.mk ?_ ?_ ?_; (focus omega); (focus omega)))
          refine idx_map' (i - 1) (by omega) hp ?_
          repeat ((conv => whnf); first | (refine Sure.mk (by kernel_rfl) ?_) | (refine IfB.tt rfl ?_) | (refine IfB.ff rfl ?_) | (refine IfB.tt ?_ ?_; (focus (simp <;> fail))) | (refine IfB.ff ?_ ?_; (focus (simp <;> fail))) | (refine fits (wrap64 ?_ ?_) ?_; (focus omega); (focus omega)) | (refine fits (wrapU64 ?_ ?_) ?_; (focus omega); (focus omega)) | (refine Need.mk ?_ ?_; (focus omega)) | (refine InB.mk ?_ ?_ ?_; (focus omega); (focus omega)))
          refine idx_map' (i - 1) (by omega) hp ?_
          repeat ((conv => whnf); first | (refine Sure.mk (by kernel_rfl) ?_) | (refine IfB.tt rfl ?_) | (refine IfB.ff rfl ?_) | (refine IfB.tt ?_ ?_; (focus (simp <;> fail))) | (refine IfB.ff ?_ ?_; (focus (simp <;> fail))) | (refine fits (wrap64 ?_ ?_) ?_; (focus omega); (focus omega)) | (refine fits (wrapU64 ?_ ?_) ?_; (focus omega); (focus omega)) | (refine Need.mk ?_ ?_; (focus omega)) | (refine InB.mk ?_ ?_ ?_; (focus omega); (focus omega)))
          ((repeat ((conv => whnf); first | (refine Sure.mk (by kernel_rfl) ?_) | (refine IfB.tt rfl ?_) | (refine IfB.ff rfl ?_) | (refine IfB.tt ?_ ?_; (focus (simp <;> fail))) | (refine IfB.ff ?_ ?_; (focus (simp <;> fail))) | (refine fits (wrap64 ?_ ?_) ?_; (focus omega); (focus omega)) | (refine fits (wrapU64 ?_ ?_) ?_; (focus omega); (focus omega)) | (refine Need.mk ?_ ?_; (focus omega)) | (refine InB.mk ?_ ?_ ?_; (focus omega); (focus omega)))); (try (conv => whnf)); first | refine IfB.dec (fun h5 => ?_) (fun h5 => ?_) | refine IfB.eq (fun h5 => ?_) (fun h5 => ?_) | refine IfB.ne (fun h5 => ?_) (fun h5 => ?_) | refine IfB.mk (fun h5 => ?_) (fun h5 => ?_))
          · have hc : clashR l s = true := by
              simp only [clashR, ← e]
              rw [show i = i - 1 + 1 by omega]
              simp [hp]; left; omega
            repeat ((conv => whnf); first | (refine Sure.mk (by kernel_rfl) ?_) | (refine IfB.tt rfl ?_) | (refine IfB.ff rfl ?_) | (refine IfB.tt ?_ ?_; (focus (simp <;> fail))) | (refine IfB.ff ?_ ?_; (focus (simp <;> fail))) | (refine fits (wrap64 ?_ ?_) ?_; (focus omega); (focus omega)) | (refine fits (wrapU64 ?_ ?_) ?_; (focus omega); (focus omega)) | (refine Need.mk ?_ ?_; (focus omega)) | (refine InB.mk ?_ ?_ ?_; (focus omega); (focus omega)))
            ((repeat ((conv => whnf); first | (refine Sure.mk (by kernel_rfl) ?_) | (refine IfB.tt rfl ?_) | (refine IfB.ff rfl ?_) | (refine IfB.tt ?_ ?_; (focus (simp <;> fail))) | (refine IfB.ff ?_ ?_; (focus (simp <;> fail))) | (refine fits (wrap64 ?_ ?_) ?_; (focus omega); (focus omega)) | (refine fits (wrapU64 ?_ ?_) ?_; (focus omega); (focus omega)) | (refine Need.mk ?_ ?_; (focus omega)) | (refine InB.mk ?_ ?_ ?_; (focus omega); (focus omega)))); (try (conv => whnf)); refine RetN.fz ⟨[true, true], [], rfl, ?_, rfl⟩)
            rw [hP hc]; rfl
          · repeat ((conv => whnf); first | (refine Sure.mk (by kernel_rfl) ?_) | (refine IfB.tt rfl ?_) | (refine IfB.ff rfl ?_) | (refine IfB.tt ?_ ?_; (focus (simp <;> fail))) | (refine IfB.ff ?_ ?_; (focus (simp <;> fail))) | (refine fits (wrap64 ?_ ?_) ?_; (focus omega); (focus omega)) | (refine fits (wrapU64 ?_ ?_) ?_; (focus omega); (focus omega)) | (refine Need.mk ?_ ?_; (focus omega)) | (refine InB.mk ?_ ?_ ?_; (focus omega); (focus omega)))
            ((repeat ((conv => whnf); first | (refine Sure.mk (by kernel_rfl) ?_) | (refine IfB.tt rfl ?_) | (refine IfB.ff rfl ?_) | (refine IfB.tt ?_ ?_; (focus (simp <;> fail))) | (refine IfB.ff ?_ ?_; (focus (simp <;> fail))) | (refine fits (wrap64 ?_ ?_) ?_; (focus omega); (focus omega)) | (refine fits (wrapU64 ?_ ?_) ?_; (focus omega); (focus omega)) | (refine Need.mk ?_ ?_; (focus omega)) | (refine InB.mk ?_ ?_ ?_; (focus omega); (focus omega)))); (try (conv => whnf)); first | refine IfB.dec (fun h6 => ?_) (fun h6 => ?_) | refine IfB.eq (fun h6 => ?_) (fun h6 => ?_) | refine IfB.ne (fun h6 => ?_) (fun h6 => ?_) | refine IfB.mk (fun h6 => ?_) (fun h6 => ?_))
            · repeat ((conv => whnf); first | (refine Sure.mk (by kernel_rfl) ?_) | (refine IfB.tt rfl ?_) | (refine IfB.ff rfl ?_) | (refine IfB.tt ?_ ?_; (focus (simp <;> fail))) | (refine IfB.ff ?_ ?_; (focus (simp <;> fail))) | (refine fits (wrap64 ?_ ?_) ?_; (focus omega); (focus omega)) | (refine fits (wrapU64 ?_ ?_) ?_; (focus omega); (focus omega)) | (refine Need.mk ?_ ?_; (focus omega)) | (refine InB.mk ?_ ?_ ?_; (focus omega); (focus omega)))
              ((repeat ((conv => whnf); first | (refine Sure.mk (by kernel_rfl) ?_) | (refine IfB.tt rfl ?_) | (refine IfB.ff rfl ?_) | (refine IfB.tt ?_ ?_; (focus (simp <;> fail))) | (refine IfB.ff ?_ ?_; (focus (simp <;> fail))) | (refine fits (wrap64 ?_ ?_) ?_; (focus omega); (focus omega)) | (refine fits (wrapU64 ?_ ?_) ?_; (focus omega); (focus omega)) | (refine Need.mk ?_ ?_; (focus omega)) | (refine InB.mk ?_ ?_ ?_; (focus omega); (focus omega)))); (try (conv => whnf)); refine idx_map (hlt) ?_)
              repeat ((conv => whnf); first | (refine Sure.mk (by kernel_rfl) ?_) | (refine IfB.tt rfl ?_) | (refine IfB.ff rfl ?_) | (refine IfB.tt ?_ ?_; (focus (simp <;> fail))) | (refine IfB.ff ?_ ?_; (focus (simp <;> fail))) | (refine fits (wrap64 ?_ ?_) ?_; (focus omega); (focus omega)) | (refine fits (wrapU64 ?_ ?_) ?_; (focus omega); (focus omega)) | (refine Need.mk ?_ ?_; (focus omega)) | (refine InB.mk ?_ ?_ ?_; (focus omega); (focus omega)))
              ((repeat ((conv => whnf); first | (refine Sure.mk (by kernel_rfl) ?_) | (refine IfB.tt rfl ?_) | (refine IfB.ff rfl ?_) | (refine IfB.tt ?_ ?_; (focus (simp <;> fail))) | (refine IfB.ff ?_ ?_; (focus (simp <;> fail))) | (refine fits (wrap64 ?_ ?_) ?_; (focus omega); (focus omega)) | (refine fits (wrapU64 ?_ ?_) ?_; (focus omega); (focus omega)) | (refine Need.mk ?_ ?_; (focus omega)) | (refine InB.mk ?_ ?_ ?_; (focus omega); (focus omega)))); (try (conv => whnf)); first | refine IfB.dec (fun h7 => ?_) (fun h7 => ?_) | refine IfB.eq (fun h7 => ?_) (fun h7 => ?_) | refine IfB.ne (fun h7 => ?_) (fun h7 => ?_) | refine IfB.mk (fun h7 => ?_) (fun h7 => ?_))
              · have hc : clashR l s = true := by
                  simp only [clashR, ← e]
                  simp [hlt]; right; omega
                repeat ((conv => whnf); first | (refine Sure.mk (by kernel_rfl) ?_) | (refine IfB.tt rfl ?_) | (refine IfB.ff rfl ?_) | (refine IfB.tt ?_ ?_; (focus (simp <;> fail))) | (refine IfB.ff ?_ ?_; (focus (simp <;> fail))) | (refine fits (wrap64 ?_ ?_) ?_; (focus omega); (focus omega)) | (refine fits (wrapU64 ?_ ?_) ?_; (focus omega); (focus omega)) | (refine Need.mk ?_ ?_; (focus omega)) | (refine InB.mk ?_ ?_ ?_; (focus omega); (focus omega)))
                ((repeat ((conv => whnf); first | (refine Sure.mk (by kernel_rfl) ?_) | (refine IfB.tt rfl ?_) | (refine IfB.ff rfl ?_) | (refine IfB.tt ?_ ?_; (focus (simp <;> fail))) | (refine IfB.ff ?_ ?_; (focus (simp <;> fail))) | (refine fits (wrap64 ?_ ?_) ?_; (focus omega); (focus omega)) | (refine fits (wrapU64 ?_ ?_) ?_; (focus omega); (focus omega)) | (refine Need.mk ?_ ?_; (focus omega)) | (refine InB.mk ?_ ?_ ?_; (focus omega); (focus omega)))); (try (conv => whnf)); refine RetN.fz ⟨[true, true], [], rfl, ?_, rfl⟩)
                rw [hP hc]; rfl
              · have hc : clashR l s = false := by
                  simp only [clashR, ← e]
                  rw [show i = i - 1 + 1 by omega]
                  simp [hp, show i - 1 + 1 = i by omega, hlt]; omega
                repeat ((conv => whnf); first | (refine Sure.mk (by kernel_rfl) ?_) | (refine IfB.tt rfl ?_) | (refine IfB.ff rfl ?_) | (refine IfB.tt ?_ ?_; (focus (simp <;> fail))) | (refine IfB.ff ?_ ?_; (focus (simp <;> fail))) | (refine fits (wrap64 ?_ ?_) ?_; (focus omega); (focus omega)) | (refine fits (wrapU64 ?_ ?_) ?_; (focus omega); (focus omega)) | (refine Need.mk ?_ ?_; (focus omega)) | (refine InB.mk ?_ ?_ ?_; (focus omega); (focus omega)))
                subst e
                ((repeat ((conv => whnf); first | (refine Sure.mk (by kernel_rfl) ?_) | (refine IfB.tt rfl ?_) | (refine IfB.ff rfl ?_) | (refine IfB.tt ?_ ?_; (focus (simp <;> fail))) | (refine IfB.ff ?_ ?_; (focus (simp <;> fail))) | (refine fits (wrap64 ?_ ?_) ?_; (focus omega); (focus omega)) | (refine fits (wrapU64 ?_ ?_) ?_; (focus omega); (focus omega)) | (refine Need.mk ?_ ?_; (focus omega)) | (refine InB.mk ?_ ?_ ?_; (focus omega); (focus omega)))); (try (conv => whnf)); refine Choice.mk ⟨true, Choice.mk ⟨false, _, _, hI, ?_⟩⟩)
                repeat ((conv => whnf); first | (refine Sure.mk (by kernel_rfl) ?_) | (refine IfB.tt rfl ?_) | (refine IfB.ff rfl ?_) | (refine IfB.tt ?_ ?_; (focus (simp <;> fail))) | (refine IfB.ff ?_ ?_; (focus (simp <;> fail))) | (refine fits (wrap64 ?_ ?_) ?_; (focus omega); (focus omega)) | (refine fits (wrapU64 ?_ ?_) ?_; (focus omega); (focus omega)) | (refine Need.mk ?_ ?_; (focus omega)) | (refine InB.mk ?_ ?_ ?_; (focus omega); (focus omega)))
                ((repeat ((conv => whnf); first | (refine Sure.mk (by kernel_rfl) ?_) | (refine IfB.tt rfl ?_) | (refine IfB.ff rfl ?_) | (refine IfB.tt ?_ ?_; (focus (simp <;> fail))) | (refine IfB.ff ?_ ?_; (focus (simp <;> fail))) | (refine fits (wrap64 ?_ ?_) ?_; (focus omega); (focus omega)) | (refine fits (wrapU64 ?_ ?_) ?_; (focus omega); (focus omega)) | (refine Need.mk ?_ ?_; (focus omega)) | (refine InB.mk ?_ ?_ ?_; (focus omega); (focus omega)))); (try (conv => whnf)); refine RetN.fz ⟨[true, true], [], rfl, ?_, rfl⟩)
                rw [hQ hc, hR]; rfl
            · omega
        · have h0 : i = 0 := by omega
          repeat ((conv => whnf); first | (refine Sure.mk (by kernel_rfl) ?_) | (refine IfB.tt rfl ?_) | (refine IfB.ff rfl ?_) | (refine IfB.tt ?_ ?_; (focus (simp <;> fail))) | (refine IfB.ff ?_ ?_; (focus (simp <;> fail))) | (refine fits (wrap64 ?_ ?_) ?_; (focus omega); (focus omega)) | (refine fits (wrapU64 ?_ ?_) ?_; (focus omega); (focus omega)) | (refine Need.mk ?_ ?_; (focus omega)) | (refine InB.mk ?_ ?_ ?_; (focus omega); (focus omega)))
          ((repeat ((conv => whnf); first | (refine Sure.mk (by kernel_rfl) ?_) | (refine IfB.tt rfl ?_) | (refine IfB.ff rfl ?_) | (refine IfB.tt ?_ ?_; (focus (simp <;> fail))) | (refine IfB.ff ?_ ?_; (focus (simp <;> fail))) | (refine fits (wrap64 ?_ ?_) ?_; (focus omega); (focus omega)) | (refine fits (wrapU64 ?_ ?_) ?_; (focus omega); (focus omega)) | (refine Need.mk ?_ ?_; (focus omega)) | (refine InB.mk ?_ ?_ ?_; (focus omega); (focus omega)))); (try (conv => whnf)); first | refine IfB.dec (fun h6 => ?_) (fun h6 => ?_) | refine IfB.eq (fun h6 => ?_) (fun h6 => ?_) | refine IfB.ne (fun h6 => ?_) (fun h6 => ?_) | refine IfB.mk (fun h6 => ?_) (fun h6 => ?_))
          · repeat ((conv => whnf); first | (refine Sure.mk (by kernel_rfl) ?_) | (refine IfB.tt rfl ?_) | (refine IfB.ff rfl ?_) | (refine IfB.tt ?_ ?_; (focus (simp <;> fail))) | (refine IfB.ff ?_ ?_; (focus (simp <;> fail))) | (refine fits (wrap64 ?_ ?_) ?_; (focus omega); (focus omega)) | (refine fits (wrapU64 ?_ ?_) ?_; (focus omega); (focus omega)) | (refine Need.mk ?_ ?_; (focus omega)) | (refine InB.mk ?_ ?_ ?_; (focus omega); (focus omega)))
            ((repeat ((conv => whnf); first | (refine Sure.mk (by kernel_rfl) ?_) | (refine IfB.tt rfl ?_) | (refine IfB.ff rfl ?_) | (refine IfB.tt ?_ ?_; (focus (simp <;> fail))) | (refine IfB.ff ?_ ?_; (focus (simp <;> fail))) | (refine fits (wrap64 ?_ ?_) ?_; (focus omega); (focus omega)) | (refine fits (wrapU64 ?_ ?_) ?_; (focus omega); (focus omega)) | (refine Need.mk ?_ ?_; (focus omega)) | (refine InB.mk ?_ ?_ ?_; (focus omega); (focus omega)))); (try (conv => whnf)); refine idx_map (hlt) ?_)
            repeat ((conv => whnf); first | (refine Sure.mk (by kernel_rfl) ?_) | (refine IfB.tt rfl ?_) | (refine IfB.ff rfl ?_) | (refine IfB.tt ?_ ?_; (focus (simp <;> fail))) | (refine IfB.ff ?_ ?_; (focus (simp <;> fail))) | (refine fits (wrap64 ?_ ?_) ?_; (focus omega); (focus omega)) | (refine fits (wrapU64 ?_ ?_) ?_; (focus omega); (focus omega)) | (refine Need.mk ?_ ?_; (focus omega)) | (refine InB.mk ?_ ?_ ?_; (focus omega); (focus omega)))
            ((repeat ((conv => whnf); first | (refine Sure.mk (by kernel_rfl) ?_) | (refine IfB.tt rfl ?_) | (refine IfB.ff rfl ?_) | (refine IfB.tt ?_ ?_; (focus (simp <;> fail))) | (refine IfB.ff ?_ ?_; (focus (simp <;> fail))) | (refine fits (wrap64 ?_ ?_) ?_; (focus omega); (focus omega)) | (refine fits (wrapU64 ?_ ?_) ?_; (focus omega); (focus omega)) | (refine Need.mk ?_ ?_; (focus omega)) | (refine InB.mk ?_ ?_ ?_; (focus omega); (focus omega)))); (try (conv => whnf)); first | refine IfB.dec (fun h7 => ?_) (fun h7 => ?_) | refine IfB.eq (fun h7 => ?_) (fun h7 => ?_) | refine IfB.ne (fun h7 => ?_) (fun h7 => ?_) | refine IfB.mk (fun h7 => ?_) (fun h7 => ?_))
            · have hc : clashR l s = true := by
                simp only [clashR, ← e]
                simp [hlt]; right; omega
              repeat ((conv => whnf); first | (refine Sure.mk (by kernel_rfl) ?_) | (refine IfB.tt rfl ?_) | (refine IfB.ff rfl ?_) | (refine IfB.tt ?_ ?_; (focus (simp <;> fail))) | (refine IfB.ff ?_ ?_; (focus (simp <;> fail))) | (refine fits (wrap64 ?_ ?_) ?_; (focus omega); (focus omega)) | (refine fits (wrapU64 ?_ ?_) ?_; (focus omega); (focus omega)) | (refine Need.mk ?_ ?_; (focus omega)) | (refine InB.mk ?_ ?_ ?_; (focus omega); (focus omega)))
              ((repeat ((conv => whnf); first | (refine Sure.mk (by kernel_rfl) ?_) | (refine IfB.tt rfl ?_) | (refine IfB.ff rfl ?_) | (refine IfB.tt ?_ ?_; (focus (simp <;> fail))) | (refine IfB.ff ?_ ?_; (focus (simp <;> fail))) | (refine fits (wrap64 ?_ ?_) ?_; (focus omega); (focus omega)) | (refine fits (wrapU64 ?_ ?_) ?_; (focus omega); (focus omega)) | (refine Need.mk ?_ ?_; (focus omega)) | (refine InB.mk ?_ ?_ ?_; (focus omega); (focus omega)))); (try (conv => whnf)); refine RetN.fz ⟨[true, true], [], rfl, ?_, rfl⟩)
              rw [hP hc]; rfl
            · have hc : clashR l s = false := by
                subst h0
                simp only [clashR, ← e]
                simp [hlt]; omega
              repeat ((conv => whnf); first | (refine Sure.mk (by kernel_rfl) ?_) | (refine IfB.tt rfl ?_) | (refine IfB.ff rfl ?_) | (refine IfB.tt ?_ ?_; (focus (simp <;> fail))) | (refine IfB.ff ?_ ?_; (focus (simp <;> fail))) | (refine fits (wrap64 ?_ ?_) ?_; (focus omega); (focus omega)) | (refine fits (wrapU64 ?_ ?_) ?_; (focus omega); (focus omega)) | (refine Need.mk ?_ ?_; (focus omega)) | (refine InB.mk ?_ ?_ ?_; (focus omega); (focus omega)))
              subst e
              ((repeat ((conv => whnf); first | (refine Sure.mk (by kernel_rfl) ?_) | (refine IfB.tt rfl ?_) | (refine IfB.ff rfl ?_) | (refine IfB.tt ?_ ?_; (focus (simp <;> fail))) | (refine IfB.ff ?_ ?_; (focus (simp <;> fail))) | (refine fits (wrap64 ?_ ?_) ?_; (focus omega); (focus omega)) | (refine fits (wrapU64 ?_ ?_) ?_; (focus omega); (focus omega)) | (refine Need.mk ?_ ?_; (focus omega)) | (refine InB.mk ?_ ?_ ?_; (focus omega); (focus omega)))); (try (conv => whnf)); refine Choice.mk ⟨true, Choice.mk ⟨false, _, _, hI, ?_⟩⟩)
              repeat ((conv => whnf); first | (refine Sure.mk (by kernel_rfl) ?_) | (refine IfB.tt rfl ?_) | (refine IfB.ff rfl ?_) | (refine IfB.tt ?_ ?_; (focus (simp <;> fail))) | (refine IfB.ff ?_ ?_; (focus (simp <;> fail))) | (refine fits (wrap64 ?_ ?_) ?_; (focus omega); (focus omega)) | (refine fits (wrapU64 ?_ ?_) ?_; (focus omega); (focus omega)) | (refine Need.mk ?_ ?_; (focus omega)) | (refine InB.mk ?_ ?_ ?_; (focus omega); (focus omega)))
              ((repeat ((conv => whnf); first | (refine Sure.mk (by kernel_rfl) ?_) | (refine IfB.tt rfl ?_) | (refine IfB.ff rfl ?_) | (refine IfB.tt ?_ ?_; (focus (simp <;> fail))) | (refine IfB.ff ?_ ?_; (focus (simp <;> fail))) | (refine fits (wrap64 ?_ ?_) ?_; (focus omega); (focus omega)) | (refine fits (wrapU64 ?_ ?_) ?_; (focus omega); (focus omega)) | (refine Need.mk ?_ ?_; (focus omega)) | (refine InB.mk ?_ ?_ ?_; (focus omega); (focus omega)))); (try (conv => whnf)); refine RetN.fz ⟨[true, true], [], rfl, ?_, rfl⟩)
              rw [hQ hc, hR]; rfl
          · omega
    · have hlt : ¬ i < l.length := by omega
      have e : i = lowS s.a l := by omega
      repeat ((conv => whnf); first | (refine Sure.mk (by kernel_rfl) ?_) | (refine IfB.tt rfl ?_) | (refine IfB.ff rfl ?_) | (refine IfB.tt ?_ ?_; (focus (simp <;> fail))) | (refine IfB.ff ?_ ?_; (focus (simp <;> fail))) | (refine fits (wrap64 ?_ ?_) ?_; (focus omega); (focus omega)) | (refine fits (wrapU64 ?_ ?_) ?_; (focus omega); (focus omega)) | (refine Need.mk ?_ ?_; (focus omega)) | (refine InB.mk ?_ ?_ ?_; (focus omega); (focus omega)))
      ((repeat ((conv => whnf); first | (refine Sure.mk (by kernel_rfl) ?_) | (refine IfB.tt rfl ?_) | (refine IfB.ff rfl ?_) | (refine IfB.tt ?_ ?_; (focus (simp <;> fail))) | (refine IfB.ff ?_ ?_; (focus (simp <;> fail))) | (refine fits (wrap64 ?_ ?_) ?_; (focus omega); (focus omega)) | (refine fits (wrapU64 ?_ ?_) ?_; (focus omega); (focus omega)) | (refine Need.mk ?_ ?_; (focus omega)) | (refine InB.mk ?_ ?_ ?_; (focus omega); (focus omega)))); (try (conv => whnf)); first | refine IfB.dec (fun h4 => ?_) (fun h4 => ?_) | refine IfB.eq (fun h4 => ?_) (fun h4 => ?_) | refine IfB.ne (fun h4 => ?_) (fun h4 => ?_) | refine IfB.mk (fun h4 => ?_) (fun h4 => ?_))
      · have hp : i - 1 < l.length := by omega
        have hx := hb _ (List.getElem_mem hp)
        simp [oneB] at hx
        repeat ((conv => whnf); first | (refine Sure.mk (by kernel_rfl) ?_) | (refine IfB.tt rfl ?_) | (refine IfB.ff rfl ?_) | (refine IfB.tt ?_ ?_; (focus (simp <;> fail))) | (refine IfB.ff ?_ ?_; (focus (simp <;> fail))) | (refine fits (wrap64 ?_ ?_) ?_; (focus omega); (focus omega)) | (refine fits (wrapU64 ?_ ?_) ?_; (focus omega); (focus omega)) | (refine Need.mk ?_ ?_; (focus omega)) | (refine InB.mk ?_ ?_ ?_; (focus omega); (focus omega)))
        refine idx_map' (i - 1) (by omega) hp ?_
        repeat ((conv => whnf); first | (refine Sure.mk (by kernel_rfl) ?_) | (refine IfB.tt rfl ?_) | (refine IfB.ff rfl ?_) | (refine IfB.tt ?_ ?_; (focus (simp <;> fail))) | (refine IfB.ff ?_ ?_; (focus (simp <;> fail))) | (refine fits (wrap64 ?_ ?_) ?_; (focus omega); (focus omega)) | (refine fits (wrapU64 ?_ ?_) ?_; (focus omega); (focus omega)) | (refine Need.mk ?_ ?_; (focus omega)) | (refine InB.mk ?_ ?_ ?_; (focus omega); (focus omega)))
        refine idx_map' (i - 1) (by omega) hp ?_
        repeat ((conv => whnf); first | (refine Sure.mk (by kernel_rfl) ?_) | (refine IfB.tt rfl ?_) | (refine IfB.ff rfl ?_) | (refine IfB.tt ?_ ?_; (focus (simp <;> fail))) | (refine IfB.ff ?_ ?_; (focus (simp <;> fail))) | (refine fits (wrap64 ?_ ?_) ?_; (focus omega); (focus omega)) | (refine fits (wrapU64 ?_ ?_) ?_; (focus omega); (focus omega)) | (refine Need.mk ?_ ?_; (focus omega)) | (refine InB.mk ?_ ?_ ?_; (focus omega); (focus omega)))
        ((repeat ((conv => whnf); first | (refine Sure.mk (by kernel_rfl) ?_) | (refine IfB.tt rfl ?_) | (refine IfB.ff rfl ?_) | (refine IfB.tt ?_ ?_; (focus (simp <;> fail))) | (refine IfB.ff ?_ ?_; (focus (simp <;> fail))) | (refine fits (wrap64 ?_ ?_) ?_; (focus omega); (focus omega)) | (refine fits (wrapU64 ?_ ?_) ?_; (focus omega); (focus omega)) | (refine Need.mk ?_ ?_; (focus omega)) | (refine InB.mk ?_ ?_ ?_; (focus omega); (focus omega)))); (try (conv => whnf)); first | refine IfB.dec (fun h5 => ?_) (fun h5 => ?_) | refine IfB.eq (fun h5 => ?_) (fun h5 => ?_) | refine IfB.ne (fun h5 => ?_) (fun h5 => ?_) | refine IfB.mk (fun h5 => ?_) (fun h5 => ?_))
        · have hc : clashR l s = true := by
            simp only [clashR, ← e]
            rw [show i = i - 1 + 1 by omega]
            simp [hp]; left; omega
          repeat ((conv => whnf); first | (refine Sure.mk (by kernel_rfl) ?_) | (refine IfB.tt rfl ?_) | (refine IfB.ff rfl ?_) | (refine IfB.tt ?_ ?_; (focus (simp <;> fail))) | (refine IfB.ff ?_ ?_; (focus (simp <;> fail))) | (refine fits (wrap64 ?_ ?_) ?_; (focus omega); (focus omega)) | (refine fits (wrapU64 ?_ ?_) ?_; (focus omega); (focus omega)) | (refine Need.mk ?_ ?_; (focus omega)) | (refine InB.mk ?_ ?_ ?_; (focus omega); (focus omega)))
          ((repeat ((conv => whnf); first | (refine Sure.mk (by kernel_rfl) ?_) | (refine IfB.tt rfl ?_) | (refine IfB.ff rfl ?_) | (refine IfB.tt ?_ ?_; (focus (simp <;> fail))) | (refine IfB.ff ?_ ?_; (focus (simp <;> fail))) | (refine fits (wrap64 ?_ ?_) ?_; (focus omega); (focus omega)) | (refine fits (wrapU64 ?_ ?_) ?_; (focus omega); (focus omega)) | (refine Need.mk ?_ ?_; (focus omega)) | (refine InB.mk ?_ ?_ ?_; (focus omega); (focus omega)))); (try (conv => whnf)); refine RetN.fz ⟨[true, true], [], rfl, ?_, rfl⟩)
          rw [hP hc]; rfl
        · have hc : clashR l s = false := by
            simp only [clashR, ← e]
            rw [show i = i - 1 + 1 by omega]
            simp [hp, show i - 1 + 1 = i by omega, hlt]; omega
          repeat ((conv => whnf); first | (refine Sure.mk (by kernel_rfl) ?_) | (refine IfB.tt rfl ?_) | (refine IfB.ff rfl ?_) | (refine IfB.tt ?_ ?_; (focus (simp <;> fail))) | (refine IfB.ff ?_ ?_; (focus (simp <;> fail))) | (refine fits (wrap64 ?_ ?_) ?_; (focus omega); (focus omega)) | (refine fits (wrapU64 ?_ ?_) ?_; (focus omega); (focus omega)) | (refine Need.mk ?_ ?_; (focus omega)) | (refine InB.mk ?_ ?_ ?_; (focus omega); (focus omega)))
          ((repeat ((conv => whnf); first | (refine Sure.mk (by kernel_rfl) ?_) | (refine IfB.tt rfl ?_) | (refine IfB.ff rfl ?_) | (refine IfB.tt ?_ ?_; (focus (simp <;> fail))) | (refine IfB.ff ?_ ?_; (focus (simp <;> fail))) | (refine fits (wrap64 ?_ ?_) ?_; (focus omega); (focus omega)) | (refine fits (wrapU64 ?_ ?_) ?_; (focus omega); (focus omega)) | (refine Need.mk ?_ ?_; (focus omega)) | (refine InB.mk ?_ ?_ ?_; (focus omega); (focus omega)))); (try (conv => whnf)); first | refine IfB.dec (fun h6 => ?_) (fun h6 => ?_) | refine IfB.eq (fun h6 => ?_) (fun h6 => ?_) | refine IfB.ne (fun h6 => ?_) (fun h6 => ?_) | refine IfB.mk (fun h6 => ?_) (fun h6 => ?_))
          · omega
          · repeat ((conv => whnf); first | (refine Sure.mk (by kernel_rfl) ?_) | (refine IfB.tt rfl ?_) | (refine IfB.ff rfl ?_) | (refine IfB.tt ?_ ?_; (focus (simp <;> fail))) | (refine IfB.ff ?_ ?_; (focus (simp <;> fail))) | (refine fits (wrap64 ?_ ?_) ?_; (focus omega); (focus omega)) | (refine fits (wrapU64 ?_ ?_) ?_; (focus omega); (focus omega)) | (refine Need.mk ?_ ?_; (focus omega)) | (refine InB.mk ?_ ?_ ?_; (focus omega); (focus omega)))
            subst e
            ((repeat ((conv => whnf); first | (refine Sure.mk (by kernel_rfl) ?_) | (refine IfB.tt rfl ?_) | (refine IfB.ff rfl ?_) | (refine IfB.tt ?_ ?_; (focus (simp <;> fail))) | (refine IfB.ff ?_ ?_; (focus (simp <;> fail))) | (refine fits (wrap64 ?_ ?_) ?_; (focus omega); (focus omega)) | (refine fits (wrapU64 ?_ ?_) ?_; (focus omega); (focus omega)) | (refine Need.mk ?_ ?_; (focus omega)) | (refine InB.mk ?_ ?_ ?_; (focus omega); (focus omega)))); (try (conv => whnf)); refine Choice.mk ⟨true, Choice.mk ⟨false, _, _, hI, ?_⟩⟩)
            repeat ((conv => whnf); first | (refine Sure.mk (by kernel_rfl) ?_) | (refine IfB.tt rfl ?_) | (refine IfB.ff rfl ?_) | (refine IfB.tt ?_ ?_; (focus (simp <;> fail))) | (refine IfB.ff ?_ ?_; (focus (simp <;> fail))) | (refine fits (wrap64 ?_ ?_) ?_; (focus omega); (focus omega)) | (refine fits (wrapU64 ?_ ?_) ?_; (focus omega); (focus omega)) | (refine Need.mk ?_ ?_; (focus omega)) | (refine InB.mk ?_ ?_ ?_; (focus omega); (focus omega)))
            ((repeat ((conv => whnf); first | (refine Sure.mk (by kernel_rfl) ?_) | (refine IfB.tt rfl ?_) | (refine IfB.ff rfl ?_) | (refine IfB.tt ?_ ?_; (focus (simp <;> fail))) | (refine IfB.ff ?_ ?_; (focus (simp <;> fail))) | (refine fits (wrap64 ?_ ?_) ?_; (focus omega); (focus omega)) | (refine fits (wrapU64 ?_ ?_) ?_; (focus omega); (focus omega)) | (refine Need.mk ?_ ?_; (focus omega)) | (refine InB.mk ?_ ?_ ?_; (focus omega); (focus omega)))); (try (conv => whnf)); refine RetN.fz ⟨[true, true], [], rfl, ?_, rfl⟩)
            rw [hQ hc, hR]; rfl
      · have h0 : i = 0 := by omega
        have hc : clashR l s = false := by
          subst h0
          simp only [clashR, ← e]
          simp [hlt]
        repeat ((conv => whnf); first | (refine Sure.mk (by kernel_rfl) ?_) | (refine IfB.tt rfl ?_) | (refine IfB.ff rfl ?_) | (refine IfB.tt ?_ ?_; (focus (simp <;> fail))) | (refine IfB.ff ?_ ?_; (focus (simp <;> fail))) | (refine fits (wrap64 ?_ ?_) ?_; (focus omega); (focus omega)) | (refine fits (wrapU64 ?_ ?_) ?_; (focus omega); (focus omega)) | (refine Need.mk ?_ ?_; (focus omega)) | (refine InB.mk ?_ ?_ ?_; (focus omega); (focus omega)))
        ((repeat ((conv => whnf); first | (refine Sure.mk (by kernel_rfl) ?_) | (refine IfB.tt rfl ?_) | (refine IfB.ff rfl ?_) | (refine IfB.tt ?_ ?_; (focus (simp <;> fail))) | (refine IfB.ff ?_ ?_; (focus (simp <;> fail))) | (refine fits (wrap64 ?_ ?_) ?_; (focus omega); (focus omega)) | (refine fits (wrapU64 ?_ ?_) ?_; (focus omega); (focus omega)) | (refine Need.mk ?_ ?_; (focus omega)) | (refine InB.mk ?_ ?_ ?_; (focus omega); (focus omega)))); (try (conv => whnf)); first | refine IfB.dec (fun h6 => ?_) (fun h6 => ?_) | refine IfB.eq (fun h6 => ?_) (fun h6 => ?_) | refine IfB.ne (fun h6 => ?_) (fun h6 => ?_) | refine IfB.mk (fun h6 => ?_) (fun h6 => ?_))
        · omega
        · repeat ((conv => whnf); first | (refine Sure.mk (by kernel_rfl) ?_) | (refine IfB.tt rfl ?_) | (refine IfB.ff rfl ?_) | (refine IfB.tt ?_ ?_; (focus (simp <;> fail))) | (refine IfB.ff ?_ ?_; (focus (simp <;> fail))) | (refine fits (wrap64 ?_ ?_) ?_; (focus omega); (focus omega)) | (refine fits (wrapU64 ?_ ?_) ?_; (focus omega); (focus omega)) | (refine Need.mk ?_ ?_; (focus omega)) | (refine InB.mk ?_ ?_ ?_; (focus omega); (focus omega)))
          subst e
          ((repeat ((conv => whnf); first | (refine Sure.mk (by kernel_rfl) ?_) | (refine IfB.tt rfl ?_) | (refine IfB.ff rfl ?_) | (refine IfB.tt ?_ ?_; (focus (simp <;> fail))) | (refine IfB.ff ?_ ?_; (focus (simp <;> fail))) | (refine fits (wrap64 ?_ ?_) ?_; (focus omega); (focus omega)) | (refine fits (wrapU64 ?_ ?_) ?_; (focus omega); (focus omega)) | (refine Need.mk ?_ ?_; (focus omega)) | (refine InB.mk ?_ ?_ ?_; (focus omega); (focus omega)))); (try (conv => whnf)); refine Choice.mk ⟨true, Choice.mk ⟨false, _, _, hI, ?_⟩⟩)
          repeat ((conv => whnf); first | (refine Sure.mk (by kernel_rfl) ?_) | (refine IfB.tt rfl ?_) | (refine IfB.ff rfl ?_) | (refine IfB.tt ?_ ?_; (focus (simp <;> fail))) | (refine IfB.ff ?_ ?_; (focus (simp <;> fail))) | (refine fits (wrap64 ?_ ?_) ?_; (focus omega); (focus omega)) | (refine fits (wrapU64 ?_ ?_) ?_; (focus omega); (focus omega)) | (refine Need.mk ?_ ?_; (focus omega)) | (refine InB.mk ?_ ?_ ?_; (focus omega); (focus omega)))
          ((repeat ((conv => whnf); first | (refine Sure.mk (by kernel_rfl) ?_) | (refine IfB.tt rfl ?_) | (refine IfB.ff rfl ?_) | (refine IfB.tt ?_ ?_; (focus (simp <;> fail))) | (refine IfB.ff ?_ ?_; (focus (simp <;> fail))) | (refine fits (wrap64 ?_ ?_) ?_; (focus omega); (focus omega)) | (refine fits (wrapU64 ?_ ?_) ?_; (focus omega); (focus omega)) | (refine Need.mk ?_ ?_; (focus omega)) | (refine InB.mk ?_ ?_ ?_; (focus omega); (focus omega)))); (try (conv => whnf)); refine RetN.fz ⟨[true, true], [], rfl, ?_, rfl⟩)
          rw [hQ hc, hR]; rfl

theorem maySpan_told (x : Sp) : Told P T ref8_MaySpan [] [eS x] (.bool (oneB x)) [] := by
  refine told_of_ev (fn := ref8_MaySpan_fn) tabOk mixed (by kernel_rfl) (by kernel_rfl) (by kernel_rfl) (by kernel_rfl) ?_
  repeat' ((conv => whnf); first | (refine Sure.mk (by kernel_rfl) ?_) | (refine IfB.tt rfl ?_) | (refine IfB.ff rfl ?_) | (refine IfB.tt ?_ ?_; (focus (simp <;> fail))) | (refine IfB.ff ?_ ?_; (focus (simp <;> fail))) | (refine fits (wrap64 ?_ ?_) ?_; (focus omega); (focus omega)) | (refine fits (wrapU64 ?_ ?_) ?_; (focus omega); (focus omega)) | (refine Need.mk ?_ ?_; (focus omega)) | (refine InB.mk ?_ ?_ ?_; (focus omega); (focus omega)) | (refine IfB.dec (fun h => ?_) (fun h => ?_)) | (refine IfB.eq (fun h => ?_) (fun h => ?_)) | (refine IfB.ne (fun h => ?_) (fun h => ?_)))
  all_goals ((repeat ((conv => whnf); first | (refine Sure.mk (by kernel_rfl) ?_) | (refine IfB.tt rfl ?_) | (refine IfB.ff rfl ?_) | (refine IfB.tt ?_ ?_; (focus (simp <;> fail))) | (refine IfB.ff ?_ ?_; (focus (simp <;> fail))) | (refine fits (wrap64 ?_ ?_) ?_; (focus omega); (focus omega)) | (refine fits (wrapU64 ?_ ?_) ?_; (focus omega); (focus omega)) | (refine Need.mk ?_ ?_; (focus omega)) | (refine InB.mk ?_ ?_ ?_; (focus omega); (focus omega)))); (try (conv => whnf)); refine RetN.mk ⟨[], rfl, ?_, rfl⟩)
  all_goals ((try (conv => lhs; whnf)); (try simp [oneB, *]); (try omega))
def overB (x y : Sp) : Bool := decide (x.a < y.a + y.n ∧ y.a < x.a + x.n)
theorem over_told (x y : Sp) (hx : oneB x = true) (hy : oneB y = true) : Told P T ref8_Over [] [eS x, eS y] (.bool (overB x y)) [] := by
  simp [oneB] at hx hy
  refine told_of_ev (fn := ref8_Over_fn) tabOk mixed (by kernel_rfl) (by kernel_rfl) (by kernel_rfl) (by kernel_rfl) ?_
  repeat' ((conv => whnf); first | (refine Sure.mk (by kernel_rfl) ?_) | (refine IfB.tt rfl ?_) | (refine IfB.ff rfl ?_) | (refine IfB.tt ?_ ?_; (focus (simp <;> fail))) | (refine IfB.ff ?_ ?_; (focus (simp <;> fail))) | (refine fits (wrap64 ?_ ?_) ?_; (focus omega); (focus omega)) | (refine fits (wrapU64 ?_ ?_) ?_; (focus omega); (focus omega)) | (refine Need.mk ?_ ?_; (focus omega)) | (refine InB.mk ?_ ?_ ?_; (focus omega); (focus omega)) | (refine IfB.dec (fun h => ?_) (fun h => ?_)) | (refine IfB.eq (fun h => ?_) (fun h => ?_)) | (refine IfB.ne (fun h => ?_) (fun h => ?_)))
  all_goals ((repeat ((conv => whnf); first | (refine Sure.mk (by kernel_rfl) ?_) | (refine IfB.tt rfl ?_) | (refine IfB.ff rfl ?_) | (refine IfB.tt ?_ ?_; (focus (simp <;> fail))) | (refine IfB.ff ?_ ?_; (focus (simp <;> fail))) | (refine fits (wrap64 ?_ ?_) ?_; (focus omega); (focus omega)) | (refine fits (wrapU64 ?_ ?_) ?_; (focus omega); (focus omega)) | (refine Need.mk ?_ ?_; (focus omega)) | (refine InB.mk ?_ ?_ ?_; (focus omega); (focus omega)))); (try (conv => whnf)); refine RetN.mk ⟨[], rfl, ?_, rfl⟩)
  all_goals ((try (conv => lhs; whnf)); (try simp [overB, *]); (try omega))
end Go.Ev.W
namespace Go.Ev.W
open Go.Ev Go.Ev.N

set_option maxHeartbeats 1000000 in
theorem sameSpans_told (xs ys : List Sp) (hx : xs.length ≤ 1000000) (hy : ys.length ≤ 1000000) : Told P T ref8_SameSpans [] [.lst t_api_Span (xs.map eS), .lst t_api_Span (ys.map eS)] (.bool (decide (xs = ys))) [] := by
  have hmx : (xs.map eS).length = xs.length := by simp
  have hmy : (ys.map eS).length = ys.length := by simp
  refine told_of_ev (fn := ref8_SameSpans_fn) tabOk mixed (by kernel_rfl) (by kernel_rfl) (by kernel_rfl) (by kernel_rfl) ?_
  ((repeat ((conv => whnf); first | (refine Sure.mk (by kernel_rfl) ?_) | (refine IfB.tt rfl ?_) | (refine IfB.ff rfl ?_) | (refine IfB.tt ?_ ?_; (focus (simp <;> fail))) | (refine IfB.ff ?_ ?_; (focus (simp <;> fail))) | (refine fits (wrap64 ?_ ?_) ?_; (focus omega); (focus omega)) | (refine fits (wrapU64 ?_ ?_) ?_; (focus omega); (focus omega)) | (refine Need.mk ?_ ?_; (focus omega)) | (refine InB.mk ?_ ?_ ?_; (focus omega); (focus omega)))); (try (conv => whnf)); first | refine IfB.dec (fun h1 => ?_) (fun h1 => ?_) | refine IfB.eq (fun h1 => ?_) (fun h1 => ?_) | refine IfB.ne (fun h1 => ?_) (fun h1 => ?_) | refine IfB.mk (fun h1 => ?_) (fun h1 => ?_))
  · ((repeat ((conv => whnf); first | (refine Sure.mk (by kernel_rfl) ?_) | (refine IfB.tt rfl ?_) | (refine IfB.ff rfl ?_) | (refine IfB.tt ?_ ?_; (focus (simp <;> fail))) | (refine IfB.ff ?_ ?_; (focus (simp <;> fail))) | (refine fits (wrap64 ?_ ?_) ?_; (focus omega); (focus omega)) | (refine fits (wrapU64 ?_ ?_) ?_; (focus omega); (focus omega)) | (refine Need.mk ?_ ?_; (focus omega)) | (refine InB.mk ?_ ?_ ?_; (focus omega); (focus omega)))); (try (conv => whnf)); refine RetN.mk ⟨[], rfl, ?_, rfl⟩)
    have : xs ≠ ys := by rintro rfl; omega
    ((try (conv => lhs; whnf)); (try simp [this]); (try omega))
  · have hl : xs.length = ys.length := by omega
    ((repeat ((conv => whnf); first | (refine Sure.mk (by kernel_rfl) ?_) | (refine IfB.tt rfl ?_) | (refine IfB.ff rfl ?_) | (refine IfB.tt ?_ ?_; (focus (simp <;> fail))) | (refine IfB.ff ?_ ?_; (focus (simp <;> fail))) | (refine fits (wrap64 ?_ ?_) ?_; (focus omega); (focus omega)) | (refine fits (wrapU64 ?_ ?_) ?_; (focus omega); (focus omega)) | (refine Need.mk ?_ ?_; (focus omega)) | (refine InB.mk ?_ ?_ ?_; (focus omega); (focus omega)))); (try (conv => whnf)); refine LoopN.mk ⟨[0,1,5], fun vs L => ∃ i : Nat, vs = [.lst t_api_Span (xs.map eS), .lst t_api_Span (ys.map eS), i64 i] ∧ i ≤ xs.length ∧ L = [] ∧ xs.take i = ys.take i, fun vs L => match vs with | [_, _, .int _ i] => xs.length - i.toNat | _ => 0, [], [], rfl, ⟨0, rfl, by omega, rfl, rfl⟩, ?_⟩)
    rintro vs L ⟨i, rfl, hi, rfl, ht⟩
    ((repeat ((conv => whnf); first | (refine Sure.mk (by kernel_rfl) ?_) | (refine IfB.tt rfl ?_) | (refine IfB.ff rfl ?_) | (refine IfB.tt ?_ ?_; (focus (simp <;> fail))) | (refine IfB.ff ?_ ?_; (focus (simp <;> fail))) | (refine fits (wrap64 ?_ ?_) ?_; (focus omega); (focus omega)) | (refine fits (wrapU64 ?_ ?_) ?_; (focus omega); (focus omega)) | (refine Need.mk ?_ ?_; (focus omega)) | (refine InB.mk ?_ ?_ ?_; (focus omega); (focus omega)))); (try (conv => whnf)); first | refine IfB.dec (fun h2 => ?_) (fun h2 => ?_) | refine IfB.eq (fun h2 => ?_) (fun h2 => ?_) | refine IfB.ne (fun h2 => ?_) (fun h2 => ?_) | refine IfB.mk (fun h2 => ?_) (fun h2 => ?_))
    · have hlt : i < xs.length := by omega
      have hlt' : i < ys.length := by omega
      ((repeat ((conv => whnf); first | (refine Sure.mk (by kernel_rfl) ?_) | (refine IfB.tt rfl ?_) | (refine IfB.ff rfl ?_) | (refine IfB.tt ?_ ?_; (focus (simp <;> fail))) | (refine IfB.ff ?_ ?_; (focus (simp <;> fail))) | (refine fits (wrap64 ?_ ?_) ?_; (focus omega); (focus omega)) | (refine fits (wrapU64 ?_ ?_) ?_; (focus omega); (focus omega)) | (refine Need.mk ?_ ?_; (focus omega)) | (refine InB.mk ?_ ?_ ?_; (focus omega); (focus omega)))); (try (conv => whnf)); refine idx_map (hlt) ?_)
      ((repeat ((conv => whnf); first | (refine Sure.mk (by kernel_rfl) ?_) | (refine IfB.tt rfl ?_) | (refine IfB.ff rfl ?_) | (refine IfB.tt ?_ ?_; (focus (simp <;> fail))) | (refine IfB.ff ?_ ?_; (focus (simp <;> fail))) | (refine fits (wrap64 ?_ ?_) ?_; (focus omega); (focus omega)) | (refine fits (wrapU64 ?_ ?_) ?_; (focus omega); (focus omega)) | (refine Need.mk ?_ ?_; (focus omega)) | (refine InB.mk ?_ ?_ ?_; (focus omega); (focus omega)))); (try (conv => whnf)); refine idx_map (hlt') ?_)
      repeat ((conv => whnf); first | (refine Sure.mk (by kernel_rfl) ?_) | (refine IfB.tt rfl ?_) | (refine IfB.ff rfl ?_) | (refine IfB.tt ?_ ?_; (focus (simp <;> fail))) | (refine IfB.ff ?_ ?_; (focus (simp <;> fail))) | (refine fits (wrap64 ?_ ?_) ?_; (focus omega); (focus omega)) | (refine fits (wrapU64 ?_ ?_) ?_; (focus omega); (focus omega)) | (refine Need.mk ?_ ?_; (focus omega)) | (refine InB.mk ?_ ?_ ?_; (focus omega); (focus omega)))
      refine IfB.mk (fun h3 => ?_) (fun h3 => ?_)
      · ((repeat ((conv => whnf); first | (refine Sure.mk (by kernel_rfl) ?_) | (refine IfB.tt rfl ?_) | (refine IfB.ff rfl ?_) | (refine IfB.tt ?_ ?_; (focus (simp <;> fail))) | (refine IfB.ff ?_ ?_; (focus (simp <;> fail))) | (refine fits (wrap64 ?_ ?_) ?_; (focus omega); (focus omega)) | (refine fits (wrapU64 ?_ ?_) ?_; (focus omega); (focus omega)) | (refine Need.mk ?_ ?_; (focus omega)) | (refine InB.mk ?_ ?_ ?_; (focus omega); (focus omega)))); (try (conv => whnf)); refine RetN.mk ⟨[], rfl, ?_, rfl⟩)
        have : xs ≠ ys := by rintro rfl; simp at h3
        ((try (conv => lhs; whnf)); (try simp [this]); (try omega))
      · have e : xs[i] = ys[i] := by
          generalize xs[i] = x at h3 ⊢
          generalize ys[i] = y at h3 ⊢
          cases x; cases y; simpa [eS] using h3
        repeat ((conv => whnf); first | (refine Sure.mk (by kernel_rfl) ?_) | (refine IfB.tt rfl ?_) | (refine IfB.ff rfl ?_) | (refine IfB.tt ?_ ?_; (focus (simp <;> fail))) | (refine IfB.ff ?_ ?_; (focus (simp <;> fail))) | (refine fits (wrap64 ?_ ?_) ?_; (focus omega); (focus omega)) | (refine fits (wrapU64 ?_ ?_) ?_; (focus omega); (focus omega)) | (refine Need.mk ?_ ?_; (focus omega)) | (refine InB.mk ?_ ?_ ?_; (focus omega); (focus omega)))
        ((repeat ((conv => whnf); first | (refine Sure.mk (by kernel_rfl) ?_) | (refine IfB.tt rfl ?_) | (refine IfB.ff rfl ?_) | (refine IfB.tt ?_ ?_; (focus (simp <;> fail))) | (refine IfB.ff ?_ ?_; (focus (simp <;> fail))) | (refine fits (wrap64 ?_ ?_) ?_; (focus omega); (focus omega)) | (refine fits (wrapU64 ?_ ?_) ?_; (focus omega); (focus omega)) | (refine Need.mk ?_ ?_; (focus omega)) | (refine InB.mk ?_ ?_ ?_; (focus omega); (focus omega)))); (try (conv => whnf)); refine ⟨[], [], rfl, ⟨i + 1, rfl, hlt, rfl, by rw [List.take_succ_eq_append_getElem hlt, List.take_succ_eq_append_getElem hlt', ht, e]⟩, (by omega : xs.length - ((i : Int) + 1).toNat < xs.length - (i : Int).toNat)⟩)
    · ((repeat ((conv => whnf); first | (refine Sure.mk (by kernel_rfl) ?_) | (refine IfB.tt rfl ?_) | (refine IfB.ff rfl ?_) | (refine IfB.tt ?_ ?_; (focus (simp <;> fail))) | (refine IfB.ff ?_ ?_; (focus (simp <;> fail))) | (refine fits (wrap64 ?_ ?_) ?_; (focus omega); (focus omega)) | (refine fits (wrapU64 ?_ ?_) ?_; (focus omega); (focus omega)) | (refine Need.mk ?_ ?_; (focus omega)) | (refine InB.mk ?_ ?_ ?_; (focus omega); (focus omega)))); (try (conv => whnf)); refine RetN.mk ⟨[], rfl, ?_, rfl⟩)
      have e : i = xs.length := by omega
      subst e
      rw [List.take_length, hl, List.take_length] at ht
      ((try (conv => lhs; whnf)); (try simp [ht]); (try omega))


theorem maySpans_told (l : List Sp) (hl : l.length ≤ 1000000) : Told P T ref8_MaySpans [] [lS l] (.bool (mayFrom 0 l)) [] := by
  have hml : (l.map eS).length = l.length := by simp
  refine told_of_ev (fn := ref8_MaySpans_fn) tabOk mixed (by kernel_rfl) (by kernel_rfl) (by kernel_rfl) (by kernel_rfl) ?_
  ((repeat ((conv => whnf); first | (refine Sure.mk (by kernel_rfl) ?_) | (refine IfB.tt rfl ?_) | (refine IfB.ff rfl ?_) | (refine IfB.tt ?_ ?_; (focus (simp <;> fail))) | (refine IfB.ff ?_ ?_; (focus (simp <;> fail))) | (refine fits (wrap64 ?_ ?_) ?_; (focus omega); (focus omega)) | (refine fits (wrapU64 ?_ ?_) ?_; (focus omega); (focus omega)) | (refine Need.mk ?_ ?_; (focus omega)) | (refine InB.mk ?_ ?_ ?_; (focus omega); (focus omega)))); (try (conv => whnf)); refine LoopN.mk ⟨[0,3], fun vs L => ∃ i : Nat, vs = [lS l, i64 i] ∧ L = [] ∧ i ≤ l.length ∧ ∃ e, mayFrom 0 l = mayFrom e (l.drop i) ∧ 0 ≤ e ∧ e ≤ 1099511627776 ∧ (i = 0 → e = 0) ∧ (∀ h : 0 < i, ∀ h : i - 1 < l.length, e = l[i - 1].a + l[i - 1].n ∧ oneB l[i - 1] = true), fun vs L => match vs with | [_, .int _ i] => l.length - i.toNat | _ => 0, [], [], rfl, ⟨0, rfl, rfl, by omega, 0, rfl, by omega, by omega, fun _ => rfl, fun h => by omega⟩, ?_⟩)
  rintro vs L ⟨i, rfl, rfl, hi, e, hm, he1, he2, he3, he4⟩
  ((repeat ((conv => whnf); first | (refine Sure.mk (by kernel_rfl) ?_) | (refine IfB.tt rfl ?_) | (refine IfB.ff rfl ?_) | (refine IfB.tt ?_ ?_; (focus (simp <;> fail))) | (refine IfB.ff ?_ ?_; (focus (simp <;> fail))) | (refine fits (wrap64 ?_ ?_) ?_; (focus omega); (focus omega)) | (refine fits (wrapU64 ?_ ?_) ?_; (focus omega); (focus omega)) | (refine Need.mk ?_ ?_; (focus omega)) | (refine InB.mk ?_ ?_ ?_; (focus omega); (focus omega)))); (try (conv => whnf)); first | refine IfB.dec (fun h1 => ?_) (fun h1 => ?_) | refine IfB.eq (fun h1 => ?_) (fun h1 => ?_) | refine IfB.ne (fun h1 => ?_) (fun h1 => ?_) | refine IfB.mk (fun h1 => ?_) (fun h1 => ?_))
  · have hlt : i < l.length := by omega
    rw [List.drop_eq_getElem_cons hlt, mayFrom] at hm
    ((repeat ((conv => whnf); first | (refine Sure.mk (by kernel_rfl) ?_) | (refine IfB.tt rfl ?_) | (refine IfB.ff rfl ?_) | (refine IfB.tt ?_ ?_; (focus (simp <;> fail))) | (refine IfB.ff ?_ ?_; (focus (simp <;> fail))) | (refine fits (wrap64 ?_ ?_) ?_; (focus omega); (focus omega)) | (refine fits (wrapU64 ?_ ?_) ?_; (focus omega); (focus omega)) | (refine Need.mk ?_ ?_; (focus omega)) | (refine InB.mk ?_ ?_ ?_; (focus omega); (focus omega)))); (try (conv => whnf)); refine idx_map (hlt) ?_)
    ((repeat ((conv => whnf); first | (refine Sure.mk (by kernel_rfl) ?_) | (refine IfB.tt rfl ?_) | (refine IfB.ff rfl ?_) | (refine IfB.tt ?_ ?_; (focus (simp <;> fail))) | (refine IfB.ff ?_ ?_; (focus (simp <;> fail))) | (refine fits (wrap64 ?_ ?_) ?_; (focus omega); (focus omega)) | (refine fits (wrapU64 ?_ ?_) ?_; (focus omega); (focus omega)) | (refine Need.mk ?_ ?_; (focus omega)) | (refine InB.mk ?_ ?_ ?_; (focus omega); (focus omega)))); (try (conv => whnf)); refine Choice.mk ⟨false, Choice.mk ⟨true, _, _, maySpan_told l[i], ?_⟩⟩)
    cases h2 : oneB l[i] with
    | false =>
      repeat ((conv => whnf); first | (refine Sure.mk (by kernel_rfl) ?_) | (refine IfB.tt rfl ?_) | (refine IfB.ff rfl ?_) | (refine IfB.tt ?_ ?_; (focus (simp <;> fail))) | (refine IfB.ff ?_ ?_; (focus (simp <;> fail))) | (refine fits (wrap64 ?_ ?_) ?_; (focus omega); (focus omega)) | (refine fits (wrapU64 ?_ ?_) ?_; (focus omega); (focus omega)) | (refine Need.mk ?_ ?_; (focus omega)) | (refine InB.mk ?_ ?_ ?_; (focus omega); (focus omega)))
      ((repeat ((conv => whnf); first | (refine Sure.mk (by kernel_rfl) ?_) | (refine IfB.tt rfl ?_) | (refine IfB.ff rfl ?_) | (refine IfB.tt ?_ ?_; (focus (simp <;> fail))) | (refine IfB.ff ?_ ?_; (focus (simp <;> fail))) | (refine fits (wrap64 ?_ ?_) ?_; (focus omega); (focus omega)) | (refine fits (wrapU64 ?_ ?_) ?_; (focus omega); (focus omega)) | (refine Need.mk ?_ ?_; (focus omega)) | (refine InB.mk ?_ ?_ ?_; (focus omega); (focus omega)))); (try (conv => whnf)); refine RetN.mk ⟨[], rfl, ?_, rfl⟩)
      ((try (conv => lhs; whnf)); (try simp [hm, h2]); (try omega))
    | true =>
      have h2' := h2
      simp [oneB] at h2'
      rw [h2] at hm
      have nx : mayFrom 0 l = (decide (e ≤ l[i].a) && mayFrom (l[i].a + l[i].n) (l.drop (i + 1))) := by rw [hm]; simp
      repeat ((conv => whnf); first | (refine Sure.mk (by kernel_rfl) ?_) | (refine IfB.tt rfl ?_) | (refine IfB.ff rfl ?_) | (refine IfB.tt ?_ ?_; (focus (simp <;> fail))) | (refine IfB.ff ?_ ?_; (focus (simp <;> fail))) | (refine fits (wrap64 ?_ ?_) ?_; (focus omega); (focus omega)) | (refine fits (wrapU64 ?_ ?_) ?_; (focus omega); (focus omega)) | (refine Need.mk ?_ ?_; (focus omega)) | (refine InB.mk ?_ ?_ ?_; (focus omega); (focus omega)))
      ((repeat ((conv => whnf); first | (refine Sure.mk (by kernel_rfl) ?_) | (refine IfB.tt rfl ?_) | (refine IfB.ff rfl ?_) | (refine IfB.tt ?_ ?_; (focus (simp <;> fail))) | (refine IfB.ff ?_ ?_; (focus (simp <;> fail))) | (refine fits (wrap64 ?_ ?_) ?_; (focus omega); (focus omega)) | (refine fits (wrapU64 ?_ ?_) ?_; (focus omega); (focus omega)) | (refine Need.mk ?_ ?_; (focus omega)) | (refine InB.mk ?_ ?_ ?_; (focus omega); (focus omega)))); (try (conv => whnf)); first | refine IfB.dec (fun h3 => ?_) (fun h3 => ?_) | refine IfB.eq (fun h3 => ?_) (fun h3 => ?_) | refine IfB.ne (fun h3 => ?_) (fun h3 => ?_) | refine IfB.mk (fun h3 => ?_) (fun h3 => ?_))
      · have hp : i - 1 < l.length := by omega
        obtain ⟨e1, e2⟩ := he4 (by omega) hp
        simp [oneB] at e2
        repeat ((conv => whnf); first | (refine Sure.mk (by kernel_rfl) ?_) | (refine IfB.tt rfl ?_) | (refine IfB.ff rfl ?_) | (refine IfB.tt ?_ ?_; (focus (simp <;> fail))) | (refine IfB.ff ?_ ?_; (focus (simp <;> fail))) | (refine fits (wrap64 ?_ ?_) ?_; (focus omega); (focus omega)) | (refine fits (wrapU64 ?_ ?_) ?_; (focus omega); (focus omega)) | (refine Need.mk ?_ ?_; (focus omega)) | (refine InB.mk ?_ ?_ ?_; (focus omega); (focus omega)))
        refine idx_map' (i - 1) (by omega) hp ?_
        repeat ((conv => whnf); first | (refine Sure.mk (by kernel_rfl) ?_) | (refine IfB.tt rfl ?_) | (refine IfB.ff rfl ?_) | (refine IfB.tt ?_ ?_; (focus (simp <;> fail))) | (refine IfB.ff ?_ ?_; (focus (simp <;> fail))) | (refine fits (wrap64 ?_ ?_) ?_; (focus omega); (focus omega)) | (refine fits (wrapU64 ?_ ?_) ?_; (focus omega); (focus omega)) | (refine Need.mk ?_ ?_; (focus omega)) | (refine InB.mk ?_ ?_ ?_; (focus omega); (focus omega)))
        refine idx_map' (i - 1) (by omega) hp ?_
        repeat ((conv => whnf); first | (refine Sure.mk (by kernel_rfl) ?_) | (refine IfB.tt rfl ?_) | (refine IfB.ff rfl ?_) | (refine IfB.tt ?_ ?_; (focus (simp <;> fail))) | (refine IfB.ff ?_ ?_; (focus (simp <;> fail))) | (refine fits (wrap64 ?_ ?_) ?_; (focus omega); (focus omega)) | (refine fits (wrapU64 ?_ ?_) ?_; (focus omega); (focus omega)) | (refine Need.mk ?_ ?_; (focus omega)) | (refine InB.mk ?_ ?_ ?_; (focus omega); (focus omega)))
        ((repeat ((conv => whnf); first | (refine Sure.mk (by kernel_rfl) ?_) | (refine IfB.tt rfl ?_) | (refine IfB.ff rfl ?_) | (refine IfB.tt ?_ ?_; (focus (simp <;> fail))) | (refine IfB.ff ?_ ?_; (focus (simp <;> fail))) | (refine fits (wrap64 ?_ ?_) ?_; (focus omega); (focus omega)) | (refine fits (wrapU64 ?_ ?_) ?_; (focus omega); (focus omega)) | (refine Need.mk ?_ ?_; (focus omega)) | (refine InB.mk ?_ ?_ ?_; (focus omega); (focus omega)))); (try (conv => whnf)); refine idx_map (hlt) ?_)
        repeat ((conv => whnf); first | (refine Sure.mk (by kernel_rfl) ?_) | (refine IfB.tt rfl ?_) | (refine IfB.ff rfl ?_) | (refine IfB.tt ?_ ?_; (focus (simp <;> fail))) | (refine IfB.ff ?_ ?_; (focus (simp <;> fail))) | (refine fits (wrap64 ?_ ?_) ?_; (focus omega); (focus omega)) | (refine fits (wrapU64 ?_ ?_) ?_; (focus omega); (focus omega)) | (refine Need.mk ?_ ?_; (focus omega)) | (refine InB.mk ?_ ?_ ?_; (focus omega); (focus omega)))
        ((repeat ((conv => whnf); first | (refine Sure.mk (by kernel_rfl) ?_) | (refine IfB.tt rfl ?_) | (refine IfB.ff rfl ?_) | (refine IfB.tt ?_ ?_; (focus (simp <;> fail))) | (refine IfB.ff ?_ ?_; (focus (simp <;> fail))) | (refine fits (wrap64 ?_ ?_) ?_; (focus omega); (focus omega)) | (refine fits (wrapU64 ?_ ?_) ?_; (focus omega); (focus omega)) | (refine Need.mk ?_ ?_; (focus omega)) | (refine InB.mk ?_ ?_ ?_; (focus omega); (focus omega)))); (try (conv => whnf)); first | refine IfB.dec (fun h4 => ?_) (fun h4 => ?_) | refine IfB.eq (fun h4 => ?_) (fun h4 => ?_) | refine IfB.ne (fun h4 => ?_) (fun h4 => ?_) | refine IfB.mk (fun h4 => ?_) (fun h4 => ?_))
        · repeat ((conv => whnf); first | (refine Sure.mk (by kernel_rfl) ?_) | (refine IfB.tt rfl ?_) | (refine IfB.ff rfl ?_) | (refine IfB.tt ?_ ?_; (focus (simp <;> fail))) | (refine IfB.ff ?_ ?_; (focus (simp <;> fail))) | (refine fits (wrap64 ?_ ?_) ?_; (focus omega); (focus omega)) | (refine fits (wrapU64 ?_ ?_) ?_; (focus omega); (focus omega)) | (refine Need.mk ?_ ?_; (focus omega)) | (refine InB.mk ?_ ?_ ?_; (focus omega); (focus omega)))
          ((repeat ((conv => whnf); first | (refine Sure.mk (by kernel_rfl) ?_) | (refine IfB.tt rfl ?_) | (refine IfB.ff rfl ?_) | (refine IfB.tt ?_ ?_; (focus (simp <;> fail))) | (refine IfB.ff ?_ ?_; (focus (simp <;> fail))) | (refine fits (wrap64 ?_ ?_) ?_; (focus omega); (focus omega)) | (refine fits (wrapU64 ?_ ?_) ?_; (focus omega); (focus omega)) | (refine Need.mk ?_ ?_; (focus omega)) | (refine InB.mk ?_ ?_ ?_; (focus omega); (focus omega)))); (try (conv => whnf)); refine RetN.mk ⟨[], rfl, ?_, rfl⟩)
          rw [nx, decide_eq_false (by omega)]; rfl
        · repeat ((conv => whnf); first | (refine Sure.mk (by kernel_rfl) ?_) | (refine IfB.tt rfl ?_) | (refine IfB.ff rfl ?_) | (refine IfB.tt ?_ ?_; (focus (simp <;> fail))) | (refine IfB.ff ?_ ?_; (focus (simp <;> fail))) | (refine fits (wrap64 ?_ ?_) ?_; (focus omega); (focus omega)) | (refine fits (wrapU64 ?_ ?_) ?_; (focus omega); (focus omega)) | (refine Need.mk ?_ ?_; (focus omega)) | (refine InB.mk ?_ ?_ ?_; (focus omega); (focus omega)))
          rw [decide_eq_true (by omega), Bool.true_and] at nx
          ((repeat ((conv => whnf); first | (refine Sure.mk (by kernel_rfl) ?_) | (refine IfB.tt rfl ?_) | (refine IfB.ff rfl ?_) | (refine IfB.tt ?_ ?_; (focus (simp <;> fail))) | (refine IfB.ff ?_ ?_; (focus (simp <;> fail))) | (refine fits (wrap64 ?_ ?_) ?_; (focus omega); (focus omega)) | (refine fits (wrapU64 ?_ ?_) ?_; (focus omega); (focus omega)) | (refine Need.mk ?_ ?_; (focus omega)) | (refine InB.mk ?_ ?_ ?_; (focus omega); (focus omega)))); (try (conv => whnf)); refine ⟨[], [], rfl, ⟨i + 1, rfl, rfl, hlt, l[i].a + l[i].n, nx, by omega, by omega, fun h => by omega, fun _ _ => ⟨rfl, h2⟩⟩, (by omega : l.length - ((i : Int) + 1).toNat < l.length - (i : Int).toNat)⟩)
      · repeat ((conv => whnf); first | (refine Sure.mk (by kernel_rfl) ?_) | (refine IfB.tt rfl ?_) | (refine IfB.ff rfl ?_) | (refine IfB.tt ?_ ?_; (focus (simp <;> fail))) | (refine IfB.ff ?_ ?_; (focus (simp <;> fail))) | (refine fits (wrap64 ?_ ?_) ?_; (focus omega); (focus omega)) | (refine fits (wrapU64 ?_ ?_) ?_; (focus omega); (focus omega)) | (refine Need.mk ?_ ?_; (focus omega)) | (refine InB.mk ?_ ?_ ?_; (focus omega); (focus omega)))
        have := he3 (by omega)
        rw [decide_eq_true (by omega), Bool.true_and] at nx
        ((repeat ((conv => whnf); first | (refine Sure.mk (by kernel_rfl) ?_) | (refine IfB.tt rfl ?_) | (refine IfB.ff rfl ?_) | (refine IfB.tt ?_ ?_; (focus (simp <;> fail))) | (refine IfB.ff ?_ ?_; (focus (simp <;> fail))) | (refine fits (wrap64 ?_ ?_) ?_; (focus omega); (focus omega)) | (refine fits (wrapU64 ?_ ?_) ?_; (focus omega); (focus omega)) | (refine Need.mk ?_ ?_; (focus omega)) | (refine InB.mk ?_ ?_ ?_; (focus omega); (focus omega)))); (try (conv => whnf)); refine ⟨[], [], rfl, ⟨i + 1, rfl, rfl, hlt, l[i].a + l[i].n, nx, by omega, by omega, fun h => by omega, fun _ _ => ⟨rfl, h2⟩⟩, (by omega : l.length - ((i : Int) + 1).toNat < l.length - (i : Int).toNat)⟩)
  · have e : i = l.length := by omega
    subst e
    ((repeat ((conv => whnf); first | (refine Sure.mk (by kernel_rfl) ?_) | (refine IfB.tt rfl ?_) | (refine IfB.ff rfl ?_) | (refine IfB.tt ?_ ?_; (focus (simp <;> fail))) | (refine IfB.ff ?_ ?_; (focus (simp <;> fail))) | (refine fits (wrap64 ?_ ?_) ?_; (focus omega); (focus omega)) | (refine fits (wrapU64 ?_ ?_) ?_; (focus omega); (focus omega)) | (refine Need.mk ?_ ?_; (focus omega)) | (refine InB.mk ?_ ?_ ?_; (focus omega); (focus omega)))); (try (conv => whnf)); refine RetN.mk ⟨[], rfl, ?_, rfl⟩)
    ((try (conv => lhs; whnf)); (try simp [hm, mayFrom]); (try omega))

def stepP (s : Sp) (st : List Sp × Bool) (x : Sp) : List Sp × Bool :=
  if st.2 = false ∧ x.a > s.a then (st.1 ++ [s, x], true) else (st.1 ++ [x], st.2)
def accP (s : Sp) (l : List Sp) (i : Nat) : List Sp × Bool := (l.take i).foldl (stepP s) ([], false)
theorem accP_succ {s : Sp} {l : List Sp} {i : Nat} (h : i < l.length) : accP s l (i + 1) = stepP s (accP s l i) l[i] := by
  unfold accP; rw [List.take_succ_eq_append_getElem h, List.foldl_append]; rfl
theorem accP_len {s : Sp} {l : List Sp} : ∀ i, (accP s l i).1.length ≤ 2 * i
  | 0 => by simp [accP]
  | i + 1 => by
    by_cases h : i < l.length
    · have := accP_len (s := s) (l := l) i
      rw [accP_succ h]; unfold stepP; split <;> simp <;> omega
    · have := accP_len (s := s) (l := l) i
      have e : accP s l (i + 1) = accP s l i := by unfold accP; rw [List.take_of_length_le (by omega), List.take_of_length_le (by omega)]
      rw [e]; omega
def putF (l : List Sp) (s : Sp) : List Sp × Bool :=
  if oneB s = true ∧ l.all (fun x => !overB x s) = true then ((accP s l l.length).1 ++ (if (accP s l l.length).2 = true then [] else [s]), true) else (l, false)

set_option maxHeartbeats 1000000 in
theorem refPut_told (l : List Sp) (s : Sp) (hl : l.length ≤ 100000) (hb : ∀ x ∈ l, oneB x = true) : Told P T ref8_Put [] [lS l, eS s] (.tup [lS (putF l s).1, .bool (putF l s).2]) [] := by
  have hml : (l.map eS).length = l.length := by simp
  refine told_of_ev (fn := ref8_Put_fn) tabOk mixed (by kernel_rfl) (by kernel_rfl) (by kernel_rfl) (by kernel_rfl) ?_
  ((repeat ((conv => whnf); first | (refine Sure.mk (by kernel_rfl) ?_) | (refine IfB.tt rfl ?_) | (refine IfB.ff rfl ?_) | (refine IfB.tt ?_ ?_; (focus (simp <;> fail))) | (refine IfB.ff ?_ ?_; (focus (simp <;> fail))) | (refine fits (wrap64 ?_ ?_) ?_; (focus omega); (focus omega)) | (refine fits (wrapU64 ?_ ?_) ?_; (focus omega); (focus omega)) | (refine Need.mk ?_ ?_; (focus omega)) | (refine InB.mk ?_ ?_ ?_; (focus omega); (focus omega)))); (try (conv => whnf)); refine Choice.mk ⟨false, Choice.mk ⟨true, _, _, maySpan_told s, ?_⟩⟩)
  cases h1 : oneB s with
  | false =>
    repeat ((conv => whnf); first | (refine Sure.mk (by kernel_rfl) ?_) | (refine IfB.tt rfl ?_) | (refine IfB.ff rfl ?_) | (refine IfB.tt ?_ ?_; (focus (simp <;> fail))) | (refine IfB.ff ?_ ?_; (focus (simp <;> fail))) | (refine fits (wrap64 ?_ ?_) ?_; (focus omega); (focus omega)) | (refine fits (wrapU64 ?_ ?_) ?_; (focus omega); (focus omega)) | (refine Need.mk ?_ ?_; (focus omega)) | (refine InB.mk ?_ ?_ ?_; (focus omega); (focus omega)))
    ((repeat ((conv => whnf); first | (refine Sure.mk (by kernel_rfl) ?_) | (refine IfB.tt rfl ?_) | (refine IfB.ff rfl ?_) | (refine IfB.tt ?_ ?_; (focus (simp <;> fail))) | (refine IfB.ff ?_ ?_; (focus (simp <;> fail))) | (refine fits (wrap64 ?_ ?_) ?_; (focus omega); (focus omega)) | (refine fits (wrapU64 ?_ ?_) ?_; (focus omega); (focus omega)) | (refine Need.mk ?_ ?_; (focus omega)) | (refine InB.mk ?_ ?_ ?_; (focus omega); (focus omega)))); (try (conv => whnf)); refine RetN.fz ⟨[true, true], [], rfl, ?_, rfl⟩)
    simp only [putF, h1]; rfl
  | true =>
    repeat ((conv => whnf); first | (refine Sure.mk (by kernel_rfl) ?_) | (refine IfB.tt rfl ?_) | (refine IfB.ff rfl ?_) | (refine IfB.tt ?_ ?_; (focus (simp <;> fail))) | (refine IfB.ff ?_ ?_; (focus (simp <;> fail))) | (refine fits (wrap64 ?_ ?_) ?_; (focus omega); (focus omega)) | (refine fits (wrapU64 ?_ ?_) ?_; (focus omega); (focus omega)) | (refine Need.mk ?_ ?_; (focus omega)) | (refine InB.mk ?_ ?_ ?_; (focus omega); (focus omega)))
    have hlen := accP_len (s := s) (l := l)
    have hml2 : ∀ i, ((accP s l i).1.map eS).length = (accP s l i).1.length := by simp
    ((repeat ((conv => whnf); first | (refine Sure.mk (by kernel_rfl) ?_) | (refine IfB.tt rfl ?_) | (refine IfB.ff rfl ?_) | (refine IfB.tt ?_ ?_; (focus (simp <;> fail))) | (refine IfB.ff ?_ ?_; (focus (simp <;> fail))) | (refine fits (wrap64 ?_ ?_) ?_; (focus omega); (focus omega)) | (refine fits (wrapU64 ?_ ?_) ?_; (focus omega); (focus omega)) | (refine Need.mk ?_ ?_; (focus omega)) | (refine InB.mk ?_ ?_ ?_; (focus omega); (focus omega)))); (try (conv => whnf)); refine LoopN.mk ⟨[0,3,6,7,8], fun vs L => ∃ i : Nat, vs = [lS l, .ptr 0 0 0, .ref 1, .bool (accP s l i).2, i64 i] ∧ L = [.var (eS s), .row t_api_Span ((accP s l i).1.map eS)] ∧ i ≤ l.length ∧ ∀ k (h : k < l.length), k < i → overB l[k] s = false, fun vs L => match vs with | [_, _, _, _, .int _ i] => l.length - i.toNat | _ => 0, [], [0, 2], rfl, ⟨0, rfl, rfl, by omega, fun k _ h => by omega⟩, ?_⟩)
    rintro vs L ⟨i, rfl, rfl, hi, hov⟩
    have hleni := hlen i
    have hml2i := hml2 i
    ((repeat ((conv => whnf); first | (refine Sure.mk (by kernel_rfl) ?_) | (refine IfB.tt rfl ?_) | (refine IfB.ff rfl ?_) | (refine IfB.tt ?_ ?_; (focus (simp <;> fail))) | (refine IfB.ff ?_ ?_; (focus (simp <;> fail))) | (refine fits (wrap64 ?_ ?_) ?_; (focus omega); (focus omega)) | (refine fits (wrapU64 ?_ ?_) ?_; (focus omega); (focus omega)) | (refine Need.mk ?_ ?_; (focus omega)) | (refine InB.mk ?_ ?_ ?_; (focus omega); (focus omega)))); (try (conv => whnf)); first | refine IfB.dec (fun h2 => ?_) (fun h2 => ?_) | refine IfB.eq (fun h2 => ?_) (fun h2 => ?_) | refine IfB.ne (fun h2 => ?_) (fun h2 => ?_) | refine IfB.mk (fun h2 => ?_) (fun h2 => ?_))
    · have hlt : i < l.length := by omega
      have hs := accP_succ (s := s) hlt
      ((repeat ((conv => whnf); first | (refine Sure.mk (by kernel_rfl) ?_) | (refine IfB.tt rfl ?_) | (refine IfB.ff rfl ?_) | (refine IfB.tt ?_ ?_; (focus (simp <;> fail))) | (refine IfB.ff ?_ ?_; (focus (simp <;> fail))) | (refine fits (wrap64 ?_ ?_) ?_; (focus omega); (focus omega)) | (refine fits (wrapU64 ?_ ?_) ?_; (focus omega); (focus omega)) | (refine Need.mk ?_ ?_; (focus omega)) | (refine InB.mk ?_ ?_ ?_; (focus omega); (focus omega)))); (try (conv => whnf)); refine idx_map (hlt) ?_)
      repeat ((conv => whnf); first | (refine Sure.mk (by kernel_rfl) ?_) | (refine IfB.tt rfl ?_) | (refine IfB.ff rfl ?_) | (refine IfB.tt ?_ ?_; (focus (simp <;> fail))) | (refine IfB.ff ?_ ?_; (focus (simp <;> fail))) | (refine fits (wrap64 ?_ ?_) ?_; (focus omega); (focus omega)) | (refine fits (wrapU64 ?_ ?_) ?_; (focus omega); (focus omega)) | (refine Need.mk ?_ ?_; (focus omega)) | (refine InB.mk ?_ ?_ ?_; (focus omega); (focus omega)))
      ((repeat ((conv => whnf); first | (refine Sure.mk (by kernel_rfl) ?_) | (refine IfB.tt rfl ?_) | (refine IfB.ff rfl ?_) | (refine IfB.tt ?_ ?_; (focus (simp <;> fail))) | (refine IfB.ff ?_ ?_; (focus (simp <;> fail))) | (refine fits (wrap64 ?_ ?_) ?_; (focus omega); (focus omega)) | (refine fits (wrapU64 ?_ ?_) ?_; (focus omega); (focus omega)) | (refine Need.mk ?_ ?_; (focus omega)) | (refine InB.mk ?_ ?_ ?_; (focus omega); (focus omega)))); (try (conv => whnf)); refine Choice.mk ⟨false, Choice.mk ⟨true, _, _, over_told _ _ (hb _ (List.getElem_mem hlt)) h1, ?_⟩⟩)
      repeat ((conv => whnf); first | (refine Sure.mk (by kernel_rfl) ?_) | (refine IfB.tt rfl ?_) | (refine IfB.ff rfl ?_) | (refine IfB.tt ?_ ?_; (focus (simp <;> fail))) | (refine IfB.ff ?_ ?_; (focus (simp <;> fail))) | (refine fits (wrap64 ?_ ?_) ?_; (focus omega); (focus omega)) | (refine fits (wrapU64 ?_ ?_) ?_; (focus omega); (focus omega)) | (refine Need.mk ?_ ?_; (focus omega)) | (refine InB.mk ?_ ?_ ?_; (focus omega); (focus omega)))
      cases h3 : overB l[i] s with
      | true =>
        repeat ((conv => whnf); first | (refine Sure.mk (by kernel_rfl) ?_) | (refine IfB.tt rfl ?_) | (refine IfB.ff rfl ?_) | (refine IfB.tt ?_ ?_; (focus (simp <;> fail))) | (refine IfB.ff ?_ ?_; (focus (simp <;> fail))) | (refine fits (wrap64 ?_ ?_) ?_; (focus omega); (focus omega)) | (refine fits (wrapU64 ?_ ?_) ?_; (focus omega); (focus omega)) | (refine Need.mk ?_ ?_; (focus omega)) | (refine InB.mk ?_ ?_ ?_; (focus omega); (focus omega)))
        ((repeat ((conv => whnf); first | (refine Sure.mk (by kernel_rfl) ?_) | (refine IfB.tt rfl ?_) | (refine IfB.ff rfl ?_) | (refine IfB.tt ?_ ?_; (focus (simp <;> fail))) | (refine IfB.ff ?_ ?_; (focus (simp <;> fail))) | (refine fits (wrap64 ?_ ?_) ?_; (focus omega); (focus omega)) | (refine fits (wrapU64 ?_ ?_) ?_; (focus omega); (focus omega)) | (refine Need.mk ?_ ?_; (focus omega)) | (refine InB.mk ?_ ?_ ?_; (focus omega); (focus omega)))); (try (conv => whnf)); refine RetN.fz ⟨[true, true], [], rfl, ?_, rfl⟩)
        have : ¬ (l.all (fun x => !overB x s) = true) := fun h => by
          have := List.all_eq_true.1 h _ (List.getElem_mem hlt); rw [h3] at this; cases this
        rw [show putF l s = (l, false) by unfold putF; rw [if_neg (fun h => this h.2)]]; rfl
      | false =>
        have hov' : ∀ k (h : k < l.length), k < i + 1 → overB l[k] s = false := fun k h hk => by
          rcases Nat.lt_or_ge k i with h' | h'
          · exact hov k h h'
          · have : k = i := by omega
            subst this; exact h3
        repeat ((conv => whnf); first | (refine Sure.mk (by kernel_rfl) ?_) | (refine IfB.tt rfl ?_) | (refine IfB.ff rfl ?_) | (refine IfB.tt ?_ ?_; (focus (simp <;> fail))) | (refine IfB.ff ?_ ?_; (focus (simp <;> fail))) | (refine fits (wrap64 ?_ ?_) ?_; (focus omega); (focus omega)) | (refine fits (wrapU64 ?_ ?_) ?_; (focus omega); (focus omega)) | (refine Need.mk ?_ ?_; (focus omega)) | (refine InB.mk ?_ ?_ ?_; (focus omega); (focus omega)))
        cases h4 : (accP s l i).2 with
        | true =>
          have e : accP s l (i + 1) = ((accP s l i).1 ++ [l[i]], true) := by rw [hs, stepP, h4]; simp
          repeat ((conv => whnf); first | (refine Sure.mk (by kernel_rfl) ?_) | (refine IfB.tt rfl ?_) | (refine IfB.ff rfl ?_) | (refine IfB.tt ?_ ?_; (focus (simp <;> fail))) | (refine IfB.ff ?_ ?_; (focus (simp <;> fail))) | (refine fits (wrap64 ?_ ?_) ?_; (focus omega); (focus omega)) | (refine fits (wrapU64 ?_ ?_) ?_; (focus omega); (focus omega)) | (refine Need.mk ?_ ?_; (focus omega)) | (refine InB.mk ?_ ?_ ?_; (focus omega); (focus omega)))
          ((repeat ((conv => whnf); first | (refine Sure.mk (by kernel_rfl) ?_) | (refine IfB.tt rfl ?_) | (refine IfB.ff rfl ?_) | (refine IfB.tt ?_ ?_; (focus (simp <;> fail))) | (refine IfB.ff ?_ ?_; (focus (simp <;> fail))) | (refine fits (wrap64 ?_ ?_) ?_; (focus omega); (focus omega)) | (refine fits (wrapU64 ?_ ?_) ?_; (focus omega); (focus omega)) | (refine Need.mk ?_ ?_; (focus omega)) | (refine InB.mk ?_ ?_ ?_; (focus omega); (focus omega)))); (try (conv => whnf)); refine idx_map (hlt) ?_)
          repeat ((conv => whnf); first | (refine Sure.mk (by kernel_rfl) ?_) | (refine IfB.tt rfl ?_) | (refine IfB.ff rfl ?_) | (refine IfB.tt ?_ ?_; (focus (simp <;> fail))) | (refine IfB.ff ?_ ?_; (focus (simp <;> fail))) | (refine fits (wrap64 ?_ ?_) ?_; (focus omega); (focus omega)) | (refine fits (wrapU64 ?_ ?_) ?_; (focus omega); (focus omega)) | (refine Need.mk ?_ ?_; (focus omega)) | (refine InB.mk ?_ ?_ ?_; (focus omega); (focus omega)))
          ((repeat ((conv => whnf); first | (refine Sure.mk (by kernel_rfl) ?_) | (refine IfB.tt rfl ?_) | (refine IfB.ff rfl ?_) | (refine IfB.tt ?_ ?_; (focus (simp <;> fail))) | (refine IfB.ff ?_ ?_; (focus (simp <;> fail))) | (refine fits (wrap64 ?_ ?_) ?_; (focus omega); (focus omega)) | (refine fits (wrapU64 ?_ ?_) ?_; (focus omega); (focus omega)) | (refine Need.mk ?_ ?_; (focus omega)) | (refine InB.mk ?_ ?_ ?_; (focus omega); (focus omega)))); (try (conv => whnf)); refine Room.mk (by first | omega | (simp; omega) | (simp <;> fail)) ?_)
          repeat ((conv => whnf); first | (refine Sure.mk (by kernel_rfl) ?_) | (refine IfB.tt rfl ?_) | (refine IfB.ff rfl ?_) | (refine IfB.tt ?_ ?_; (focus (simp <;> fail))) | (refine IfB.ff ?_ ?_; (focus (simp <;> fail))) | (refine fits (wrap64 ?_ ?_) ?_; (focus omega); (focus omega)) | (refine fits (wrapU64 ?_ ?_) ?_; (focus omega); (focus omega)) | (refine Need.mk ?_ ?_; (focus omega)) | (refine InB.mk ?_ ?_ ?_; (focus omega); (focus omega)))
          ((repeat ((conv => whnf); first | (refine Sure.mk (by kernel_rfl) ?_) | (refine IfB.tt rfl ?_) | (refine IfB.ff rfl ?_) | (refine IfB.tt ?_ ?_; (focus (simp <;> fail))) | (refine IfB.ff ?_ ?_; (focus (simp <;> fail))) | (refine fits (wrap64 ?_ ?_) ?_; (focus omega); (focus omega)) | (refine fits (wrapU64 ?_ ?_) ?_; (focus omega); (focus omega)) | (refine Need.mk ?_ ?_; (focus omega)) | (refine InB.mk ?_ ?_ ?_; (focus omega); (focus omega)))); (try (conv => whnf)); refine ⟨[], [0, 3], rfl, ⟨i + 1, by rw [e]; rfl, show [Blk.var _, Blk.row _ _] = [Blk.var _, Blk.row _ _] by rw [e, List.map_append]; rfl, hlt, hov'⟩, (by omega : l.length - ((i : Int) + 1).toNat < l.length - (i : Int).toNat)⟩)
        | false =>
          repeat ((conv => whnf); first | (refine Sure.mk (by kernel_rfl) ?_) | (refine IfB.tt rfl ?_) | (refine IfB.ff rfl ?_) | (refine IfB.tt ?_ ?_; (focus (simp <;> fail))) | (refine IfB.ff ?_ ?_; (focus (simp <;> fail))) | (refine fits (wrap64 ?_ ?_) ?_; (focus omega); (focus omega)) | (refine fits (wrapU64 ?_ ?_) ?_; (focus omega); (focus omega)) | (refine Need.mk ?_ ?_; (focus omega)) | (refine InB.mk ?_ ?_ ?_; (focus omega); (focus omega)))
          ((repeat ((conv => whnf); first | (refine Sure.mk (by kernel_rfl) ?_) | (refine IfB.tt rfl ?_) | (refine IfB.ff rfl ?_) | (refine IfB.tt ?_ ?_; (focus (simp <;> fail))) | (refine IfB.ff ?_ ?_; (focus (simp <;> fail))) | (refine fits (wrap64 ?_ ?_) ?_; (focus omega); (focus omega)) | (refine fits (wrapU64 ?_ ?_) ?_; (focus omega); (focus omega)) | (refine Need.mk ?_ ?_; (focus omega)) | (refine InB.mk ?_ ?_ ?_; (focus omega); (focus omega)))); (try (conv => whnf)); refine idx_map (hlt) ?_)
          repeat ((conv => whnf); first | (refine Sure.mk (by kernel_rfl) ?_) | (refine IfB.tt rfl ?_) | (refine IfB.ff rfl ?_) | (refine IfB.tt ?_ ?_; (focus (simp <;> fail))) | (refine IfB.ff ?_ ?_; (focus (simp <;> fail))) | (refine fits (wrap64 ?_ ?_) ?_; (focus omega); (focus omega)) | (refine fits (wrapU64 ?_ ?_) ?_; (focus omega); (focus omega)) | (refine Need.mk ?_ ?_; (focus omega)) | (refine InB.mk ?_ ?_ ?_; (focus omega); (focus omega)))
          ((repeat ((conv => whnf); first | (refine Sure.mk (by kernel_rfl) ?_) | (refine IfB.tt rfl ?_) | (refine IfB.ff rfl ?_) | (refine IfB.tt ?_ ?_; (focus (simp <;> fail))) | (refine IfB.ff ?_ ?_; (focus (simp <;> fail))) | (refine fits (wrap64 ?_ ?_) ?_; (focus omega); (focus omega)) | (refine fits (wrapU64 ?_ ?_) ?_; (focus omega); (focus omega)) | (refine Need.mk ?_ ?_; (focus omega)) | (refine InB.mk ?_ ?_ ?_; (focus omega); (focus omega)))); (try (conv => whnf)); first | refine IfB.dec (fun h5 => ?_) (fun h5 => ?_) | refine IfB.eq (fun h5 => ?_) (fun h5 => ?_) | refine IfB.ne (fun h5 => ?_) (fun h5 => ?_) | refine IfB.mk (fun h5 => ?_) (fun h5 => ?_))
          · have e : accP s l (i + 1) = ((accP s l i).1 ++ [s] ++ [l[i]], true) := by rw [hs, stepP, h4, if_pos ⟨rfl, h5⟩]; simp
            repeat ((conv => whnf); first | (refine Sure.mk (by kernel_rfl) ?_) | (refine IfB.tt rfl ?_) | (refine IfB.ff rfl ?_) | (refine IfB.tt ?_ ?_; (focus (simp <;> fail))) | (refine IfB.ff ?_ ?_; (focus (simp <;> fail))) | (refine fits (wrap64 ?_ ?_) ?_; (focus omega); (focus omega)) | (refine fits (wrapU64 ?_ ?_) ?_; (focus omega); (focus omega)) | (refine Need.mk ?_ ?_; (focus omega)) | (refine InB.mk ?_ ?_ ?_; (focus omega); (focus omega)))
            ((repeat ((conv => whnf); first | (refine Sure.mk (by kernel_rfl) ?_) | (refine IfB.tt rfl ?_) | (refine IfB.ff rfl ?_) | (refine IfB.tt ?_ ?_; (focus (simp <;> fail))) | (refine IfB.ff ?_ ?_; (focus (simp <;> fail))) | (refine fits (wrap64 ?_ ?_) ?_; (focus omega); (focus omega)) | (refine fits (wrapU64 ?_ ?_) ?_; (focus omega); (focus omega)) | (refine Need.mk ?_ ?_; (focus omega)) | (refine InB.mk ?_ ?_ ?_; (focus omega); (focus omega)))); (try (conv => whnf)); refine Room.mk (by first | omega | (simp; omega) | (simp <;> fail)) ?_)
            repeat ((conv => whnf); first | (refine Sure.mk (by kernel_rfl) ?_) | (refine IfB.tt rfl ?_) | (refine IfB.ff rfl ?_) | (refine IfB.tt ?_ ?_; (focus (simp <;> fail))) | (refine IfB.ff ?_ ?_; (focus (simp <;> fail))) | (refine fits (wrap64 ?_ ?_) ?_; (focus omega); (focus omega)) | (refine fits (wrapU64 ?_ ?_) ?_; (focus omega); (focus omega)) | (refine Need.mk ?_ ?_; (focus omega)) | (refine InB.mk ?_ ?_ ?_; (focus omega); (focus omega)))
            ((repeat ((conv => whnf); first | (refine Sure.mk (by kernel_rfl) ?_) | (refine IfB.tt rfl ?_) | (refine IfB.ff rfl ?_) | (refine IfB.tt ?_ ?_; (focus (simp <;> fail))) | (refine IfB.ff ?_ ?_; (focus (simp <;> fail))) | (refine fits (wrap64 ?_ ?_) ?_; (focus omega); (focus omega)) | (refine fits (wrapU64 ?_ ?_) ?_; (focus omega); (focus omega)) | (refine Need.mk ?_ ?_; (focus omega)) | (refine InB.mk ?_ ?_ ?_; (focus omega); (focus omega)))); (try (conv => whnf)); refine idx_map (hlt) ?_)
            repeat ((conv => whnf); first | (refine Sure.mk (by kernel_rfl) ?_) | (refine IfB.tt rfl ?_) | (refine IfB.ff rfl ?_) | (refine IfB.tt ?_ ?_; (focus (simp <;> fail))) | (refine IfB.ff ?_ ?_; (focus (simp <;> fail))) | (refine fits (wrap64 ?_ ?_) ?_; (focus omega); (focus omega)) | (refine fits (wrapU64 ?_ ?_) ?_; (focus omega); (focus omega)) | (refine Need.mk ?_ ?_; (focus omega)) | (refine InB.mk ?_ ?_ ?_; (focus omega); (focus omega)))
            ((repeat ((conv => whnf); first | (refine Sure.mk (by kernel_rfl) ?_) | (refine IfB.tt rfl ?_) | (refine IfB.ff rfl ?_) | (refine IfB.tt ?_ ?_; (focus (simp <;> fail))) | (refine IfB.ff ?_ ?_; (focus (simp <;> fail))) | (refine fits (wrap64 ?_ ?_) ?_; (focus omega); (focus omega)) | (refine fits (wrapU64 ?_ ?_) ?_; (focus omega); (focus omega)) | (refine Need.mk ?_ ?_; (focus omega)) | (refine InB.mk ?_ ?_ ?_; (focus omega); (focus omega)))); (try (conv => whnf)); refine Room.mk (by first | omega | (simp; omega) | (simp <;> fail)) ?_)
            repeat ((conv => whnf); first | (refine Sure.mk (by kernel_rfl) ?_) | (refine IfB.tt rfl ?_) | (refine IfB.ff rfl ?_) | (refine IfB.tt ?_ ?_; (focus (simp <;> fail))) | (refine IfB.ff ?_ ?_; (focus (simp <;> fail))) | (refine fits (wrap64 ?_ ?_) ?_; (focus omega); (focus omega)) | (refine fits (wrapU64 ?_ ?_) ?_; (focus omega); (focus omega)) | (refine Need.mk ?_ ?_; (focus omega)) | (refine InB.mk ?_ ?_ ?_; (focus omega); (focus omega)))
            ((repeat ((conv => whnf); first | (refine Sure.mk (by kernel_rfl) ?_) | (refine IfB.tt rfl ?_) | (refine IfB.ff rfl ?_) | (refine IfB.tt ?_ ?_; (focus (simp <;> fail))) | (refine IfB.ff ?_ ?_; (focus (simp <;> fail))) | (refine fits (wrap64 ?_ ?_) ?_; (focus omega); (focus omega)) | (refine fits (wrapU64 ?_ ?_) ?_; (focus omega); (focus omega)) | (refine Need.mk ?_ ?_; (focus omega)) | (refine InB.mk ?_ ?_ ?_; (focus omega); (focus omega)))); (try (conv => whnf)); refine ⟨[], [0, 5], rfl, ⟨i + 1, by rw [e]; rfl, show [Blk.var _, Blk.row _ _] = [Blk.var _, Blk.row _ _] by rw [e, List.map_append, List.map_append]; rfl, hlt, hov'⟩, (by omega : l.length - ((i : Int) + 1).toNat < l.length - (i : Int).toNat)⟩)
          · have e : accP s l (i + 1) = ((accP s l i).1 ++ [l[i]], false) := by rw [hs, stepP, h4, if_neg (by simp; omega)]
            repeat ((conv => whnf); first | (refine Sure.mk (by kernel_rfl) ?_) | (refine IfB.tt rfl ?_) | (refine IfB.ff rfl ?_) | (refine IfB.tt ?_ ?_; (focus (simp <;> fail))) | (refine IfB.ff ?_ ?_; (focus (simp <;> fail))) | (refine fits (wrap64 ?_ ?_) ?_; (focus omega); (focus omega)) | (refine fits (wrapU64 ?_ ?_) ?_; (focus omega); (focus omega)) | (refine Need.mk ?_ ?_; (focus omega)) | (refine InB.mk ?_ ?_ ?_; (focus omega); (focus omega)))
            ((repeat ((conv => whnf); first | (refine Sure.mk (by kernel_rfl) ?_) | (refine IfB.tt rfl ?_) | (refine IfB.ff rfl ?_) | (refine IfB.tt ?_ ?_; (focus (simp <;> fail))) | (refine IfB.ff ?_ ?_; (focus (simp <;> fail))) | (refine fits (wrap64 ?_ ?_) ?_; (focus omega); (focus omega)) | (refine fits (wrapU64 ?_ ?_) ?_; (focus omega); (focus omega)) | (refine Need.mk ?_ ?_; (focus omega)) | (refine InB.mk ?_ ?_ ?_; (focus omega); (focus omega)))); (try (conv => whnf)); refine idx_map (hlt) ?_)
            repeat ((conv => whnf); first | (refine Sure.mk (by kernel_rfl) ?_) | (refine IfB.tt rfl ?_) | (refine IfB.ff rfl ?_) | (refine IfB.tt ?_ ?_; (focus (simp <;> fail))) | (refine IfB.ff ?_ ?_; (focus (simp <;> fail))) | (refine fits (wrap64 ?_ ?_) ?_; (focus omega); (focus omega)) | (refine fits (wrapU64 ?_ ?_) ?_; (focus omega); (focus omega)) | (refine Need.mk ?_ ?_; (focus omega)) | (refine InB.mk ?_ ?_ ?_; (focus omega); (focus omega)))
            ((repeat ((conv => whnf); first | (refine Sure.mk (by kernel_rfl) ?_) | (refine IfB.tt rfl ?_) | (refine IfB.ff rfl ?_) | (refine IfB.tt ?_ ?_; (focus (simp <;> fail))) | (refine IfB.ff ?_ ?_; (focus (simp <;> fail))) | (refine fits (wrap64 ?_ ?_) ?_; (focus omega); (focus omega)) | (refine fits (wrapU64 ?_ ?_) ?_; (focus omega); (focus omega)) | (refine Need.mk ?_ ?_; (focus omega)) | (refine InB.mk ?_ ?_ ?_; (focus omega); (focus omega)))); (try (conv => whnf)); refine Room.mk (by first | omega | (simp; omega) | (simp <;> fail)) ?_)
            repeat ((conv => whnf); first | (refine Sure.mk (by kernel_rfl) ?_) | (refine IfB.tt rfl ?_) | (refine IfB.ff rfl ?_) | (refine IfB.tt ?_ ?_; (focus (simp <;> fail))) | (refine IfB.ff ?_ ?_; (focus (simp <;> fail))) | (refine fits (wrap64 ?_ ?_) ?_; (focus omega); (focus omega)) | (refine fits (wrapU64 ?_ ?_) ?_; (focus omega); (focus omega)) | (refine Need.mk ?_ ?_; (focus omega)) | (refine InB.mk ?_ ?_ ?_; (focus omega); (focus omega)))
            ((repeat ((conv => whnf); first | (refine Sure.mk (by kernel_rfl) ?_) | (refine IfB.tt rfl ?_) | (refine IfB.ff rfl ?_) | (refine IfB.tt ?_ ?_; (focus (simp <;> fail))) | (refine IfB.ff ?_ ?_; (focus (simp <;> fail))) | (refine fits (wrap64 ?_ ?_) ?_; (focus omega); (focus omega)) | (refine fits (wrapU64 ?_ ?_) ?_; (focus omega); (focus omega)) | (refine Need.mk ?_ ?_; (focus omega)) | (refine InB.mk ?_ ?_ ?_; (focus omega); (focus omega)))); (try (conv => whnf)); refine ⟨[], [0, 3], rfl, ⟨i + 1, by rw [e]; rfl, show [Blk.var _, Blk.row _ _] = [Blk.var _, Blk.row _ _] by rw [e, List.map_append]; rfl, hlt, hov'⟩, (by omega : l.length - ((i : Int) + 1).toNat < l.length - (i : Int).toNat)⟩)
    · have e : i = l.length := by omega
      subst e
      have hall : l.all (fun x => !overB x s) = true := List.all_eq_true.2 fun x hx => by
        obtain ⟨k, hk, rfl⟩ := List.getElem_of_mem hx
        rw [hov k hk hk]; rfl
      have hP : putF l s = ((accP s l l.length).1 ++ (if (accP s l l.length).2 = true then [] else [s]), true) := by unfold putF; rw [if_pos ⟨h1, hall⟩]
      cases h4 : (accP s l l.length).2 with
      | true =>
        rw [h4] at hP
        have hP : putF l s = ((accP s l l.length).1 ++ [], true) := hP
        rw [List.append_nil] at hP
        repeat ((conv => whnf); first | (refine Sure.mk (by kernel_rfl) ?_) | (refine IfB.tt rfl ?_) | (refine IfB.ff rfl ?_) | (refine IfB.tt ?_ ?_; (focus (simp <;> fail))) | (refine IfB.ff ?_ ?_; (focus (simp <;> fail))) | (refine fits (wrap64 ?_ ?_) ?_; (focus omega); (focus omega)) | (refine fits (wrapU64 ?_ ?_) ?_; (focus omega); (focus omega)) | (refine Need.mk ?_ ?_; (focus omega)) | (refine InB.mk ?_ ?_ ?_; (focus omega); (focus omega)))
        ((repeat ((conv => whnf); first | (refine Sure.mk (by kernel_rfl) ?_) | (refine IfB.tt rfl ?_) | (refine IfB.ff rfl ?_) | (refine IfB.tt ?_ ?_; (focus (simp <;> fail))) | (refine IfB.ff ?_ ?_; (focus (simp <;> fail))) | (refine fits (wrap64 ?_ ?_) ?_; (focus omega); (focus omega)) | (refine fits (wrapU64 ?_ ?_) ?_; (focus omega); (focus omega)) | (refine Need.mk ?_ ?_; (focus omega)) | (refine InB.mk ?_ ?_ ?_; (focus omega); (focus omega)))); (try (conv => whnf)); refine RetN.fz ⟨[true, true], [], rfl, ?_, rfl⟩)
        rw [hP]; rfl
      | false =>
        rw [h4] at hP
        have hP : putF l s = ((accP s l l.length).1 ++ [s], true) := hP
        repeat ((conv => whnf); first | (refine Sure.mk (by kernel_rfl) ?_) | (refine IfB.tt rfl ?_) | (refine IfB.ff rfl ?_) | (refine IfB.tt ?_ ?_; (focus (simp <;> fail))) | (refine IfB.ff ?_ ?_; (focus (simp <;> fail))) | (refine fits (wrap64 ?_ ?_) ?_; (focus omega); (focus omega)) | (refine fits (wrapU64 ?_ ?_) ?_; (focus omega); (focus omega)) | (refine Need.mk ?_ ?_; (focus omega)) | (refine InB.mk ?_ ?_ ?_; (focus omega); (focus omega)))
        ((repeat ((conv => whnf); first | (refine Sure.mk (by kernel_rfl) ?_) | (refine IfB.tt rfl ?_) | (refine IfB.ff rfl ?_) | (refine IfB.tt ?_ ?_; (focus (simp <;> fail))) | (refine IfB.ff ?_ ?_; (focus (simp <;> fail))) | (refine fits (wrap64 ?_ ?_) ?_; (focus omega); (focus omega)) | (refine fits (wrapU64 ?_ ?_) ?_; (focus omega); (focus omega)) | (refine Need.mk ?_ ?_; (focus omega)) | (refine InB.mk ?_ ?_ ?_; (focus omega); (focus omega)))); (try (conv => whnf)); refine Room.mk (by first | omega | (simp; omega) | (simp <;> fail)) ?_)
        repeat ((conv => whnf); first | (refine Sure.mk (by kernel_rfl) ?_) | (refine IfB.tt rfl ?_) | (refine IfB.ff rfl ?_) | (refine IfB.tt ?_ ?_; (focus (simp <;> fail))) | (refine IfB.ff ?_ ?_; (focus (simp <;> fail))) | (refine fits (wrap64 ?_ ?_) ?_; (focus omega); (focus omega)) | (refine fits (wrapU64 ?_ ?_) ?_; (focus omega); (focus omega)) | (refine Need.mk ?_ ?_; (focus omega)) | (refine InB.mk ?_ ?_ ?_; (focus omega); (focus omega)))
        ((repeat ((conv => whnf); first | (refine Sure.mk (by kernel_rfl) ?_) | (refine IfB.tt rfl ?_) | (refine IfB.ff rfl ?_) | (refine IfB.tt ?_ ?_; (focus (simp <;> fail))) | (refine IfB.ff ?_ ?_; (focus (simp <;> fail))) | (refine fits (wrap64 ?_ ?_) ?_; (focus omega); (focus omega)) | (refine fits (wrapU64 ?_ ?_) ?_; (focus omega); (focus omega)) | (refine Need.mk ?_ ?_; (focus omega)) | (refine InB.mk ?_ ?_ ?_; (focus omega); (focus omega)))); (try (conv => whnf)); refine RetN.fz ⟨[true, true], [], rfl, ?_, rfl⟩)
        rw [hP]
        show _ = AV.tup [AV.lst _ (List.map eS (_ ++ [s])), _]
        rw [List.map_append]; rfl

/-- Pieces without one. -/
def posS (y : Int) : List Sp → Option Nat
  | [] => none
  | x :: l => if x.a = y then some 0 else (posS y l).map (· + 1)
def cutF (l : List Sp) (y : Int) : List Sp × Sp × Bool := match posS y l with
  | some i => (l.take i ++ l.drop (i + 1), (l[i]?).getD ⟨0, 0⟩, true)
  | none => (l, ⟨0, 0⟩, false)
theorem posS_none {y : Int} : ∀ {l : List Sp}, (∀ x ∈ l, x.a ≠ y) → posS y l = none
  | [], _ => rfl
  | x :: l, h => by
    unfold posS
    rw [if_neg (h x (by simp)), posS_none fun z hz => h z (by simp [hz])]; rfl
theorem posS_some {y : Int} : ∀ {l : List Sp} {i : Nat} (hi : i < l.length), (∀ k (h : k < l.length), k < i → l[k].a ≠ y) → l[i].a = y → posS y l = some i
  | [], i, h, _, _ => by simp at h
  | x :: l, 0, _, _, h => by unfold posS; rw [if_pos (show x.a = y from h)]
  | x :: l, i + 1, hi, h, h2 => by
    unfold posS
    rw [if_neg (show ¬ x.a = y from h 0 (by simp) (by omega)), posS_some (l := l) (i := i) (by simpa using hi) (fun k hk hki => h (k + 1) (by simpa using hk) (by omega)) h2]; rfl

theorem refCut_told (l : List Sp) (y : Int) (hl : l.length ≤ 100000) : Told P T ref8_Cut [] [lS l, i64 y] (.tup [lS (cutF l y).1, eS (cutF l y).2.1, .bool (cutF l y).2.2]) [] := by
  have hml : (l.map eS).length = l.length := by simp
  refine told_of_ev (fn := ref8_Cut_fn) tabOk mixed (by kernel_rfl) (by kernel_rfl) (by kernel_rfl) (by kernel_rfl) ?_
  repeat ((conv => whnf); first | (refine Sure.mk (by kernel_rfl) ?_) | (refine IfB.tt rfl ?_) | (refine IfB.ff rfl ?_) | (refine IfB.tt ?_ ?_; (focus (simp <;> fail))) | (refine IfB.ff ?_ ?_; (focus (simp <;> fail))) | (refine fits (wrap64 ?_ ?_) ?_; (focus omega); (focus omega)) | (refine fits (wrapU64 ?_ ?_) ?_; (focus omega); (focus omega)) | (refine Need.mk ?_ ?_; (focus omega)) | (refine InB.mk ?_ ?_ ?_; (focus omega); (focus omega)))
  ((repeat ((conv => whnf); first | (refine Sure.mk (by kernel_rfl) ?_) | (refine IfB.tt rfl ?_) | (refine IfB.ff rfl ?_) | (refine IfB.tt ?_ ?_; (focus (simp <;> fail))) | (refine IfB.ff ?_ ?_; (focus (simp <;> fail))) | (refine fits (wrap64 ?_ ?_) ?_; (focus omega); (focus omega)) | (refine fits (wrapU64 ?_ ?_) ?_; (focus omega); (focus omega)) | (refine Need.mk ?_ ?_; (focus omega)) | (refine InB.mk ?_ ?_ ?_; (focus omega); (focus omega)))); (try (conv => whnf)); refine LoopN.mk ⟨[0,1,5,7], fun vs L => ∃ i : Nat, vs = [lS l, i64 y, .ptr 0 0 0, i64 i] ∧ L = [.var (eS ⟨0, 0⟩)] ∧ i ≤ l.length ∧ ∀ k (h : k < l.length), k < i → l[k].a ≠ y, fun vs L => match vs with | [_, _, _, .int _ i] => l.length - i.toNat | _ => 0, [], [1], rfl, ⟨0, rfl, rfl, by omega, fun k _ h => by omega⟩, ?_⟩)
  rintro vs L ⟨i, rfl, rfl, hi, hn⟩
  ((repeat ((conv => whnf); first | (refine Sure.mk (by kernel_rfl) ?_) | (refine IfB.tt rfl ?_) | (refine IfB.ff rfl ?_) | (refine IfB.tt ?_ ?_; (focus (simp <;> fail))) | (refine IfB.ff ?_ ?_; (focus (simp <;> fail))) | (refine fits (wrap64 ?_ ?_) ?_; (focus omega); (focus omega)) | (refine fits (wrapU64 ?_ ?_) ?_; (focus omega); (focus omega)) | (refine Need.mk ?_ ?_; (focus omega)) | (refine InB.mk ?_ ?_ ?_; (focus omega); (focus omega)))); (try (conv => whnf)); first | refine IfB.dec (fun h1 => ?_) (fun h1 => ?_) | refine IfB.eq (fun h1 => ?_) (fun h1 => ?_) | refine IfB.ne (fun h1 => ?_) (fun h1 => ?_) | refine IfB.mk (fun h1 => ?_) (fun h1 => ?_))
  · have hlt : i < l.length := by omega
    ((repeat ((conv => whnf); first | (refine Sure.mk (by kernel_rfl) ?_) | (refine IfB.tt rfl ?_) | (refine IfB.ff rfl ?_) | (refine IfB.tt ?_ ?_; (focus (simp <;> fail))) | (refine IfB.ff ?_ ?_; (focus (simp <;> fail))) | (refine fits (wrap64 ?_ ?_) ?_; (focus omega); (focus omega)) | (refine fits (wrapU64 ?_ ?_) ?_; (focus omega); (focus omega)) | (refine Need.mk ?_ ?_; (focus omega)) | (refine InB.mk ?_ ?_ ?_; (focus omega); (focus omega)))); (try (conv => whnf)); refine idx_map (hlt) ?_)
    repeat ((conv => whnf); first | (refine Sure.mk (by kernel_rfl) ?_) | (refine IfB.tt rfl ?_) | (refine IfB.ff rfl ?_) | (refine IfB.tt ?_ ?_; (focus (simp <;> fail))) | (refine IfB.ff ?_ ?_; (focus (simp <;> fail))) | (refine fits (wrap64 ?_ ?_) ?_; (focus omega); (focus omega)) | (refine fits (wrapU64 ?_ ?_) ?_; (focus omega); (focus omega)) | (refine Need.mk ?_ ?_; (focus omega)) | (refine InB.mk ?_ ?_ ?_; (focus omega); (focus omega)))
    ((repeat ((conv => whnf); first | (refine Sure.mk (by kernel_rfl) ?_) | (refine IfB.tt rfl ?_) | (refine IfB.ff rfl ?_) | (refine IfB.tt ?_ ?_; (focus (simp <;> fail))) | (refine IfB.ff ?_ ?_; (focus (simp <;> fail))) | (refine fits (wrap64 ?_ ?_) ?_; (focus omega); (focus omega)) | (refine fits (wrapU64 ?_ ?_) ?_; (focus omega); (focus omega)) | (refine Need.mk ?_ ?_; (focus omega)) | (refine InB.mk ?_ ?_ ?_; (focus omega); (focus omega)))); (try (conv => whnf)); first | refine IfB.dec (fun h2 => ?_) (fun h2 => ?_) | refine IfB.eq (fun h2 => ?_) (fun h2 => ?_) | refine IfB.ne (fun h2 => ?_) (fun h2 => ?_) | refine IfB.mk (fun h2 => ?_) (fun h2 => ?_))
    · have hp := posS_some hlt hn h2
      have hc : cutF l y = (l.take i ++ l.drop (i + 1), l[i], true) := by unfold cutF; rw [hp]; simp [hlt]
      repeat ((conv => whnf); first | (refine Sure.mk (by kernel_rfl) ?_) | (refine IfB.tt rfl ?_) | (refine IfB.ff rfl ?_) | (refine IfB.tt ?_ ?_; (focus (simp <;> fail))) | (refine IfB.ff ?_ ?_; (focus (simp <;> fail))) | (refine fits (wrap64 ?_ ?_) ?_; (focus omega); (focus omega)) | (refine fits (wrapU64 ?_ ?_) ?_; (focus omega); (focus omega)) | (refine Need.mk ?_ ?_; (focus omega)) | (refine InB.mk ?_ ?_ ?_; (focus omega); (focus omega)))
      ((repeat ((conv => whnf); first | (refine Sure.mk (by kernel_rfl) ?_) | (refine IfB.tt rfl ?_) | (refine IfB.ff rfl ?_) | (refine IfB.tt ?_ ?_; (focus (simp <;> fail))) | (refine IfB.ff ?_ ?_; (focus (simp <;> fail))) | (refine fits (wrap64 ?_ ?_) ?_; (focus omega); (focus omega)) | (refine fits (wrapU64 ?_ ?_) ?_; (focus omega); (focus omega)) | (refine Need.mk ?_ ?_; (focus omega)) | (refine InB.mk ?_ ?_ ?_; (focus omega); (focus omega)))); (try (conv => whnf)); refine Cut.mk (by first | omega | (simp; omega) | (simp <;> fail)) (by first | omega | (simp; omega) | (simp <;> fail)) (by first | omega | (simp; omega) | (simp <;> fail)) ?_)
      repeat ((conv => whnf); first | (refine Sure.mk (by kernel_rfl) ?_) | (refine IfB.tt rfl ?_) | (refine IfB.ff rfl ?_) | (refine IfB.tt ?_ ?_; (focus (simp <;> fail))) | (refine IfB.ff ?_ ?_; (focus (simp <;> fail))) | (refine fits (wrap64 ?_ ?_) ?_; (focus omega); (focus omega)) | (refine fits (wrapU64 ?_ ?_) ?_; (focus omega); (focus omega)) | (refine Need.mk ?_ ?_; (focus omega)) | (refine InB.mk ?_ ?_ ?_; (focus omega); (focus omega)))
      ((repeat ((conv => whnf); first | (refine Sure.mk (by kernel_rfl) ?_) | (refine IfB.tt rfl ?_) | (refine IfB.ff rfl ?_) | (refine IfB.tt ?_ ?_; (focus (simp <;> fail))) | (refine IfB.ff ?_ ?_; (focus (simp <;> fail))) | (refine fits (wrap64 ?_ ?_) ?_; (focus omega); (focus omega)) | (refine fits (wrapU64 ?_ ?_) ?_; (focus omega); (focus omega)) | (refine Need.mk ?_ ?_; (focus omega)) | (refine InB.mk ?_ ?_ ?_; (focus omega); (focus omega)))); (try (conv => whnf)); refine Room.mk (by first | omega | (simp; omega) | (simp <;> fail)) ?_)
      repeat ((conv => whnf); first | (refine Sure.mk (by kernel_rfl) ?_) | (refine IfB.tt rfl ?_) | (refine IfB.ff rfl ?_) | (refine IfB.tt ?_ ?_; (focus (simp <;> fail))) | (refine IfB.ff ?_ ?_; (focus (simp <;> fail))) | (refine fits (wrap64 ?_ ?_) ?_; (focus omega); (focus omega)) | (refine fits (wrapU64 ?_ ?_) ?_; (focus omega); (focus omega)) | (refine Need.mk ?_ ?_; (focus omega)) | (refine InB.mk ?_ ?_ ?_; (focus omega); (focus omega)))
      ((repeat ((conv => whnf); first | (refine Sure.mk (by kernel_rfl) ?_) | (refine IfB.tt rfl ?_) | (refine IfB.ff rfl ?_) | (refine IfB.tt ?_ ?_; (focus (simp <;> fail))) | (refine IfB.ff ?_ ?_; (focus (simp <;> fail))) | (refine fits (wrap64 ?_ ?_) ?_; (focus omega); (focus omega)) | (refine fits (wrapU64 ?_ ?_) ?_; (focus omega); (focus omega)) | (refine Need.mk ?_ ?_; (focus omega)) | (refine InB.mk ?_ ?_ ?_; (focus omega); (focus omega)))); (try (conv => whnf)); refine Cut.mk (by first | omega | (simp; omega) | (simp <;> fail)) (by first | omega | (simp; omega) | (simp <;> fail)) (by first | omega | (simp; omega) | (simp <;> fail)) ?_)
      repeat ((conv => whnf); first | (refine Sure.mk (by kernel_rfl) ?_) | (refine IfB.tt rfl ?_) | (refine IfB.ff rfl ?_) | (refine IfB.tt ?_ ?_; (focus (simp <;> fail))) | (refine IfB.ff ?_ ?_; (focus (simp <;> fail))) | (refine fits (wrap64 ?_ ?_) ?_; (focus omega); (focus omega)) | (refine fits (wrapU64 ?_ ?_) ?_; (focus omega); (focus omega)) | (refine Need.mk ?_ ?_; (focus omega)) | (refine InB.mk ?_ ?_ ?_; (focus omega); (focus omega)))
      ((repeat ((conv => whnf); first | (refine Sure.mk (by kernel_rfl) ?_) | (refine IfB.tt rfl ?_) | (refine IfB.ff rfl ?_) | (refine IfB.tt ?_ ?_; (focus (simp <;> fail))) | (refine IfB.ff ?_ ?_; (focus (simp <;> fail))) | (refine fits (wrap64 ?_ ?_) ?_; (focus omega); (focus omega)) | (refine fits (wrapU64 ?_ ?_) ?_; (focus omega); (focus omega)) | (refine Need.mk ?_ ?_; (focus omega)) | (refine InB.mk ?_ ?_ ?_; (focus omega); (focus omega)))); (try (conv => whnf)); refine Room.mk (by first | omega | (simp; omega) | (simp <;> fail)) ?_)
      repeat ((conv => whnf); first | (refine Sure.mk (by kernel_rfl) ?_) | (refine IfB.tt rfl ?_) | (refine IfB.ff rfl ?_) | (refine IfB.tt ?_ ?_; (focus (simp <;> fail))) | (refine IfB.ff ?_ ?_; (focus (simp <;> fail))) | (refine fits (wrap64 ?_ ?_) ?_; (focus omega); (focus omega)) | (refine fits (wrapU64 ?_ ?_) ?_; (focus omega); (focus omega)) | (refine Need.mk ?_ ?_; (focus omega)) | (refine InB.mk ?_ ?_ ?_; (focus omega); (focus omega)))
      ((repeat ((conv => whnf); first | (refine Sure.mk (by kernel_rfl) ?_) | (refine IfB.tt rfl ?_) | (refine IfB.ff rfl ?_) | (refine IfB.tt ?_ ?_; (focus (simp <;> fail))) | (refine IfB.ff ?_ ?_; (focus (simp <;> fail))) | (refine fits (wrap64 ?_ ?_) ?_; (focus omega); (focus omega)) | (refine fits (wrapU64 ?_ ?_) ?_; (focus omega); (focus omega)) | (refine Need.mk ?_ ?_; (focus omega)) | (refine InB.mk ?_ ?_ ?_; (focus omega); (focus omega)))); (try (conv => whnf)); refine idx_map (hlt) ?_)
      repeat ((conv => whnf); first | (refine Sure.mk (by kernel_rfl) ?_) | (refine IfB.tt rfl ?_) | (refine IfB.ff rfl ?_) | (refine IfB.tt ?_ ?_; (focus (simp <;> fail))) | (refine IfB.ff ?_ ?_; (focus (simp <;> fail))) | (refine fits (wrap64 ?_ ?_) ?_; (focus omega); (focus omega)) | (refine fits (wrapU64 ?_ ?_) ?_; (focus omega); (focus omega)) | (refine Need.mk ?_ ?_; (focus omega)) | (refine InB.mk ?_ ?_ ?_; (focus omega); (focus omega)))
      ((repeat ((conv => whnf); first | (refine Sure.mk (by kernel_rfl) ?_) | (refine IfB.tt rfl ?_) | (refine IfB.ff rfl ?_) | (refine IfB.tt ?_ ?_; (focus (simp <;> fail))) | (refine IfB.ff ?_ ?_; (focus (simp <;> fail))) | (refine fits (wrap64 ?_ ?_) ?_; (focus omega); (focus omega)) | (refine fits (wrapU64 ?_ ?_) ?_; (focus omega); (focus omega)) | (refine Need.mk ?_ ?_; (focus omega)) | (refine InB.mk ?_ ?_ ?_; (focus omega); (focus omega)))); (try (conv => whnf)); refine RetN.fz ⟨[true, true, true], [], rfl, ?_, rfl⟩)
      rw [hc]
      show AV.tup [AV.lst t_api_Span (([] ++ (l.map eS).take ((i : Nat) : Int).toNat) ++ (l.map eS).drop (((i : Nat) : Int) + 1).toNat), eS l[i], AV.bool true] = _
      rw [show (((i : Nat) : Int) + 1).toNat = i + 1 by omega, Int.toNat_natCast]
      simp [lS]
    · repeat ((conv => whnf); first | (refine Sure.mk (by kernel_rfl) ?_) | (refine IfB.tt rfl ?_) | (refine IfB.ff rfl ?_) | (refine IfB.tt ?_ ?_; (focus (simp <;> fail))) | (refine IfB.ff ?_ ?_; (focus (simp <;> fail))) | (refine fits (wrap64 ?_ ?_) ?_; (focus omega); (focus omega)) | (refine fits (wrapU64 ?_ ?_) ?_; (focus omega); (focus omega)) | (refine Need.mk ?_ ?_; (focus omega)) | (refine InB.mk ?_ ?_ ?_; (focus omega); (focus omega)))
      have hn' : ∀ k (h : k < l.length), k < i + 1 → l[k].a ≠ y := fun k h hk => by
        rcases Nat.lt_or_ge k i with h' | h'
        · exact hn k h h'
        · have : k = i := by omega
          subst this; exact h2
      ((repeat ((conv => whnf); first | (refine Sure.mk (by kernel_rfl) ?_) | (refine IfB.tt rfl ?_) | (refine IfB.ff rfl ?_) | (refine IfB.tt ?_ ?_; (focus (simp <;> fail))) | (refine IfB.ff ?_ ?_; (focus (simp <;> fail))) | (refine fits (wrap64 ?_ ?_) ?_; (focus omega); (focus omega)) | (refine fits (wrapU64 ?_ ?_) ?_; (focus omega); (focus omega)) | (refine Need.mk ?_ ?_; (focus omega)) | (refine InB.mk ?_ ?_ ?_; (focus omega); (focus omega)))); (try (conv => whnf)); refine ⟨[], [0], rfl, ⟨i + 1, rfl, rfl, hlt, hn'⟩, (by omega : l.length - ((i : Int) + 1).toNat < l.length - (i : Int).toNat)⟩)
  · have e : i = l.length := by omega
    subst e
    have hp : posS y l = none := posS_none fun x hx => by
      obtain ⟨k, hk, rfl⟩ := List.getElem_of_mem hx
      exact hn k hk hk
    have hc : cutF l y = (l, ⟨0, 0⟩, false) := by unfold cutF; rw [hp]
    repeat ((conv => whnf); first | (refine Sure.mk (by kernel_rfl) ?_) | (refine IfB.tt rfl ?_) | (refine IfB.ff rfl ?_) | (refine IfB.tt ?_ ?_; (focus (simp <;> fail))) | (refine IfB.ff ?_ ?_; (focus (simp <;> fail))) | (refine fits (wrap64 ?_ ?_) ?_; (focus omega); (focus omega)) | (refine fits (wrapU64 ?_ ?_) ?_; (focus omega); (focus omega)) | (refine Need.mk ?_ ?_; (focus omega)) | (refine InB.mk ?_ ?_ ?_; (focus omega); (focus omega)))
    ((repeat ((conv => whnf); first | (refine Sure.mk (by kernel_rfl) ?_) | (refine IfB.tt rfl ?_) | (refine IfB.ff rfl ?_) | (refine IfB.tt ?_ ?_; (focus (simp <;> fail))) | (refine IfB.ff ?_ ?_; (focus (simp <;> fail))) | (refine fits (wrap64 ?_ ?_) ?_; (focus omega); (focus omega)) | (refine fits (wrapU64 ?_ ?_) ?_; (focus omega); (focus omega)) | (refine Need.mk ?_ ?_; (focus omega)) | (refine InB.mk ?_ ?_ ?_; (focus omega); (focus omega)))); (try (conv => whnf)); refine RetN.fz ⟨[true, true, true], [], rfl, ?_, rfl⟩)
    rw [hc]; rfl
end Go.Ev.W
namespace Go.Ev.W
open Go.Ev Go.Ev.N
theorem Get.of {es : List (AV × AV)} {k : AV} {P : Option AV → Prop} {m v : Option AV} (h : m = v) (p : P v) : Get es k P m := ⟨h ▸ p⟩
/-- Keys that are told apart by a number. -/
def KeyOf (key : Int → AV) : Prop := ∀ x y, eqKey (key x) (key y) = (x == y)
theorem KeyOf.e {key : Int → AV} (h : KeyOf key) (x y : Int) : eqKey (key x) (key y) = (x == y) := h x y
theorem KeyOf.inj {key : Int → AV} (h : KeyOf key) {x y : Int} (e : key x = key y) : x = y := by
  have := h x y; rw [e, h y y] at this; simpa using this
/-- What a map says, by numbers. -/
structure MapIs (key : Int → AV) (es : List (AV × AV)) (g : Int → Option AV) : Prop where
  keys : ∀ p ∈ es, ∃ x, p.1 = key x
  get : ∀ y, mget es (key y) = g y
  uniq : (es.map (·.1)).Nodup
theorem MapIs.nil (key : Int → AV) : MapIs key [] fun _ => none := ⟨fun p h => by simp at h, fun _ => rfl, List.nodup_nil⟩
theorem mget_mset {key : Int → AV} (hk : KeyOf key) (x y : Int) (v : AV) : ∀ {es : List (AV × AV)}, (∀ p ∈ es, ∃ x, p.1 = key x) → mget (mset es (key x) v) (key y) = if y = x then some v else mget es (key y)
  | [], _ => by
    simp only [mset, mget, hk.e]
    by_cases h : y = x
    · simp [h]
    · rw [show (y == x) = false by simpa using h]; simp [h]
  | (k, u) :: es, h => by
    obtain ⟨z, hz⟩ := h (k, u) (by simp)
    simp only at hz
    subst hz
    have ih := mget_mset hk x y v (es := es) fun p hp => h p (by simp [hp])
    simp only [mset, hk.e]
    by_cases h1 : x = z
    · subst h1
      simp only [beq_self_eq_true, cond_true, mget, hk.e]
      by_cases h2 : y = x
      · simp [h2]
      · rw [show (y == x) = false by simpa using h2]; simp [h2]
    · rw [show (x == z) = false by simpa using h1]
      simp only [cond_false, mget, hk.e]
      by_cases h2 : y = z
      · subst h2
        simp [Ne.symm h1]
      · rw [show (y == z) = false by simpa using h2]
        simp only [cond_false]; exact ih
open Classical in
theorem mset_keys {key : Int → AV} (hk : KeyOf key) (x : Int) (v : AV) : ∀ {es : List (AV × AV)}, (∀ p ∈ es, ∃ x, p.1 = key x) → (mset es (key x) v).map (·.1) = if key x ∈ es.map (·.1) then es.map (·.1) else es.map (·.1) ++ [key x]
  | [], _ => by simp [mset]
  | (k, u) :: es, h => by
    obtain ⟨z, hz⟩ := h (k, u) (by simp)
    simp only at hz
    subst hz
    have ih := mset_keys hk x v (es := es) fun p hp => h p (by simp [hp])
    simp only [mset, hk.e]
    by_cases h1 : x = z
    · subst h1; simp
    · rw [show (x == z) = false by simpa using h1]
      simp only [cond_false, List.map_cons, ih, List.mem_cons]
      have : key x ≠ key z := fun e => h1 (hk.inj e)
      by_cases h2 : key x ∈ es.map (·.1)
      · rw [if_pos h2, if_pos (.inr h2)]
      · rw [if_neg h2, if_neg (by rintro (h | h) <;> contradiction)]; rfl
theorem MapIs.set {key : Int → AV} (hk : KeyOf key) {es : List (AV × AV)} {g : Int → Option AV} (h : MapIs key es g) (x : Int) (v : AV) : MapIs key (mset es (key x) v) fun y => if y = x then some v else g y := by
  refine ⟨fun p hp => ?_, fun y => by rw [mget_mset hk x y v h.keys, h.get], ?_⟩
  · rcases mem_mset p hp with h1 | h1
    · exact h.keys p h1
    · exact ⟨x, h1⟩
  · rw [mset_keys hk x v h.keys]
    split
    · exact h.uniq
    · rename_i hn
      exact List.nodup_append.2 ⟨h.uniq, List.pairwise_singleton _ _, fun a ha b hb e => hn (by rw [List.mem_singleton.1 hb] at e; exact e ▸ ha)⟩
theorem mget_none {key : Int → AV} (hk : KeyOf key) (y : Int) : ∀ {es : List (AV × AV)}, (∀ p ∈ es, ∃ x, p.1 = key x) → key y ∉ es.map (·.1) → mget es (key y) = none
  | [], _, _ => rfl
  | (k, u) :: es, h, hn => by
    obtain ⟨z, hz⟩ := h (k, u) (by simp)
    simp only at hz
    subst hz
    simp only [List.map_cons, List.mem_cons, not_or] at hn
    simp only [mget, hk.e]
    rw [show (y == z) = false by simpa using fun e => hn.1 (by rw [e])]
    exact mget_none hk y (fun p hp => h p (by simp [hp])) hn.2
theorem mget_mdel {key : Int → AV} (hk : KeyOf key) (x y : Int) : ∀ {es : List (AV × AV)}, (∀ p ∈ es, ∃ x, p.1 = key x) → (es.map (·.1)).Nodup → mget (mdel es (key x)) (key y) = if y = x then none else mget es (key y)
  | [], _, _ => by simp [mdel, mget]
  | (k, u) :: es, h, hu => by
    obtain ⟨z, hz⟩ := h (k, u) (by simp)
    simp only at hz
    subst hz
    simp only [List.map_cons, List.nodup_cons] at hu
    have ih := mget_mdel hk x y (es := es) (fun p hp => h p (by simp [hp])) hu.2
    simp only [mdel, hk.e]
    by_cases h1 : x = z
    · subst h1
      simp only [beq_self_eq_true, cond_true, mget, hk.e]
      by_cases h2 : y = x
      · subst h2
        rw [if_pos rfl]
        exact mget_none hk _ (fun p hp => h p (by simp [hp])) hu.1
      · rw [if_neg h2, show (y == x) = false by simpa using h2]; rfl
    · rw [show (x == z) = false by simpa using h1]
      simp only [cond_false, mget, hk.e]
      by_cases h2 : y = z
      · subst h2; simp [Ne.symm h1]
      · rw [show (y == z) = false by simpa using h2]
        simp only [cond_false]; exact ih
theorem mdel_sub (x : AV) : ∀ (es : List (AV × AV)), (mdel es x).Sublist es
  | [] => List.Sublist.slnil
  | (k, u) :: es => by
    simp only [mdel]
    cases eqKey x k
    · exact (mdel_sub x es).cons_cons _
    · exact List.sublist_cons_self _ _
theorem MapIs.del {key : Int → AV} (hk : KeyOf key) {es : List (AV × AV)} {g : Int → Option AV} (h : MapIs key es g) (x : Int) : MapIs key (mdel es (key x)) fun y => if y = x then none else g y :=
  ⟨fun p hp => h.keys p ((mdel_sub _ _).subset hp), fun y => by rw [mget_mdel hk x y h.keys h.uniq, h.get], ((mdel_sub _ _).map _).nodup h.uniq⟩
end Go.Ev.W
namespace Go.Ev.W
open Go.Ev Go.Ev.N

/-- What the map holds: of each beginning the last piece's number, and one. -/
def lastS (y : Int) : List Sp → Nat → Nat
  | [], r => r
  | x :: l, r => lastS y l (if x.a = y then r + 1 else r)
/-- The entries of the map behind i pieces. -/
def entS : List Sp → List (AV × AV) → Int → List (AV × AV)
  | [], es, _ => es
  | x :: l, es, k => entS l (mset es (eS ⟨x.a, 0⟩) (i64 (k + 1))) (k + 1)
theorem entS_succ : ∀ {l : List Sp} {es : List (AV × AV)} {k : Int} {i : Nat} (h : i < l.length), entS (l.take (i + 1)) es k = mset (entS (l.take i) es k) (eS ⟨l[i].a, 0⟩) (i64 (k + i + 1))
  | x :: l, es, k, 0, _ => by simp [entS]
  | x :: l, es, k, i + 1, h => by
    have := entS_succ (l := l) (es := mset es (eS ⟨x.a, 0⟩) (i64 (k + 1))) (k := k + 1) (i := i) (by simpa using h)
    simp only [List.take_succ_cons, entS, List.getElem_cons_succ]
    rw [this]
    have e : k + 1 + (i : Int) + 1 = k + ((i + 1 : Nat) : Int) + 1 := by omega
    rw [e]
def kS (x : Int) : AV := eS ⟨x, 0⟩
theorem kS_key : KeyOf kS := fun x y => by simp [eqKey, eqKeys, kS, eS]
theorem entS_is {l : List Sp} : ∀ i, i ≤ l.length → ∃ g, MapIs kS (entS (l.take i) [] 0) g ∧
    ∀ y, (g y = none ∧ ∀ k (h : k < l.length), k < i → l[k].a ≠ y) ∨ ∃ k, ∃ h : k < l.length, k < i ∧ l[k].a = y ∧ g y = some (i64 (k + 1 : Nat)) ∧ ∀ j (h : j < l.length), k < j → j < i → l[j].a ≠ y
  | 0, _ => ⟨_, MapIs.nil kS, fun y => .inl ⟨rfl, fun k _ h => by omega⟩⟩
  | i + 1, hi => by
    obtain ⟨g, m, hg⟩ := entS_is (l := l) i (by omega)
    have hlt : i < l.length := by omega
    rw [entS_succ hlt]
    refine ⟨_, m.set kS_key l[i].a _, fun y => ?_⟩
    by_cases hy : y = l[i].a
    · right
      refine ⟨i, hlt, by omega, hy.symm, ?_, fun j _ h1 h2 => by omega⟩
      rw [if_pos hy]
      congr 1; show AV.int .i64 _ = AV.int .i64 _; congr 1; omega
    · simp only [if_neg hy]
      rcases hg y with ⟨h1, h2⟩ | ⟨k, hk, h1, h2, h3, h4⟩
      · refine .inl ⟨h1, fun k hk hki => ?_⟩
        rcases Nat.lt_or_ge k i with h' | h'
        · exact h2 k hk h'
        · have : k = i := by omega
          subst this; exact Ne.symm hy
      · refine .inr ⟨k, hk, by omega, h2, h3, fun j hj h5 h6 => ?_⟩
        rcases Nat.lt_or_ge j i with h' | h'
        · exact h4 j hj h5 h'
        · have : j = i := by omega
          subst this; exact Ne.symm hy
theorem mayFrom_lt {e : Int} : ∀ {l : List Sp}, mayFrom e l = true → ∀ {i j : Nat} (hj : j < l.length) (h : i < j), e ≤ l[i].a ∧ l[i].a < l[j].a
  | [], _, i, j, hj, _ => by simp at hj
  | x :: l, hm, i, j + 1, hj, h => by
    simp only [mayFrom, Bool.and_eq_true, decide_eq_true_eq] at hm
    obtain ⟨⟨h1, h2⟩, h3⟩ := hm
    simp [oneB] at h1
    cases i with
    | zero =>
      refine ⟨h2, ?_⟩
      have hj' : j < l.length := by simpa using hj
      have key : x.a + x.n ≤ l[j].a := by
        cases j with
        | zero =>
          cases l with
          | nil => simp at hj'
          | cons y l => simp only [mayFrom, Bool.and_eq_true, decide_eq_true_eq] at h3; exact h3.1.2
        | succ j => have := mayFrom_lt h3 (i := 0) (j := j + 1) hj' (by omega); omega
      show x.a < l[j].a
      omega
    | succ i =>
      have := mayFrom_lt h3 (i := i) (j := j) (by simpa using hj) (by omega)
      simp only [List.getElem_cons_succ]
      exact ⟨by omega, this.2⟩

set_option maxHeartbeats 1000000 in
theorem cut_told (l : List Sp) (y : Int) (hl : l.length ≤ 100000) (hm : mayFrom 0 l = true) : Told P T span_Cut [] [lS l, i64 y] (.tup [lS (cutF l y).1, eS (cutF l y).2.1, .bool (cutF l y).2.2]) [] := by
  have hml : (l.map eS).length = l.length := by simp
  refine told_of_ev (fn := span_Cut_fn) tabOk mixed (by kernel_rfl) (by kernel_rfl) (by kernel_rfl) (by kernel_rfl) ?_
  repeat ((conv => whnf); first | (refine Sure.mk (by kernel_rfl) ?_) | (refine IfB.tt rfl ?_) | (refine IfB.ff rfl ?_) | (refine IfB.tt ?_ ?_; (focus (simp <;> fail))) | (refine IfB.ff ?_ ?_; (focus (simp <;> fail))) | (refine fits (wrap64 ?_ ?_) ?_; (focus omega); (focus omega)) | (refine fits (wrapU64 ?_ ?_) ?_; (focus omega); (focus omega)) | (refine Need.mk ?_ ?_; (focus omega)) | (refine InB.mk ?_ ?_ ?_; (focus omega); (focus omega)))
  ((repeat ((conv => whnf); first | (refine Sure.mk (by kernel_rfl) ?_) | (refine IfB.tt rfl ?_) | (refine IfB.ff rfl ?_) | (refine IfB.tt ?_ ?_; (focus (simp <;> fail))) | (refine IfB.ff ?_ ?_; (focus (simp <;> fail))) | (refine fits (wrap64 ?_ ?_) ?_; (focus omega); (focus omega)) | (refine fits (wrapU64 ?_ ?_) ?_; (focus omega); (focus omega)) | (refine Need.mk ?_ ?_; (focus omega)) | (refine InB.mk ?_ ?_ ?_; (focus omega); (focus omega)))); (try (conv => whnf)); refine LoopN.mk ⟨[0,1,5,7,13,14,15], fun vs L => ∃ i : Nat, vs = [lS l, i64 y, .ptr 0 0 0, .mp 1, lS l, i64 (l.map eS).length, i64 i] ∧ L = [.var (eS ⟨0, 0⟩), .map t_api_Span (entS (l.take i) [] 0)] ∧ i ≤ l.length, fun vs L => match vs with | [_, _, _, _, _, _, .int _ i] => l.length - i.toNat | _ => 0, [], [1, 2], rfl, ⟨0, rfl, rfl, by omega⟩, ?_⟩)
  rintro vs L ⟨i, rfl, rfl, hi⟩
  ((repeat ((conv => whnf); first | (refine Sure.mk (by kernel_rfl) ?_) | (refine IfB.tt rfl ?_) | (refine IfB.ff rfl ?_) | (refine IfB.tt ?_ ?_; (focus (simp <;> fail))) | (refine IfB.ff ?_ ?_; (focus (simp <;> fail))) | (refine fits (wrap64 ?_ ?_) ?_; (focus omega); (focus omega)) | (refine fits (wrapU64 ?_ ?_) ?_; (focus omega); (focus omega)) | (refine Need.mk ?_ ?_; (focus omega)) | (refine InB.mk ?_ ?_ ?_; (focus omega); (focus omega)))); (try (conv => whnf)); first | refine IfB.dec (fun h1 => ?_) (fun h1 => ?_) | refine IfB.eq (fun h1 => ?_) (fun h1 => ?_) | refine IfB.ne (fun h1 => ?_) (fun h1 => ?_) | refine IfB.mk (fun h1 => ?_) (fun h1 => ?_))
  · have hlt : i < l.length := by omega
    have he := entS_succ (es := []) (k := 0) hlt
    repeat ((conv => whnf); first | (refine Sure.mk (by kernel_rfl) ?_) | (refine IfB.tt rfl ?_) | (refine IfB.ff rfl ?_) | (refine IfB.tt ?_ ?_; (focus (simp <;> fail))) | (refine IfB.ff ?_ ?_; (focus (simp <;> fail))) | (refine fits (wrap64 ?_ ?_) ?_; (focus omega); (focus omega)) | (refine fits (wrapU64 ?_ ?_) ?_; (focus omega); (focus omega)) | (refine Need.mk ?_ ?_; (focus omega)) | (refine InB.mk ?_ ?_ ?_; (focus omega); (focus omega)))
    ((repeat ((conv => whnf); first | (refine Sure.mk (by kernel_rfl) ?_) | (refine IfB.tt rfl ?_) | (refine IfB.ff rfl ?_) | (refine IfB.tt ?_ ?_; (focus (simp <;> fail))) | (refine IfB.ff ?_ ?_; (focus (simp <;> fail))) | (refine fits (wrap64 ?_ ?_) ?_; (focus omega); (focus omega)) | (refine fits (wrapU64 ?_ ?_) ?_; (focus omega); (focus omega)) | (refine Need.mk ?_ ?_; (focus omega)) | (refine InB.mk ?_ ?_ ?_; (focus omega); (focus omega)))); (try (conv => whnf)); refine idx_map (hlt) ?_)
    repeat ((conv => whnf); first | (refine Sure.mk (by kernel_rfl) ?_) | (refine IfB.tt rfl ?_) | (refine IfB.ff rfl ?_) | (refine IfB.tt ?_ ?_; (focus (simp <;> fail))) | (refine IfB.ff ?_ ?_; (focus (simp <;> fail))) | (refine fits (wrap64 ?_ ?_) ?_; (focus omega); (focus omega)) | (refine fits (wrapU64 ?_ ?_) ?_; (focus omega); (focus omega)) | (refine Need.mk ?_ ?_; (focus omega)) | (refine InB.mk ?_ ?_ ?_; (focus omega); (focus omega)))
    ((repeat ((conv => whnf); first | (refine Sure.mk (by kernel_rfl) ?_) | (refine IfB.tt rfl ?_) | (refine IfB.ff rfl ?_) | (refine IfB.tt ?_ ?_; (focus (simp <;> fail))) | (refine IfB.ff ?_ ?_; (focus (simp <;> fail))) | (refine fits (wrap64 ?_ ?_) ?_; (focus omega); (focus omega)) | (refine fits (wrapU64 ?_ ?_) ?_; (focus omega); (focus omega)) | (refine Need.mk ?_ ?_; (focus omega)) | (refine InB.mk ?_ ?_ ?_; (focus omega); (focus omega)))); (try (conv => whnf)); refine ⟨[], [0, 1], rfl, ⟨i + 1, rfl, show [Blk.var _, Blk.map _ _] = [Blk.var _, Blk.map _ _] by rw [he, Int.zero_add]; rfl, hlt⟩, (by omega : l.length - ((i : Int) + 1).toNat < l.length - (i : Int).toNat)⟩)
  · have e : i = l.length := by omega
    subst e
    repeat ((conv => whnf); first | (refine Sure.mk (by kernel_rfl) ?_) | (refine IfB.tt rfl ?_) | (refine IfB.ff rfl ?_) | (refine IfB.tt ?_ ?_; (focus (simp <;> fail))) | (refine IfB.ff ?_ ?_; (focus (simp <;> fail))) | (refine fits (wrap64 ?_ ?_) ?_; (focus omega); (focus omega)) | (refine fits (wrapU64 ?_ ?_) ?_; (focus omega); (focus omega)) | (refine Need.mk ?_ ?_; (focus omega)) | (refine InB.mk ?_ ?_ ?_; (focus omega); (focus omega)))
    ((repeat ((conv => whnf); first | (refine Sure.mk (by kernel_rfl) ?_) | (refine IfB.tt rfl ?_) | (refine IfB.ff rfl ?_) | (refine IfB.tt ?_ ?_; (focus (simp <;> fail))) | (refine IfB.ff ?_ ?_; (focus (simp <;> fail))) | (refine fits (wrap64 ?_ ?_) ?_; (focus omega); (focus omega)) | (refine fits (wrapU64 ?_ ?_) ?_; (focus omega); (focus omega)) | (refine Need.mk ?_ ?_; (focus omega)) | (refine InB.mk ?_ ?_ ?_; (focus omega); (focus omega)))); (try (conv => whnf)); refine Choice.mk ⟨false, Choice.mk ⟨false, _, _, clone_Span _ (by rw [hml]; omega), ?_⟩⟩)
    repeat ((conv => whnf); first | (refine Sure.mk (by kernel_rfl) ?_) | (refine IfB.tt rfl ?_) | (refine IfB.ff rfl ?_) | (refine IfB.tt ?_ ?_; (focus (simp <;> fail))) | (refine IfB.ff ?_ ?_; (focus (simp <;> fail))) | (refine fits (wrap64 ?_ ?_) ?_; (focus omega); (focus omega)) | (refine fits (wrapU64 ?_ ?_) ?_; (focus omega); (focus omega)) | (refine Need.mk ?_ ?_; (focus omega)) | (refine InB.mk ?_ ?_ ?_; (focus omega); (focus omega)))
    obtain ⟨g, m, hg⟩ := entS_is (l := l) l.length (Nat.le_refl _)
    refine Get.of (m.get y) ?_
    rcases hg y with ⟨h1, h2⟩ | ⟨k, hk, h1, h2, h3, h4⟩
    · have hp : posS y l = none := posS_none fun x hx => by
        obtain ⟨k, hk, rfl⟩ := List.getElem_of_mem hx
        exact h2 k hk hk
      have hc : cutF l y = (l, ⟨0, 0⟩, false) := by unfold cutF; rw [hp]
      rw [h1]
      repeat ((conv => whnf); first | (refine Sure.mk (by kernel_rfl) ?_) | (refine IfB.tt rfl ?_) | (refine IfB.ff rfl ?_) | (refine IfB.tt ?_ ?_; (focus (simp <;> fail))) | (refine IfB.ff ?_ ?_; (focus (simp <;> fail))) | (refine fits (wrap64 ?_ ?_) ?_; (focus omega); (focus omega)) | (refine fits (wrapU64 ?_ ?_) ?_; (focus omega); (focus omega)) | (refine Need.mk ?_ ?_; (focus omega)) | (refine InB.mk ?_ ?_ ?_; (focus omega); (focus omega)))
      ((repeat ((conv => whnf); first | (refine Sure.mk (by kernel_rfl) ?_) | (refine IfB.tt rfl ?_) | (refine IfB.ff rfl ?_) | (refine IfB.tt ?_ ?_; (focus (simp <;> fail))) | (refine IfB.ff ?_ ?_; (focus (simp <;> fail))) | (refine fits (wrap64 ?_ ?_) ?_; (focus omega); (focus omega)) | (refine fits (wrapU64 ?_ ?_) ?_; (focus omega); (focus omega)) | (refine Need.mk ?_ ?_; (focus omega)) | (refine InB.mk ?_ ?_ ?_; (focus omega); (focus omega)))); (try (conv => whnf)); refine RetN.fz ⟨[true, true, true], [], rfl, ?_, rfl⟩)
      rw [hc]; rfl
    · have hp : posS y l = some k := posS_some hk (fun j hj h5 h6 => by have := (mayFrom_lt hm hk h5).2; omega) h2
      have hc : cutF l y = (l.take k ++ l.drop (k + 1), l[k], true) := by unfold cutF; rw [hp]; simp [hk]
      have hd := delete_Span (l.map eS) k (by omega) (by omega)
      rw [h3]
      repeat ((conv => whnf); first | (refine Sure.mk (by kernel_rfl) ?_) | (refine IfB.tt rfl ?_) | (refine IfB.ff rfl ?_) | (refine IfB.tt ?_ ?_; (focus (simp <;> fail))) | (refine IfB.ff ?_ ?_; (focus (simp <;> fail))) | (refine fits (wrap64 ?_ ?_) ?_; (focus omega); (focus omega)) | (refine fits (wrapU64 ?_ ?_) ?_; (focus omega); (focus omega)) | (refine Need.mk ?_ ?_; (focus omega)) | (refine InB.mk ?_ ?_ ?_; (focus omega); (focus omega)))
      have e1 : ((k + 1 : Nat) : Int) - 1 = (k : Nat) := by omega
      have e2 : ((k + 1 : Nat) : Int) = ((k : Nat) : Int) + 1 := by omega
      rw [e1, e2]
      ((repeat ((conv => whnf); first | (refine Sure.mk (by kernel_rfl) ?_) | (refine IfB.tt rfl ?_) | (refine IfB.ff rfl ?_) | (refine IfB.tt ?_ ?_; (focus (simp <;> fail))) | (refine IfB.ff ?_ ?_; (focus (simp <;> fail))) | (refine fits (wrap64 ?_ ?_) ?_; (focus omega); (focus omega)) | (refine fits (wrapU64 ?_ ?_) ?_; (focus omega); (focus omega)) | (refine Need.mk ?_ ?_; (focus omega)) | (refine InB.mk ?_ ?_ ?_; (focus omega); (focus omega)))); (try (conv => whnf)); refine Choice.mk ⟨true, Choice.mk ⟨false, _, _, hd, ?_⟩⟩)
      repeat ((conv => whnf); first | (refine Sure.mk (by kernel_rfl) ?_) | (refine IfB.tt rfl ?_) | (refine IfB.ff rfl ?_) | (refine IfB.tt ?_ ?_; (focus (simp <;> fail))) | (refine IfB.ff ?_ ?_; (focus (simp <;> fail))) | (refine fits (wrap64 ?_ ?_) ?_; (focus omega); (focus omega)) | (refine fits (wrapU64 ?_ ?_) ?_; (focus omega); (focus omega)) | (refine Need.mk ?_ ?_; (focus omega)) | (refine InB.mk ?_ ?_ ?_; (focus omega); (focus omega)))
      refine idx_map' k (by omega) hk ?_
      repeat ((conv => whnf); first | (refine Sure.mk (by kernel_rfl) ?_) | (refine IfB.tt rfl ?_) | (refine IfB.ff rfl ?_) | (refine IfB.tt ?_ ?_; (focus (simp <;> fail))) | (refine IfB.ff ?_ ?_; (focus (simp <;> fail))) | (refine fits (wrap64 ?_ ?_) ?_; (focus omega); (focus omega)) | (refine fits (wrapU64 ?_ ?_) ?_; (focus omega); (focus omega)) | (refine Need.mk ?_ ?_; (focus omega)) | (refine InB.mk ?_ ?_ ?_; (focus omega); (focus omega)))
      ((repeat ((conv => whnf); first | (refine Sure.mk (by kernel_rfl) ?_) | (refine IfB.tt rfl ?_) | (refine IfB.ff rfl ?_) | (refine IfB.tt ?_ ?_; (focus (simp <;> fail))) | (refine IfB.ff ?_ ?_; (focus (simp <;> fail))) | (refine fits (wrap64 ?_ ?_) ?_; (focus omega); (focus omega)) | (refine fits (wrapU64 ?_ ?_) ?_; (focus omega); (focus omega)) | (refine Need.mk ?_ ?_; (focus omega)) | (refine InB.mk ?_ ?_ ?_; (focus omega); (focus omega)))); (try (conv => whnf)); refine RetN.fz ⟨[true, true, true], [], rfl, ?_, rfl⟩)
      rw [hc]
      show AV.tup [AV.lst t_api_Span ((((l.map eS).take k ++ ((l.map eS).drop (k + 1) ++ [zeroE T t_api_Span])).drop 0).take ((l.map eS).length - 1)), eS l[k], AV.bool true] = _
      rw [List.drop_zero, ← List.append_assoc, List.take_append_of_le_length (by simp; omega), List.take_of_length_le (by simp; omega)]
      simp [lS]
end Go.Ev.W
namespace Go.Ev.W
open Go.Ev Go.Ev.N

abbrev u8 (n : Nat) : AV := .int .u8 (n : Int)
def lB (l : List Nat) : AV := .lst t_uint8 (l.map u8)
def IsB (l : List Nat) : Prop := ∀ x ∈ l, x < 256
/-- Numbers from which choices are read. -/
structure Pk where
  l : List Nat
  n : Nat
def pkB (p : Pk) : Blk := .var (.agg [lB p.l, i64 p.n])
def Pk.over (p : Pk) : Bool := decide (p.l.length ≤ p.n)
def Pk.num (p : Pk) (m : Nat) : Nat := if p.n < p.l.length ∧ 1 ≤ m then (p.l[p.n]?).getD 0 % m else 0
def Pk.next (p : Pk) (m : Nat) : Pk := if p.n < p.l.length ∧ 1 ≤ m then ⟨p.l, p.n + 1⟩ else p
structure Pk.Ok (p : Pk) : Prop where
  b : IsB p.l
  n : p.n ≤ p.l.length
  l : p.l.length ≤ maxLen
theorem Pk.Ok.next {p : Pk} (h : p.Ok) (m : Nat) : (p.next m).Ok := by
  unfold Pk.next; split
  · exact ⟨h.b, by simp only; omega, h.l⟩
  · exact h
theorem Pk.num_lt (p : Pk) {m : Nat} (h : 1 ≤ m) : p.num m < m := by
  unfold Pk.num; split
  · exact Nat.mod_lt _ h
  · exact h
theorem Pk.num_le (p : Pk) (m : Nat) : p.num m ≤ m := by
  unfold Pk.num; split
  · rename_i h; exact Nat.le_of_lt (Nat.mod_lt _ h.2)
  · omega

theorem made_told (l : List Nat) : Told P T mk_Made [] [lB l] (.ptr 0 0 0) [pkB ⟨l, 0⟩] := by
  refine told_of_ev (fn := mk_Made_fn) tabOk mixed (by kernel_rfl) (by kernel_rfl) (by kernel_rfl) (by kernel_rfl) ?_
  exact RetN.mk ⟨[0], rfl, rfl, rfl⟩
theorem over_told' (p : Pk) : Told P T mk_Picks_Over [pkB p] [.ptr 0 0 0] (.bool p.over) [pkB p] := by
  have hml : (p.l.map u8).length = p.l.length := by simp
  refine told_of_ev (fn := mk_Picks_Over_fn) tabOk mixed (by kernel_rfl) (by kernel_rfl) (by kernel_rfl) (by kernel_rfl) ?_
  repeat ((conv => whnf); first | (refine Sure.mk (by kernel_rfl) ?_) | (refine IfB.tt rfl ?_) | (refine IfB.ff rfl ?_) | (refine IfB.tt ?_ ?_; (focus (simp <;> fail))) | (refine IfB.ff ?_ ?_; (focus (simp <;> fail))) | (refine fits (wrap64 ?_ ?_) ?_; (focus omega); (focus omega)) | (refine fits (wrapU64 ?_ ?_) ?_; (focus omega); (focus omega)) | (refine Need.mk ?_ ?_; (focus omega)) | (refine InB.mk ?_ ?_ ?_; (focus omega); (focus omega)))
  ((repeat ((conv => whnf); first | (refine Sure.mk (by kernel_rfl) ?_) | (refine IfB.tt rfl ?_) | (refine IfB.ff rfl ?_) | (refine IfB.tt ?_ ?_; (focus (simp <;> fail))) | (refine IfB.ff ?_ ?_; (focus (simp <;> fail))) | (refine fits (wrap64 ?_ ?_) ?_; (focus omega); (focus omega)) | (refine fits (wrapU64 ?_ ?_) ?_; (focus omega); (focus omega)) | (refine Need.mk ?_ ?_; (focus omega)) | (refine InB.mk ?_ ?_ ?_; (focus omega); (focus omega)))); (try (conv => whnf)); refine RetN.mk ⟨[], rfl, ?_, rfl⟩)
  show AV.bool (decide ((p.n : Int) ≥ ((p.l.map u8).length : Nat))) = AV.bool (decide (p.l.length ≤ p.n))
  congr 1
  exact decide_eq_decide.2 (by omega)
theorem num_told (p : Pk) (ok : p.Ok) (m : Nat) (hm : m ≤ 1000000) : Told P T mk_Picks_Num [pkB p] [.ptr 0 0 0, i64 m] (i64 (p.num m)) [pkB (p.next m)] := by
  have hml : (p.l.map u8).length = p.l.length := by simp
  have hl := ok.l
  simp only [maxLen] at hl
  refine told_of_ev (fn := mk_Picks_Num_fn) tabOk mixed (by kernel_rfl) (by kernel_rfl) (by kernel_rfl) (by kernel_rfl) ?_
  repeat ((conv => whnf); first | (refine Sure.mk (by kernel_rfl) ?_) | (refine IfB.tt rfl ?_) | (refine IfB.ff rfl ?_) | (refine IfB.tt ?_ ?_; (focus (simp <;> fail))) | (refine IfB.ff ?_ ?_; (focus (simp <;> fail))) | (refine fits (wrap64 ?_ ?_) ?_; (focus omega); (focus omega)) | (refine fits (wrapU64 ?_ ?_) ?_; (focus omega); (focus omega)) | (refine Need.mk ?_ ?_; (focus omega)) | (refine InB.mk ?_ ?_ ?_; (focus omega); (focus omega)))
  ((repeat ((conv => whnf); first | (refine Sure.mk (by kernel_rfl) ?_) | (refine IfB.tt rfl ?_) | (refine IfB.ff rfl ?_) | (refine IfB.tt ?_ ?_; (focus (simp <;> fail))) | (refine IfB.ff ?_ ?_; (focus (simp <;> fail))) | (refine fits (wrap64 ?_ ?_) ?_; (focus omega); (focus omega)) | (refine fits (wrapU64 ?_ ?_) ?_; (focus omega); (focus omega)) | (refine Need.mk ?_ ?_; (focus omega)) | (refine InB.mk ?_ ?_ ?_; (focus omega); (focus omega)))); (try (conv => whnf)); first | refine IfB.dec (fun h1 => ?_) (fun h1 => ?_) | refine IfB.eq (fun h1 => ?_) (fun h1 => ?_) | refine IfB.ne (fun h1 => ?_) (fun h1 => ?_) | refine IfB.mk (fun h1 => ?_) (fun h1 => ?_))
  · have e1 : p.num m = 0 := by unfold Pk.num; rw [if_neg (by omega)]
    have e2 : p.next m = p := by unfold Pk.next; rw [if_neg (by omega)]
    rw [e1, e2]
    repeat ((conv => whnf); first | (refine Sure.mk (by kernel_rfl) ?_) | (refine IfB.tt rfl ?_) | (refine IfB.ff rfl ?_) | (refine IfB.tt ?_ ?_; (focus (simp <;> fail))) | (refine IfB.ff ?_ ?_; (focus (simp <;> fail))) | (refine fits (wrap64 ?_ ?_) ?_; (focus omega); (focus omega)) | (refine fits (wrapU64 ?_ ?_) ?_; (focus omega); (focus omega)) | (refine Need.mk ?_ ?_; (focus omega)) | (refine InB.mk ?_ ?_ ?_; (focus omega); (focus omega)))
    ((repeat ((conv => whnf); first | (refine Sure.mk (by kernel_rfl) ?_) | (refine IfB.tt rfl ?_) | (refine IfB.ff rfl ?_) | (refine IfB.tt ?_ ?_; (focus (simp <;> fail))) | (refine IfB.ff ?_ ?_; (focus (simp <;> fail))) | (refine fits (wrap64 ?_ ?_) ?_; (focus omega); (focus omega)) | (refine fits (wrapU64 ?_ ?_) ?_; (focus omega); (focus omega)) | (refine Need.mk ?_ ?_; (focus omega)) | (refine InB.mk ?_ ?_ ?_; (focus omega); (focus omega)))); (try (conv => whnf)); exact RetN.mk ⟨[], rfl, rfl, rfl⟩)
  · repeat ((conv => whnf); first | (refine Sure.mk (by kernel_rfl) ?_) | (refine IfB.tt rfl ?_) | (refine IfB.ff rfl ?_) | (refine IfB.tt ?_ ?_; (focus (simp <;> fail))) | (refine IfB.ff ?_ ?_; (focus (simp <;> fail))) | (refine fits (wrap64 ?_ ?_) ?_; (focus omega); (focus omega)) | (refine fits (wrapU64 ?_ ?_) ?_; (focus omega); (focus omega)) | (refine Need.mk ?_ ?_; (focus omega)) | (refine InB.mk ?_ ?_ ?_; (focus omega); (focus omega)))
    ((repeat ((conv => whnf); first | (refine Sure.mk (by kernel_rfl) ?_) | (refine IfB.tt rfl ?_) | (refine IfB.ff rfl ?_) | (refine IfB.tt ?_ ?_; (focus (simp <;> fail))) | (refine IfB.ff ?_ ?_; (focus (simp <;> fail))) | (refine fits (wrap64 ?_ ?_) ?_; (focus omega); (focus omega)) | (refine fits (wrapU64 ?_ ?_) ?_; (focus omega); (focus omega)) | (refine Need.mk ?_ ?_; (focus omega)) | (refine InB.mk ?_ ?_ ?_; (focus omega); (focus omega)))); (try (conv => whnf)); first | refine IfB.dec (fun h2 => ?_) (fun h2 => ?_) | refine IfB.eq (fun h2 => ?_) (fun h2 => ?_) | refine IfB.ne (fun h2 => ?_) (fun h2 => ?_) | refine IfB.mk (fun h2 => ?_) (fun h2 => ?_))
    · have e1 : p.num m = 0 := by unfold Pk.num; rw [if_neg (by omega)]
      have e2 : p.next m = p := by unfold Pk.next; rw [if_neg (by omega)]
      rw [e1, e2]
      repeat ((conv => whnf); first | (refine Sure.mk (by kernel_rfl) ?_) | (refine IfB.tt rfl ?_) | (refine IfB.ff rfl ?_) | (refine IfB.tt ?_ ?_; (focus (simp <;> fail))) | (refine IfB.ff ?_ ?_; (focus (simp <;> fail))) | (refine fits (wrap64 ?_ ?_) ?_; (focus omega); (focus omega)) | (refine fits (wrapU64 ?_ ?_) ?_; (focus omega); (focus omega)) | (refine Need.mk ?_ ?_; (focus omega)) | (refine InB.mk ?_ ?_ ?_; (focus omega); (focus omega)))
      ((repeat ((conv => whnf); first | (refine Sure.mk (by kernel_rfl) ?_) | (refine IfB.tt rfl ?_) | (refine IfB.ff rfl ?_) | (refine IfB.tt ?_ ?_; (focus (simp <;> fail))) | (refine IfB.ff ?_ ?_; (focus (simp <;> fail))) | (refine fits (wrap64 ?_ ?_) ?_; (focus omega); (focus omega)) | (refine fits (wrapU64 ?_ ?_) ?_; (focus omega); (focus omega)) | (refine Need.mk ?_ ?_; (focus omega)) | (refine InB.mk ?_ ?_ ?_; (focus omega); (focus omega)))); (try (conv => whnf)); exact RetN.mk ⟨[], rfl, rfl, rfl⟩)
    · have hlt : p.n < p.l.length := by omega
      have e1 : p.num m = p.l[p.n] % m := by unfold Pk.num; rw [if_pos (by omega), List.getElem?_eq_getElem hlt]; rfl
      have e2 : p.next m = ⟨p.l, p.n + 1⟩ := by unfold Pk.next; rw [if_pos (by omega)]
      have hb := ok.b _ (List.getElem_mem hlt)
      rw [e1, e2]
      repeat ((conv => whnf); first | (refine Sure.mk (by kernel_rfl) ?_) | (refine IfB.tt rfl ?_) | (refine IfB.ff rfl ?_) | (refine IfB.tt ?_ ?_; (focus (simp <;> fail))) | (refine IfB.ff ?_ ?_; (focus (simp <;> fail))) | (refine fits (wrap64 ?_ ?_) ?_; (focus omega); (focus omega)) | (refine fits (wrapU64 ?_ ?_) ?_; (focus omega); (focus omega)) | (refine Need.mk ?_ ?_; (focus omega)) | (refine InB.mk ?_ ?_ ?_; (focus omega); (focus omega)))
      refine idx_map' p.n (by omega) hlt ?_
      repeat ((conv => whnf); first | (refine Sure.mk (by kernel_rfl) ?_) | (refine IfB.tt rfl ?_) | (refine IfB.ff rfl ?_) | (refine IfB.tt ?_ ?_; (focus (simp <;> fail))) | (refine IfB.ff ?_ ?_; (focus (simp <;> fail))) | (refine fits (wrap64 ?_ ?_) ?_; (focus omega); (focus omega)) | (refine fits (wrapU64 ?_ ?_) ?_; (focus omega); (focus omega)) | (refine Need.mk ?_ ?_; (focus omega)) | (refine InB.mk ?_ ?_ ?_; (focus omega); (focus omega)))
      ((repeat ((conv => whnf); first | (refine Sure.mk (by kernel_rfl) ?_) | (refine IfB.tt rfl ?_) | (refine IfB.ff rfl ?_) | (refine IfB.tt ?_ ?_; (focus (simp <;> fail))) | (refine IfB.ff ?_ ?_; (focus (simp <;> fail))) | (refine fits (wrap64 ?_ ?_) ?_; (focus omega); (focus omega)) | (refine fits (wrapU64 ?_ ?_) ?_; (focus omega); (focus omega)) | (refine Need.mk ?_ ?_; (focus omega)) | (refine InB.mk ?_ ?_ ?_; (focus omega); (focus omega)))); (try (conv => whnf)); exact RetN.mk ⟨[], rfl, rfl, rfl⟩)
end Go.Ev.W
