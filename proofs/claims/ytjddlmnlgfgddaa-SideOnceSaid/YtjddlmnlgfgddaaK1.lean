/- Words and lemmas for the law s of this seat (a part of its proof). -/
import Derived.Test.YtjddlmnlgfgddaaNm
import Derived.Test.YtjddlmnlgfgddaaEvLib
import Derived.Laws.Bits64
set_option linter.unusedVariables false
set_option linter.unusedSimpArgs false
namespace Go.Ev
theorem IfB.tt {b : Bool} {P R : Prop} (h : b = true) (p : P) : IfB b P R := ⟨fun _ => p, fun e => (by rw [h] at e; cases e)⟩
theorem IfB.ff {b : Bool} {P R : Prop} (h : b = false) (p : R) : IfB b P R := ⟨fun e => (by rw [h] at e; cases e), fun _ => p⟩
theorem IfB.dec {p : Prop} [Decidable p] {P R : Prop} (t : p → P) (f : ¬ p → R) : IfB (decide p) P R := ⟨fun h => t (of_decide_eq_true h), fun h => f (of_decide_eq_false h)⟩
theorem IfB.eq {a b : Int} {P R : Prop} (t : a = b → P) (f : a ≠ b → R) : IfB (a == b) P R := ⟨fun h => t (by simpa using h), fun h => f (by simpa using h)⟩
theorem IfB.ne {a b : Int} {P R : Prop} (t : a ≠ b → P) (f : a = b → R) : IfB (a != b) P R := ⟨fun h => t (by simpa using h), fun h => f (by simpa using h)⟩
end Go.Ev
namespace Go.Ev.W
open Go.Ev Go.Ev.N
theorem fits {k : IntKind} {n : Int} {Q : Int → Prop} (h : k.wrap n = n) (q : Q n) : Fits k n Q := ⟨by rw [h]; exact q⟩
theorem wrap64 {n : Int} (h1 : -9223372036854775808 ≤ n) (h2 : n ≤ 9223372036854775807) : IntKind.i64.wrap n = n := by rw [IntKind.wrap_i64]; omega
theorem wrapU64 {n : Int} (h1 : 0 ≤ n) (h2 : n ≤ 18446744073709551615) : IntKind.u64.wrap n = n := by rw [IntKind.wrap_u64]; omega
theorem idx_map {α : Type} {f : α → AV} {l : List α} {k : Nat} {Q : AV → Prop} (h : k < l.length) (q : Q (f l[k])) : Idx (l.map f) ((k : Nat) : Int) Q := ⟨f l[k], by omega, by simp [h], q⟩
theorem idx_map' {α : Type} {f : α → AV} {l : List α} {i : Int} {Q : AV → Prop} (k : Nat) (e : i = k) (h : k < l.length) (q : Q (f l[k])) : Idx (l.map f) i Q := by subst e; exact idx_map h q
theorem at_map {α : Type} {f : α → AV} {l : List α} {k : Nat} {Q : AV → Prop} (h : k < l.length) (q : Q (f l[k])) : At (l.map f) k Q := ⟨f l[k], by simp [h], q⟩
abbrev i64 (n : Int) : AV := .int .i64 n
theorem ins_room {α : Type} (es : List α) (x J : α) (i : Nat) (hi : i < es.length) :
    List.take i (List.take (i + 1) (es ++ [J]) ++
      (List.take (min (List.take ((es ++ [J]).length - i) (List.drop i (es ++ [J]))).length ((es ++ [J]).length - (i + 1))) (List.take ((es ++ [J]).length - i) (List.drop i (es ++ [J]))) ++
       List.drop (i + 1 + min (List.take ((es ++ [J]).length - i) (List.drop i (es ++ [J]))).length ((es ++ [J]).length - (i + 1))) (es ++ [J]))) = es.take i ∧
    List.drop (i + 1) (List.take (i + 1) (es ++ [J]) ++
      (List.take (min (List.take ((es ++ [J]).length - i) (List.drop i (es ++ [J]))).length ((es ++ [J]).length - (i + 1))) (List.take ((es ++ [J]).length - i) (List.drop i (es ++ [J]))) ++
       List.drop (i + 1 + min (List.take ((es ++ [J]).length - i) (List.drop i (es ++ [J]))).length ((es ++ [J]).length - (i + 1))) (es ++ [J]))) = es.drop i ∧
    (List.take (i + 1) (es ++ [J]) ++
      (List.take (min (List.take ((es ++ [J]).length - i) (List.drop i (es ++ [J]))).length ((es ++ [J]).length - (i + 1))) (List.take ((es ++ [J]).length - i) (List.drop i (es ++ [J]))) ++
       List.drop (i + 1 + min (List.take ((es ++ [J]).length - i) (List.drop i (es ++ [J]))).length ((es ++ [J]).length - (i + 1))) (es ++ [J]))).length = es.length + 1 := by
  obtain ⟨a, b, rfl, rfl⟩ : ∃ a b, es = a ++ b ∧ i = a.length := ⟨es.take i, es.drop i, (List.take_append_drop ..).symm, by rw [List.length_take]; omega⟩
  cases b with
  | nil => simp at hi
  | cons y b =>
    have e1 : List.drop a.length (a ++ y :: b ++ [J]) = y :: (b ++ [J]) := by rw [List.append_assoc, List.drop_left]; rfl
    have e2 : (a ++ y :: b ++ [J]).length - a.length = b.length + 2 := by first | (simp; done) | (simp; omega)
    have e3 : (a ++ y :: b ++ [J]).length - (a.length + 1) = b.length + 1 := by first | (simp; done) | (simp; omega)
    have e4 : List.take (b.length + 2) (y :: (b ++ [J])) = y :: (b ++ [J]) := List.take_of_length_le (by simp)
    have e5 : (y :: (b ++ [J])).length = b.length + 2 := by simp
    have e6 : List.take (a.length + 1) (a ++ y :: b ++ [J]) = a ++ [y] := by
      rw [List.append_assoc, List.take_append, List.take_of_length_le (by omega), show a.length + 1 - a.length = 1 by omega]; rfl
    have e7 : List.take (b.length + 1) (y :: (b ++ [J])) = y :: b := by
      rw [List.take_succ_cons, List.take_left]
    have e8 : List.drop (a.length + 1 + (b.length + 1)) (a ++ y :: b ++ [J]) = [] := List.drop_eq_nil_of_le (by simp; omega)
    simp only [e1, e2, e3, e4, e5, e6, Nat.min_eq_right (show b.length + 1 ≤ b.length + 2 by omega), e7, e8, List.append_nil]
    refine ⟨?_, ?_, ?_⟩
    · rw [List.append_assoc, List.take_left, List.take_left]
    · rw [List.drop_left]
      rw [show a.length + 1 = (a ++ [y]).length by simp, List.drop_left]
    · simp; omega

end Go.Ev.W

