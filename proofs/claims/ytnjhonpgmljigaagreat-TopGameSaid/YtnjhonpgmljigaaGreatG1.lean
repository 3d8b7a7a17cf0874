/- Words and lemmas, part 1, for laws of this seat (a part of their proofs). -/
import Derived.Laws.Bits64
import Derived.Test.YtnjhonpgmljigaaGreatNm
import Derived.Test.YtnjhonpgmljigaaGreatEvOpen
import Derived.Test.YtnjhonpgmljigaaGreatEvLib
import Derived.Test.YtnjhonpgmljigaaGreatEvGrid
import Derived.Test.YtnjhonpgmljigaaGreatEvTrim
set_option linter.unusedVariables false
set_option linter.unusedSimpArgs false
namespace Go.Ev
theorem IfB.tt {b : Bool} {P R : Prop} (h : b = true) (p : P) : IfB b P R := ⟨fun _ => p, fun e => (by rw [h] at e; cases e)⟩
theorem IfB.ff {b : Bool} {P R : Prop} (h : b = false) (p : R) : IfB b P R := ⟨fun e => (by rw [h] at e; cases e), fun _ => p⟩
theorem IfB.dec {p : Prop} [Decidable p] {P R : Prop} (t : p → P) (f : ¬ p → R) : IfB (decide p) P R := ⟨fun h => t (of_decide_eq_true h), fun h => f (of_decide_eq_false h)⟩
theorem IfB.ne {a b : Int} {P R : Prop} (t : a ≠ b → P) (f : a = b → R) : IfB (a != b) P R := ⟨fun h => t (by simpa using h), fun h => f (by simpa using h)⟩
end Go.Ev
namespace Go.Ev.W
open Go.Ev Go.Ev.N
theorem fits {k : IntKind} {n : Int} {Q : Int → Prop} (h : k.wrap n = n) (q : Q n) : Fits k n Q := ⟨by rw [h]; exact q⟩
theorem wrap64 {n : Int} (h1 : -9223372036854775808 ≤ n) (h2 : n ≤ 9223372036854775807) : IntKind.i64.wrap n = n := by rw [IntKind.wrap_i64]; omega
theorem wrapU64 {n : Int} (h1 : 0 ≤ n) (h2 : n ≤ 18446744073709551615) : IntKind.u64.wrap n = n := by rw [IntKind.wrap_u64]; omega
theorem idx_map {α : Type} {f : α → AV} {l : List α} {k : Nat} {Q : AV → Prop} (h : k < l.length) (q : Q (f l[k])) : Idx (l.map f) ((k : Nat) : Int) Q := ⟨f l[k], by omega, by simp [h], q⟩
theorem idx_map' {α : Type} {f : α → AV} {l : List α} {i : Int} {Q : AV → Prop} (k : Nat) (e : i = k) (h : k < l.length) (q : Q (f l[k])) : Idx (l.map f) i Q := by subst e; exact idx_map h q
theorem at_map {α : Type} {f : α → AV} {l : List α} {k : Nat} {Q : AV → Prop} (h : k < l.length) (q : Q (f l[k])) : At (l.map f) k Q := ⟨f l[k], by simp [h], q⟩
abbrev i64 (n : Int) : AV := .int .i64 n
theorem ins_room {α : Type} (es : List α) (x J : α) (i : Nat) (hi : i < es.length) :
    List.take i (List.take (i + 1) (es ++ [J]) ++
      (List.take (min (List.take ((es ++ [J]).length - i) (List.drop i (es ++ [J]))).length ((es ++ [J]).length - (i + 1))) (List.take ((es ++ [J]).length - i) (List.drop i (es ++ [J]))) ++
       List.drop (i + 1 + min (List.take ((es ++ [J]).length - i) (List.drop i (es ++ [J]))).length ((es ++ [J]).length - (i + 1))) (es ++ [J]))) = es.take i ∧
    List.drop (i + 1) (List.take (i + 1) (es ++ [J]) ++
      (List.take (min (List.take ((es ++ [J]).length - i) (List.drop i (es ++ [J]))).length ((es ++ [J]).length - (i + 1))) (List.take ((es ++ [J]).length - i) (List.drop i (es ++ [J]))) ++
       List.drop (i + 1 + min (List.take ((es ++ [J]).length - i) (List.drop i (es ++ [J]))).length ((es ++ [J]).length - (i + 1))) (es ++ [J]))) = es.drop i ∧
    (List.take (i + 1) (es ++ [J]) ++
      (List.take (min (List.take ((es ++ [J]).length - i) (List.drop i (es ++ [J]))).length ((es ++ [J]).length - (i + 1))) (List.take ((es ++ [J]).length - i) (List.drop i (es ++ [J]))) ++
       List.drop (i + 1 + min (List.take ((es ++ [J]).length - i) (List.drop i (es ++ [J]))).length ((es ++ [J]).length - (i + 1))) (es ++ [J]))).length = es.length + 1 := by
  obtain ⟨a, b, rfl, rfl⟩ : ∃ a b, es = a ++ b ∧ i = a.length := ⟨es.take i, es.drop i, (List.take_append_drop ..).symm, by rw [List.length_take]; omega⟩
  cases b with
  | nil => simp at hi
  | cons y b =>
    have e1 : List.drop a.length (a ++ y :: b ++ [J]) = y :: (b ++ [J]) := by rw [List.append_assoc, List.drop_left]; rfl
    have e2 : (a ++ y :: b ++ [J]).length - a.length = b.length + 2 := by first | (simp; done) | (simp; omega)
    have e3 : (a ++ y :: b ++ [J]).length - (a.length + 1) = b.length + 1 := by first | (simp; done) | (simp; omega)
    have e4 : List.take (b.length + 2) (y :: (b ++ [J])) = y :: (b ++ [J]) := List.take_of_length_le (by simp)
    have e5 : (y :: (b ++ [J])).length = b.length + 2 := by simp
    have e6 : List.take (a.length + 1) (a ++ y :: b ++ [J]) = a ++ [y] := by
      rw [List.append_assoc, List.take_append, List.take_of_length_le (by omega), show a.length + 1 - a.length = 1 by omega]; rfl
    have e7 : List.take (b.length + 1) (y :: (b ++ [J])) = y :: b := by
      rw [List.take_succ_cons, List.take_left]
    have e8 : List.drop (a.length + 1 + (b.length + 1)) (a ++ y :: b ++ [J]) = [] := List.drop_eq_nil_of_le (by simp; omega)
    simp only [e1, e2, e3, e4, e5, e6, Nat.min_eq_right (show b.length + 1 ≤ b.length + 2 by omega), e7, e8, List.append_nil]
    refine ⟨?_, ?_, ?_⟩
    · rw [List.append_assoc, List.take_left, List.take_left]
    · rw [List.drop_left]
      rw [show a.length + 1 = (a ++ [y]).length by simp, List.drop_left]
    · simp; omega

end Go.Ev.W
namespace Go.Ev
open Go.Ev.W
/-- What is behind a step. -/
structure Held (B : Prop) : Prop where
  h : B
theorem gw {A B : Prop} (q : B) (h : Held B → A := by (intro q; ((repeat ((conv => whnf); first | (refine Sure.mk (by kernel_rfl) ?_) | (refine IfB.tt rfl ?_) | (refine IfB.ff rfl ?_) | (refine IfB.tt ?_ ?_; (focus (simp <;> fail))) | (refine IfB.ff ?_ ?_; (focus (simp <;> fail))) | (refine fits (wrap64 ?_ ?_) ?_; (focus omega); (focus omega)) | (refine fits (wrapU64 ?_ ?_) ?_; (focus omega); (focus omega)) | (refine Need.mk ?_ ?_; (focus omega)) | (refine InB.mk ?_ ?_ ?_; (focus omega); (focus omega)))); (try (conv => whnf))) ; exact q.h)) : A := h ⟨q⟩
end Go.Ev
namespace Go.Ev.W
open Go.Ev Go.Ev.N

theorem clone_Span (es : List AV) (hl : es.length ≤ 1000000) : Told P T slices_Clone_api_Span_api_Span [] [.lst t_api_Span es] (.ref 0) [.row t_api_Span es] := by
  refine told_of_ev (fn := slices_Clone_api_Span_api_Span_fn) tabOk mixed (by kernel_rfl) (by kernel_rfl) (by kernel_rfl) (by kernel_rfl) ?_
  refine AnyB.mk (fun b hb => ?_)
  refine IfB.mk (fun h1 => ?_) (fun h1 => ?_)
  · obtain rfl := hb h1
    exact RetN.mk ⟨[1], rfl, rfl, rfl⟩
  · refine Room.mk (by first | omega | (simp; omega) | (simp; done)) ?_
    exact RetN.mk ⟨[2], rfl, rfl, rfl⟩

theorem overlaps_Span (xs es : List AV) (hx : 0 < xs.length) (i n : Nat) : Told P T slices_overlaps_api_Span [.row t_api_Span xs, .row t_api_Span es] [.ref 0, .sub 1 i n] (.bool false) [.row t_api_Span xs, .row t_api_Span es] :=
  told_overlaps (fn := slices_overlaps_api_Span_fn) (tS := ts_api_Span) (tR := t_bool) tabOk (by kernel_rfl) (by kernel_rfl) (by kernel_rfl) (by kernel_rfl) (by kernel_rfl) (by kernel_rfl) (by kernel_rfl) xs es hx i n

set_option maxHeartbeats 4000000 in
theorem insert_Span (es : List AV) (x : AV) (i : Nat) (hi : i ≤ es.length) (hl : es.length ≤ 1000000) :
    Told P T slices_Insert_api_Span_api_Span [.row t_api_Span es, .row t_api_Span [x]] [.ref 0, .int .i64 (i : Nat), .ref 1] (.ref 2) [.dead, .row t_api_Span [x], .row t_api_Span (es.take i ++ (x :: es.drop i))] := by
  refine told_of_ev_drop (fn := slices_Insert_api_Span_api_Span_fn) tabOk mixed (by kernel_rfl) (by kernel_rfl) (by kernel_rfl) (by kernel_rfl) ?_
  refine Cut.mk (by omega) (by omega) (by omega) ?_
  refine IfB.ff rfl ?_
  refine IfB.mk (fun h1 => ?_) (fun h1 => ?_)
  · have hie : i = es.length := by have := of_decide_eq_true h1; omega
    refine Room.mk (by first | omega | (simp; omega) | (simp; done)) ?_
    refine RetN.mk ⟨[3], rfl, rfl, .inl rfl, .inl rfl, .inl ?_, trivial⟩
    subst hie
    show Blk.row t_api_Span (es.take es.length ++ (x :: es.drop es.length)) = Blk.row t_api_Span (es ++ [x])
    rw [List.take_length, List.drop_length]
  · have hlt : i < es.length := by have := of_decide_eq_false h1; omega
    refine fits (wrap64 (by first | omega | (simp; omega) | (simp; done)) (by first | omega | (simp; omega) | (simp; done))) ?_
    refine AnyN.mk (fun c hc => ?_)
    refine IfB.mk (fun h2 => ?_) (fun h2 => ?_)
    · have hcc : c < es.length + 1 := by have := of_decide_eq_true h2; simp at this; omega
      refine Choice.mk ⟨false, ?_⟩
      refine Cut.mk (Int.le_refl _) (by omega) (by omega) ?_
      refine fits (wrap64 (by first | omega | (simp; omega) | (simp; done)) (by first | omega | (simp; omega) | (simp; done))) ?_
      refine fits (wrap64 (by first | omega | (simp; omega) | (simp; done)) (by first | omega | (simp; omega) | (simp; done))) ?_
      refine Need.mk (by first | omega | (simp; omega) | (simp; done)) ?_
      refine Need.mk (by first | omega | (simp; omega) | (simp; done)) ?_
      refine Room.mk (by first | omega | (simp; omega) | (simp; done)) ?_
      refine Cut.mk (by omega) (by first | omega | (simp; omega) | (simp; done)) (by first | omega | (simp; omega) | (simp; done)) ?_
      refine fits (wrap64 (by first | omega | (simp; omega) | (simp; done)) (by first | omega | (simp; omega) | (simp; done))) ?_
      refine Cut.mk (by first | omega | (simp; omega) | (simp; done)) (by first | omega | (simp; omega) | (simp; done)) (by first | omega | (simp; omega) | (simp; done)) ?_
      refine Cut.mk (by omega) (by omega) (by omega) ?_
      refine Sure.mk (by kernel_rfl) ?_
      refine RetN.mk ⟨[3], rfl, rfl, .inr rfl, .inl rfl, .inl ?_, trivial⟩
      show Blk.row t_api_Span (es.take i ++ (x :: es.drop i)) = Blk.row t_api_Span _
      refine congrArg _ ?_
      have e1 : ((es.length : Int) + (([x] : List AV).length : Int) - (i : Int)).toNat = es.length + 1 - i := by first | (simp; done) | (simp; omega)
      have e2 : ((i : Int) + (([x] : List AV).length : Int)).toNat = i + 1 := by first | (simp; done) | (simp; omega)
      have e3 : min 1 (es.length + 1 - i) = 1 := by omega
      simp only [e1, e2, Int.toNat_natCast]
      have e4 : i + (1 + (es.length + 1 - i - 1)) - (i + 1) = es.length - i := by omega
      have e5 : i + 1 + (es.length - i) - i - 1 = es.length - i := by omega
      have e6 : es.length + 1 - i - 1 - (es.length - i) = 0 := by omega
      have e7 : (es.take i).length = i := by rw [List.length_take]; omega
      have d1 : ∀ k, i ≤ k → (es.take i).drop k = [] := fun k hk => List.drop_eq_nil_of_le (by omega)
      have d2 : ∀ k, 1 ≤ k → ([x] : List AV).drop k = [] := fun k hk => List.drop_eq_nil_of_le (by simpa using hk)
      have d3 : ([x] : List AV).take 1 = [x] := rfl
      have d4 : (es.drop i).take (es.length - i) = es.drop i := List.take_of_length_le (by simp)
      have e8 : i + 1 + (es.length - i) - i = 1 + (es.length - i) := by omega
      simp [List.take_append, List.drop_append, List.take_of_length_le, Nat.min_eq_left (Nat.le_of_lt hlt), e3, e4, e8, d3, d4, d2, d1, e6]
      have e9 : i + (es.length + 1 - i - 1 + 1) - (i + 1) = es.length - i := by omega
      have d5 : ∀ z : AV, (x :: List.replicate (es.length + 1 - i - 1) z).drop (i + 1 + (es.length - i) - i) = [] := fun z => List.drop_eq_nil_of_le (by rw [List.length_cons, List.length_replicate]; omega)
      rw [e9, Nat.min_self, d4, d1 _ (by omega), d5]
      simp
    · have hcc : es.length + 1 ≤ c := by have := of_decide_eq_false h2; simp at this; omega
      refine fits (wrap64 (by first | omega | (simp; omega) | (simp; done)) (by first | omega | (simp; omega) | (simp; done))) ?_
      refine Choice.mk ⟨true, ?_⟩
      refine Cut.mk (by omega) (by first | omega | (simp; omega) | (simp; done)) (by first | omega | (simp; omega) | (simp; done)) ?_
      refine fits (wrap64 (by first | omega | (simp; omega) | (simp; done)) (by first | omega | (simp; omega) | (simp; done))) ?_
      refine Cut.mk (by first | omega | (simp; omega) | (simp; done)) (by first | omega | (simp; omega) | (simp; done)) (by first | omega | (simp; omega) | (simp; done)) ?_
      refine Choice.mk ⟨true, Choice.mk ⟨false, _, _, overlaps_Span [x] _ (by simp) _ _, ?_⟩⟩
      refine IfB.tt rfl ?_
      refine fits (wrap64 (by first | omega | (simp; omega) | (simp; done)) (by first | omega | (simp; omega) | (simp; done))) ?_
      refine Cut.mk (by first | omega | (simp; omega) | (simp; done)) (by first | omega | (simp; omega) | (simp; done)) (by first | omega | (simp; omega) | (simp; done)) ?_
      refine Cut.mk (by simp) (by first | omega | (simp; omega) | (simp; done)) (by first | omega | (simp; omega) | (simp; done)) ?_
      refine Sure.mk (by kernel_rfl) ?_
      refine Cut.mk (by simp) (by first | omega | (simp; omega) | (simp; done)) (by first | omega | (simp; omega) | (simp; done)) ?_
      refine RetN.mk ⟨[3], rfl, rfl, .inl rfl, .inl rfl, .inl ?_, trivial⟩
      show Blk.row t_api_Span (es.take i ++ (x :: es.drop i)) = Blk.row t_api_Span _
      refine congrArg _ ?_
      have n1 : ((es.length : Int) + (([x] : List AV).length : Int)).toNat - es.length = 1 := by first | (simp; done) | (simp; omega)
      have n2 : ((i : Int) + (([x] : List AV).length : Int)).toNat = i + 1 := by first | (simp; done) | (simp; omega)
      have r := ins_room es x (junkE T t_api_Span) i hlt
      have m1 : min ([x] : List AV).length (es.length + 1 - i) = 1 := by first | (simp; done) | (simp; omega)
      simp only [n1, n2, Int.toNat_natCast, List.replicate_one]
      rw [r.2.2, m1, r.1, r.2.1]
      rfl

end Go.Ev.W
namespace Go.Ev.W
open Go.Ev Go.Ev.N

structure Sp where
  a : Int
  n : Int
  deriving DecidableEq
def eSp (x : Sp) : AV := .agg [i64 x.a, i64 x.n]
def lS (l : List Sp) : AV := .lst t_api_Span (l.map eSp)
def oneB (x : Sp) : Bool := decide (1 ≤ x.n ∧ x.n ≤ 1099511627776 ∧ 0 ≤ x.a ∧ x.a ≤ 1099511627776 - x.n)

def total (l : List Sp) : Int := (l.map (·.n)).sum
theorem total_succ {l : List Sp} {i : Nat} (h : i < l.length) : total (l.take (i + 1)) = total (l.take i) + l[i].n := by
  unfold total; rw [List.take_succ_eq_append_getElem h, List.map_append, List.sum_append]; simp
end Go.Ev.W
namespace Go.Ev.W
open Go.Ev Go.Ev.N

def lowSp (y : Int) : List Sp → Nat
  | [] => 0
  | x :: l => if x.a < y then lowSp y l + 1 else 0
theorem lowS_le (y : Int) : ∀ l, lowSp y l ≤ l.length
  | [] => Nat.le_refl _
  | m :: l => by
    have := lowS_le y l
    unfold lowSp; split <;> simp <;> omega
theorem lowSp_lt {y : Int} : ∀ {l : List Sp} {k : Nat} (hk : k < l.length), k < lowSp y l → l[k].a < y
  | [], k, h, _ => by simp at h
  | m :: l, 0, h, h2 => by
    unfold lowSp at h2; split at h2
    · assumption
    · omega
  | m :: l, k + 1, h, h2 => by
    unfold lowSp at h2; split at h2
    · exact lowSp_lt (l := l) (by simpa using h) (by omega)
    · omega
theorem lowS_ge {y : Int} : ∀ {l : List Sp} (hk : lowSp y l < l.length), y ≤ l[lowSp y l].a
  | [], h => by simp at h
  | m :: l, h => by
    by_cases hm : m.a < y
    · have e : lowSp y (m :: l) = lowSp y l + 1 := by simp [lowSp, hm]
      simp only [e] at h ⊢
      exact lowS_ge (l := l) (by simpa using h)
    · have e : lowSp y (m :: l) = 0 := by simp [lowSp, hm]
      simp only [e]
      simp; omega
/-- Put, as it is done. -/
def clashR (l : List Sp) (s : Sp) : Bool :=
  (match lowSp s.a l with
    | 0 => false
    | k + 1 => match l[k]? with | some x => decide (x.a + x.n > s.a) | none => false) ||
  (match l[lowSp s.a l]? with | some x => decide (s.a + s.n > x.a) | none => false)
def putR (l : List Sp) (s : Sp) : List Sp × Bool :=
  if oneB s = true ∧ clashR l s = false then (l.take (lowSp s.a l) ++ s :: l.drop (lowSp s.a l), true) else (l, false)

def overB (x y : Sp) : Bool := decide (x.a < y.a + y.n ∧ y.a < x.a + x.n)
end Go.Ev.W
namespace Go.Ev.W
open Go.Ev Go.Ev.N

def stepP (s : Sp) (st : List Sp × Bool) (x : Sp) : List Sp × Bool :=
  if st.2 = false ∧ x.a > s.a then (st.1 ++ [s, x], true) else (st.1 ++ [x], st.2)
def accP (s : Sp) (l : List Sp) (i : Nat) : List Sp × Bool := (l.take i).foldl (stepP s) ([], false)
def putFs (l : List Sp) (s : Sp) : List Sp × Bool :=
  if oneB s = true ∧ l.all (fun x => !overB x s) = true then ((accP s l l.length).1 ++ (if (accP s l l.length).2 = true then [] else [s]), true) else (l, false)

/-- Pieces without one. -/
def posS (y : Int) : List Sp → Option Nat
  | [] => none
  | x :: l => if x.a = y then some 0 else (posS y l).map (· + 1)
def cutF (l : List Sp) (y : Int) : List Sp × Sp × Bool := match posS y l with
  | some i => (l.take i ++ l.drop (i + 1), (l[i]?).getD ⟨0, 0⟩, true)
  | none => (l, ⟨0, 0⟩, false)
theorem posS_none {y : Int} : ∀ {l : List Sp}, (∀ x ∈ l, x.a ≠ y) → posS y l = none
  | [], _ => rfl
  | x :: l, h => by
    unfold posS
    rw [if_neg (h x (by simp)), posS_none fun z hz => h z (by simp [hz])]; rfl
theorem posS_some {y : Int} : ∀ {l : List Sp} {i : Nat} (hi : i < l.length), (∀ k (h : k < l.length), k < i → l[k].a ≠ y) → l[i].a = y → posS y l = some i
  | [], i, h, _, _ => by simp at h
  | x :: l, 0, _, _, h => by unfold posS; rw [if_pos (show x.a = y from h)]
  | x :: l, i + 1, hi, h, h2 => by
    unfold posS
    rw [if_neg (show ¬ x.a = y from h 0 (by simp) (by omega)), posS_some (l := l) (i := i) (by simpa using hi) (fun k hk hki => h (k + 1) (by simpa using hk) (by omega)) h2]; rfl

theorem refCut_told (l : List Sp) (y : Int) (hl : l.length ≤ 100000) : Told P T ref8_Cut [] [lS l, i64 y] (.tup [lS (cutF l y).1, eSp (cutF l y).2.1, .bool (cutF l y).2.2]) [] := by
  have hml : (l.map eSp).length = l.length := by simp
  refine told_of_ev (fn := ref8_Cut_fn) tabOk mixed (by kernel_rfl) (by kernel_rfl) (by kernel_rfl) (by kernel_rfl) ?_
  refine gw ?_
  (refine gw ?_; refine LoopN.mk ⟨[0,1,5,7], fun vs L => ∃ i : Nat, vs = [lS l, i64 y, .ptr 0 0 0, i64 i] ∧ L = [.var (eSp ⟨0, 0⟩)] ∧ i ≤ l.length ∧ ∀ k (h : k < l.length), k < i → l[k].a ≠ y, fun vs L => match vs with | [_, _, _, .int _ i] => l.length - i.toNat | _ => 0, [], [1], rfl, ⟨0, rfl, rfl, by omega, fun k _ h => by omega⟩, ?_⟩)
  rintro vs L ⟨i, rfl, rfl, hi, hn⟩
  (refine gw ?_; first | refine IfB.dec (fun h1 => ?_) (fun h1 => ?_) | refine IfB.eq (fun h1 => ?_) (fun h1 => ?_) | refine IfB.ne (fun h1 => ?_) (fun h1 => ?_) | refine IfB.mk (fun h1 => ?_) (fun h1 => ?_))
  · have hlt : i < l.length := by omega
    (refine gw ?_; refine idx_map (hlt) ?_)
    refine gw ?_
    (refine gw ?_; first | refine IfB.dec (fun h2 => ?_) (fun h2 => ?_) | refine IfB.eq (fun h2 => ?_) (fun h2 => ?_) | refine IfB.ne (fun h2 => ?_) (fun h2 => ?_) | refine IfB.mk (fun h2 => ?_) (fun h2 => ?_))
    · have hp := posS_some hlt hn h2
      have hc : cutF l y = (l.take i ++ l.drop (i + 1), l[i], true) := by unfold cutF; rw [hp]; simp [hlt]
      refine gw ?_
      (refine gw ?_; refine Cut.mk (by first | omega | (simp; omega) | (simp <;> fail)) (by first | omega | (simp; omega) | (simp <;> fail)) (by first | omega | (simp; omega) | (simp <;> fail)) ?_)
      refine gw ?_
      (refine gw ?_; refine Room.mk (by first | omega | (simp; omega) | (simp <;> fail)) ?_)
      refine gw ?_
      (refine gw ?_; refine Cut.mk (by first | omega | (simp; omega) | (simp <;> fail)) (by first | omega | (simp; omega) | (simp <;> fail)) (by first | omega | (simp; omega) | (simp <;> fail)) ?_)
      refine gw ?_
      (refine gw ?_; refine Room.mk (by first | omega | (simp; omega) | (simp <;> fail)) ?_)
      refine gw ?_
      (refine gw ?_; refine idx_map (hlt) ?_)
      refine gw ?_
      (refine gw ?_; refine RetN.fz ⟨[true, true, true], [], rfl, ?_, rfl⟩)
      rw [hc]
      show AV.tup [AV.lst t_api_Span (([] ++ (l.map eSp).take ((i : Nat) : Int).toNat) ++ (l.map eSp).drop (((i : Nat) : Int) + 1).toNat), eSp l[i], AV.bool true] = _
      rw [show (((i : Nat) : Int) + 1).toNat = i + 1 by omega, Int.toNat_natCast]
      simp [lS]
    · refine gw ?_
      have hn' : ∀ k (h : k < l.length), k < i + 1 → l[k].a ≠ y := fun k h hk => by
        rcases Nat.lt_or_ge k i with h' | h'
        · exact hn k h h'
        · have : k = i := by omega
          subst this; exact h2
      (refine gw ?_; refine ⟨[], [0], rfl, ⟨i + 1, rfl, rfl, hlt, hn'⟩, (by omega : l.length - ((i : Int) + 1).toNat < l.length - (i : Int).toNat)⟩)
  · have e : i = l.length := by omega
    subst e
    have hp : posS y l = none := posS_none fun x hx => by
      obtain ⟨k, hk, rfl⟩ := List.getElem_of_mem hx
      exact hn k hk hk
    have hc : cutF l y = (l, ⟨0, 0⟩, false) := by unfold cutF; rw [hp]
    refine gw ?_
    (refine gw ?_; refine RetN.fz ⟨[true, true, true], [], rfl, ?_, rfl⟩)
    rw [hc]; rfl
end Go.Ev.W
namespace Go.Ev.W
open Go.Ev Go.Ev.N

/-- Pieces that lie apart, rising. -/
def Apart (l : List Sp) : Prop := (∀ x ∈ l, oneB x = true) ∧ l.Pairwise fun x y => x.a + x.n ≤ y.a
theorem oneB_iff (x : Sp) : oneB x = true ↔ 1 ≤ x.n ∧ x.n ≤ 1099511627776 ∧ 0 ≤ x.a ∧ x.a ≤ 1099511627776 - x.n := by simp [oneB]
/-- A list and a place: those that begin below, and the others. -/
theorem low_split (y : Int) : ∀ (l : List Sp), (l.Pairwise fun x y => x.a + x.n ≤ y.a) → (∀ x ∈ l, 1 ≤ x.n) → ∃ l1 l2, l = l1 ++ l2 ∧ lowSp y l = l1.length ∧ (∀ x ∈ l1, x.a < y) ∧ ∀ x ∈ l2, y ≤ x.a
  | [], _, _ => ⟨[], [], rfl, rfl, by simp, by simp⟩
  | x :: l, hp, hn => by
    rw [List.pairwise_cons] at hp
    by_cases h : x.a < y
    · obtain ⟨l1, l2, rfl, e, h1, h2⟩ := low_split y l hp.2 fun z hz => hn z (by simp [hz])
      exact ⟨x :: l1, l2, rfl, by simp [lowSp, h, e], by simpa [h] using h1, h2⟩
    · refine ⟨[], x :: l, rfl, by simp [lowSp, h], by simp, fun z hz => ?_⟩
      have := hn x (by simp)
      rcases List.mem_cons.1 hz with rfl | hz
      · omega
      · have := hp.1 z hz; omega
theorem acc_low {s : Sp} : ∀ (l1 acc : List Sp), (∀ x ∈ l1, x.a < s.a) → l1.foldl (stepP s) (acc, false) = (acc ++ l1, false)
  | [], acc, _ => by simp
  | x :: l, acc, h => by
    have hx := h x (by simp)
    rw [List.foldl_cons]
    have e : stepP s (acc, false) x = (acc ++ [x], false) := by unfold stepP; rw [if_neg (by simp; omega)]
    rw [e, acc_low l _ fun z hz => h z (by simp [hz])]; simp
theorem acc_high {s : Sp} : ∀ (l acc : List Sp), l.foldl (stepP s) (acc, true) = (acc ++ l, true)
  | [], acc => by simp
  | x :: l, acc => by
    rw [List.foldl_cons]
    have e : stepP s (acc, true) x = (acc ++ [x], true) := by unfold stepP; rw [if_neg (by simp)]
    rw [e, acc_high l]; simp
theorem acc_all {s : Sp} {l1 l2 : List Sp} (h1 : ∀ x ∈ l1, x.a < s.a) (h2 : ∀ x ∈ l2, s.a < x.a) :
    (accP s (l1 ++ l2) (l1 ++ l2).length).1 ++ (if (accP s (l1 ++ l2) (l1 ++ l2).length).2 = true then [] else [s]) = l1 ++ s :: l2 := by
  unfold accP
  rw [List.take_length, List.foldl_append, acc_low l1 [] h1]
  cases l2 with
  | nil => simp
  | cons y l2 =>
    have := h2 y (by simp)
    rw [List.foldl_cons]
    have e : stepP s ([] ++ l1, false) y = (l1 ++ [s, y], true) := by unfold stepP; rw [if_pos ⟨rfl, by omega⟩]; simp
    rw [e, acc_high]; simp
theorem over_iff (x y : Sp) : overB x y = true ↔ x.a < y.a + y.n ∧ y.a < x.a + x.n := by simp [overB]
theorem last_of {l1 : List Sp} {k : Nat} (h : l1.length = k + 1) : ∃ m x, l1 = m ++ [x] ∧ m.length = k := by
  rcases List.eq_nil_or_concat l1 with rfl | ⟨m, x, rfl⟩
  · simp at h
  · exact ⟨m, x, by simp, by simpa using h⟩
theorem clash_iff {s : Sp} {l1 l2 : List Sp} (hs : oneB s = true) (ha : Apart (l1 ++ l2)) (hl : lowSp s.a (l1 ++ l2) = l1.length) (h1 : ∀ x ∈ l1, x.a < s.a) (h2 : ∀ x ∈ l2, s.a ≤ x.a) :
    clashR (l1 ++ l2) s = (l1 ++ l2).any fun x => overB x s := by
  rw [oneB_iff] at hs
  obtain ⟨ho, hp⟩ := ha
  have hn : ∀ x ∈ l1 ++ l2, 1 ≤ x.n := fun x hx => ((oneB_iff x).1 (ho x hx)).1
  rw [List.pairwise_append] at hp
  rw [Bool.eq_iff_iff, List.any_eq_true]
  unfold clashR
  rw [hl]
  have second : (match (l1 ++ l2)[l1.length]? with | some x => decide (s.a + s.n > x.a) | none => false) = true ↔ ∃ x ∈ l2, overB x s = true := by
    rw [List.getElem?_append_right (Nat.le_refl _), Nat.sub_self]
    cases l2 with
    | nil => simp
    | cons y l2 =>
      simp only [List.getElem?_cons_zero, decide_eq_true_eq]
      have hy := h2 y (by simp)
      have hyn := hn y (by simp)
      constructor
      · intro h; exact ⟨y, by simp, (over_iff _ _).2 ⟨by omega, by omega⟩⟩
      · rintro ⟨z, hz, h⟩
        rw [over_iff] at h
        rcases List.mem_cons.1 hz with rfl | hz
        · omega
        · have := (List.pairwise_cons.1 hp.2.1).1 z hz; omega
  have first : (match l1.length with | 0 => false | k + 1 => match (l1 ++ l2)[k]? with | some x => decide (x.a + x.n > s.a) | none => false) = true ↔ ∃ x ∈ l1, overB x s = true := by
    cases hk : l1.length with
    | zero => have := List.eq_nil_of_length_eq_zero hk; subst this; simp
    | succ k =>
      obtain ⟨m, x, rfl, rfl⟩ := last_of hk
      have e : (m ++ [x] ++ l2)[m.length]? = some x := by simp
      simp only [e, decide_eq_true_eq]
      have hx := h1 x (by simp)
      constructor
      · intro h; exact ⟨x, by simp, (over_iff _ _).2 ⟨by omega, by omega⟩⟩
      · rintro ⟨z, hz, h⟩
        rw [over_iff] at h
        rcases List.mem_append.1 hz with hz | hz
        · have := (List.pairwise_append.1 hp.1).2.2 z hz x (by simp)
          omega
        · rw [List.mem_singleton] at hz; subst hz; omega
  rw [Bool.or_eq_true]
  refine Iff.trans (or_congr first second) ?_
  constructor
  · rintro (⟨x, h, h'⟩ | ⟨x, h, h'⟩)
    · exact ⟨x, by simp [h], h'⟩
    · exact ⟨x, by simp [h], h'⟩
  · rintro ⟨x, h, h'⟩
    rcases List.mem_append.1 h with h | h
    · exact .inl ⟨x, h, h'⟩
    · exact .inr ⟨x, h, h'⟩
/-- What a piece is put to: it lies apart, and among the others; or nothing is done. -/
theorem put_cases {l : List Sp} (ha : Apart l) (s : Sp) : putFs l s = putR l s ∧ ((oneB s = true ∧ (l.any fun x => overB x s) = false ∧ ∃ l1 l2, l = l1 ++ l2 ∧ putR l s = (l1 ++ s :: l2, true) ∧ (∀ x ∈ l1, x.a + x.n ≤ s.a) ∧ (∀ x ∈ l2, s.a + s.n ≤ x.a)) ∨
    ((oneB s = false ∨ (l.any fun x => overB x s) = true) ∧ putR l s = (l, false))) := by
  have hall : (l.all fun x => !overB x s) = !(l.any fun x => overB x s) := by rw [List.not_any_eq_all_not]
  cases h1 : oneB s with
  | false => exact ⟨by simp [putFs, putR, h1], .inr ⟨.inl rfl, by simp [putR, h1]⟩⟩
  | true =>
    have hn : ∀ x ∈ l, 1 ≤ x.n := fun x hx => ((oneB_iff x).1 (ha.1 x hx)).1
    obtain ⟨l1, l2, rfl, e, h2, h3⟩ := low_split s.a l ha.2 hn
    have hc := clash_iff h1 ha e h2 h3
    have hs := (oneB_iff s).1 h1
    cases h4 : ((l1 ++ l2).any fun x => overB x s) with
    | true =>
      rw [h4] at hc hall
      exact ⟨by unfold putFs putR; rw [if_neg (by rw [hall]; simp), if_neg (by rw [hc]; simp)], .inr ⟨.inr rfl, by unfold putR; rw [if_neg (by rw [hc]; simp)]⟩⟩
    | false =>
      rw [h4] at hc hall
      have hno : ∀ x ∈ l1 ++ l2, ¬ (x.a < s.a + s.n ∧ s.a < x.a + x.n) := fun x hx h => by
        have := List.any_eq_false.1 h4 x hx
        exact this ((over_iff _ _).2 h)
      have hR : putR (l1 ++ l2) s = (l1 ++ s :: l2, true) := by
        unfold putR; rw [if_pos ⟨h1, hc⟩, e, List.take_left, List.drop_left]
      have g1 : ∀ x ∈ l1, x.a + x.n ≤ s.a := fun x hx => by have := hno x (by simp [hx]); have := h2 x hx; omega
      have g2 : ∀ x ∈ l2, s.a + s.n ≤ x.a := fun x hx => by have := hno x (by simp [hx]); have := h3 x hx; have := hn x (by simp [hx]); omega
      refine ⟨?_, .inl ⟨rfl, rfl, l1, l2, rfl, hR, g1, g2⟩⟩
      rw [hR]; unfold putFs; rw [if_pos ⟨h1, by rw [hall]; rfl⟩, acc_all h2 fun x hx => by have := g2 x hx; omega]
theorem apart_put {l1 l2 : List Sp} {s : Sp} (ha : Apart (l1 ++ l2)) (hs : oneB s = true) (h1 : ∀ x ∈ l1, x.a + x.n ≤ s.a) (h2 : ∀ x ∈ l2, s.a + s.n ≤ x.a) : Apart (l1 ++ s :: l2) := by
  obtain ⟨ho, hp⟩ := ha
  rw [List.pairwise_append] at hp
  refine ⟨fun x hx => ?_, ?_⟩
  · simp only [List.mem_append, List.mem_cons] at hx
    rcases hx with h | rfl | h
    · exact ho x (by simp [h])
    · exact hs
    · exact ho x (by simp [h])
  · rw [List.pairwise_append, List.pairwise_cons]
    refine ⟨hp.1, ⟨h2, hp.2.1⟩, fun x hx y hy => ?_⟩
    rcases List.mem_cons.1 hy with rfl | hy
    · exact h1 x hx
    · exact hp.2.2 x hx y hy
theorem put_apart {l : List Sp} (ha : Apart l) (s : Sp) : Apart (putR l s).1 ∧ (putR l s).1.length ≤ l.length + 1 := by
  rcases (put_cases ha s).2 with ⟨h1, _, l1, l2, rfl, e, h2, h3⟩ | ⟨_, e⟩
  · rw [e]; exact ⟨apart_put ha h1 h2 h3, by simp; omega⟩
  · rw [e]; exact ⟨ha, by simp⟩
theorem apart_mid {l1 l2 : List Sp} {s : Sp} (h : Apart (l1 ++ s :: l2)) : Apart (l1 ++ l2) ∧ oneB s = true ∧ (∀ x ∈ l1, x.a + x.n ≤ s.a) ∧ (∀ x ∈ l2, s.a + s.n ≤ x.a) := by
  obtain ⟨ho, hp⟩ := h
  rw [List.pairwise_append, List.pairwise_cons] at hp
  refine ⟨⟨fun x hx => ho x (by simp at hx ⊢; rcases hx with h | h <;> simp [h]), ?_⟩, ho s (by simp), fun x hx => hp.2.2 x hx s (by simp), hp.2.1.1⟩
  rw [List.pairwise_append]
  exact ⟨hp.1, hp.2.1.2, fun x hx y hy => hp.2.2 x hx y (by simp [hy])⟩
end Go.Ev.W
namespace Go.Ev.W
open Go.Ev Go.Ev.N

abbrev u8 (n : Nat) : AV := .int .u8 (n : Int)
def lB (l : List Nat) : AV := .lst t_uint8 (l.map u8)
def IsB (l : List Nat) : Prop := ∀ x ∈ l, x < 256
/-- Numbers from which choices are read. -/
structure Pk where
  l : List Nat
  n : Nat
def pkB (p : Pk) : Blk := .var (.agg [lB p.l, i64 p.n])
def Pk.num (p : Pk) (m : Nat) : Nat := if p.n < p.l.length ∧ 1 ≤ m then (p.l[p.n]?).getD 0 % m else 0
def Pk.next (p : Pk) (m : Nat) : Pk := if p.n < p.l.length ∧ 1 ≤ m then ⟨p.l, p.n + 1⟩ else p
structure Pk.Ok (p : Pk) : Prop where
  b : IsB p.l
  n : p.n ≤ p.l.length
  l : p.l.length ≤ maxLen
theorem Pk.Ok.next {p : Pk} (h : p.Ok) (m : Nat) : (p.next m).Ok := by
  unfold Pk.next; split
  · exact ⟨h.b, by simp only; omega, h.l⟩
  · exact h
theorem Pk.num_lt (p : Pk) {m : Nat} (h : 1 ≤ m) : p.num m < m := by
  unfold Pk.num; split
  · exact Nat.mod_lt _ h
  · exact h

end Go.Ev.W
namespace Go.Ev.W
open Go.Ev Go.Ev.N

/-- The least power of two that is not below a number. -/
def upN (v : Nat) : Nat := if v ≤ 1 then 1 else 2 ^ (Nat.log2 (v - 1) + 1)
theorem upN_pow (v : Nat) : ∃ k, upN v = 2 ^ k := by
  unfold upN; split
  · exact ⟨0, rfl⟩
  · exact ⟨_, rfl⟩
theorem le_upN (v : Nat) : v ≤ upN v := by
  unfold upN; split
  · assumption
  · have := Nat.lt_log2_self (n := v - 1); omega
theorem upN_le {v k : Nat} (h : v ≤ 2 ^ k) : upN v ≤ 2 ^ k := by
  unfold upN; split
  · exact Nat.one_le_two_pow
  · refine Nat.pow_le_pow_right (by omega) ?_
    rw [Nat.succ_le_iff, Nat.log2_lt (by omega)]
    omega
theorem upN_lt {v : Nat} (h : 1 ≤ v) : upN v < 2 * v := by
  unfold upN; split
  · omega
  · have := Nat.log2_self_le (n := v - 1) (by omega)
    rw [Nat.pow_succ]; omega
theorem upN_pos (v : Nat) : 1 ≤ upN v := by obtain ⟨k, h⟩ := upN_pow v; rw [h]; exact Nat.one_le_two_pow
theorem pow_lt_dbl {j k : Nat} (h : 2 ^ j < 2 ^ k) : 2 ^ j * 2 ≤ 2 ^ k := by
  have : j < k := (Nat.pow_lt_pow_iff_right (by omega)).1 h
  rw [← Nat.pow_succ]; exact Nat.pow_le_pow_right (by omega) this

/-- Which power of two. -/
def logF (v : Int) : Nat × Bool := if 1 ≤ v ∧ v = ((2 ^ Nat.log2 v.toNat : Nat) : Int) then (Nat.log2 v.toNat, true) else (0, false)
theorem logF_pow (k : Nat) : logF ((2 ^ k : Nat) : Int) = (k, true) := by
  have h := Nat.one_le_two_pow (n := k)
  have hl := Nat.log2_two_pow (n := k)
  unfold logF
  obtain ⟨q, hq⟩ : ∃ q, 2 ^ k = q := ⟨_, rfl⟩
  rw [hq] at h hl ⊢
  rw [Int.toNat_natCast, hl, hq, if_pos ⟨by omega, rfl⟩]

/-- What there is. -/
structure Cf where
  G : Nat
  N : Nat
  M : Nat
  L : Nat
  Pg : Nat
  P : Nat
  H : Nat
  Sd : Nat
  deriving DecidableEq
def eC (c : Cf) : AV := .agg [i64 c.G, i64 c.N, i64 c.M, i64 c.L, i64 c.Pg, i64 c.P, i64 c.H, i64 c.Sd]
/-- What is asked for. -/
structure Rw where
  g : Int
  l : Int
  m : Int
  p : Int
  b : Int
  s : Int
  deriving DecidableEq
def eR (r : Rw) : AV := .agg [i64 r.g, i64 r.l, i64 r.m, i64 r.p, i64 r.b, i64 r.s]
def cf0 : Cf := ⟨0, 0, 0, 0, 0, 0, 0, 0⟩
def inR (v : Int) : Bool := decide (1 ≤ v ∧ v ≤ 65536)
def Rw.ok (r : Rw) : Bool := inR r.g && inR r.l && inR r.m && inR r.p && decide (0 ≤ r.b ∧ r.b ≤ 65536) && decide (0 ≤ r.s ∧ r.s ≤ 255)
def rnd (v t : Nat) : Nat := if v % t = 0 then v else v - v % t + t
def cfOf (r : Rw) : Cf :=
  let g := upN r.g.toNat
  let n := upN (max r.l.toNat g)
  let pg := upN (max r.p.toNat g)
  let m := rnd r.m.toNat (2 * max n pg)
  let l := Nat.log2 (n / g)
  ⟨g, n, m, l, pg, r.b.toNat, m + l * (m / 2), r.s.toNat⟩
def ofF (r : Rw) : Cf × Nat := if r.ok = true ∧ (cfOf r).H ≤ 65536 then (cfOf r, 0) else (cf0, 1)

/-- What holds of what there is. -/
structure Cf.Ok (c : Cf) : Prop where
  g : ∃ a, c.G = 2 ^ a
  n : c.N = c.G * 2 ^ c.L
  p : ∃ e, c.Pg = c.G * 2 ^ e
  m : ∃ q, c.M = 2 * max c.N c.Pg * q
  m1 : 1 ≤ c.M
  h : c.H = c.M + c.L * (c.M / 2)
  h2 : c.H ≤ 65536
  b : c.P ≤ 65536
  s : c.Sd ≤ 255
theorem pow_up {g v : Nat} (hg : ∃ a, g = 2 ^ a) : ∃ e, upN (max v g) = g * 2 ^ e := by
  obtain ⟨a, rfl⟩ := hg
  obtain ⟨b, hb⟩ := upN_pow (max v (2 ^ a))
  have h1 := le_upN (max v (2 ^ a))
  rw [hb] at h1 ⊢
  have : a ≤ b := (Nat.pow_le_pow_iff_right (a := 2) (by omega)).1 (Nat.le_trans (Nat.le_max_right _ _) h1)
  exact ⟨b - a, by rw [← Nat.pow_add]; congr 1; omega⟩
theorem rnd_spec {v t : Nat} (h : 1 ≤ t) : ∃ q, rnd v t = t * q ∧ v ≤ rnd v t ∧ rnd v t < v + t := by
  have h1 := Nat.div_add_mod v t
  have h2 := Nat.mod_lt v h
  unfold rnd
  split
  · exact ⟨v / t, by omega, by omega, by omega⟩
  · refine ⟨v / t + 1, ?_, by omega, by omega⟩
    rw [Nat.mul_add]; omega
theorem log_of {G N k : Nat} (hg : 1 ≤ G) (h : N = G * 2 ^ k) : Nat.log2 (N / G) = k := by
  rw [h, Nat.mul_div_cancel_left _ (by omega), Nat.log2_two_pow]
theorem ofF_ok {r : Rw} (h : (ofF r).2 = 0) : (ofF r).1.Ok ∧ r.ok = true ∧ (ofF r).1 = cfOf r := by
  unfold ofF at h ⊢
  split at h
  · rename_i hh
    rw [if_pos hh]
    obtain ⟨hr, hH⟩ := hh
    refine ⟨?_, hr, rfl⟩
    simp only [Rw.ok, inR, Bool.and_eq_true, decide_eq_true_eq] at hr
    obtain ⟨⟨⟨⟨⟨r1, r2⟩, r3⟩, r4⟩, r5⟩, r6⟩ := hr
    have g := upN_pow r.g.toNat
    obtain ⟨k, hk⟩ := pow_up (v := r.l.toNat) g
    obtain ⟨e, he⟩ := pow_up (v := r.p.toNat) g
    have hg1 := upN_pos r.g.toNat
    have hn1 := upN_pos (max r.l.toNat (upN r.g.toNat))
    have hlog := log_of hg1 hk
    obtain ⟨q, q1, q2, q3⟩ := rnd_spec (v := r.m.toNat) (t := 2 * max (upN (max r.l.toNat (upN r.g.toNat))) (upN (max r.p.toNat (upN r.g.toNat)))) (by omega)
    exact ⟨g, by show upN _ = upN _ * 2 ^ Nat.log2 _; rw [hlog]; exact hk, ⟨e, he⟩, ⟨q, q1⟩, by show 1 ≤ rnd _ _; omega, rfl, hH, by show r.b.toNat ≤ _; omega, by show r.s.toNat ≤ _; omega⟩
  · cases h

theorem Cf.Ok.gpos {c : Cf} (h : c.Ok) : 1 ≤ c.G := by obtain ⟨a, e⟩ := h.g; rw [e]; exact Nat.one_le_two_pow
theorem Cf.Ok.nM {c : Cf} (h : c.Ok) : 2 * c.N ≤ c.M := by
  obtain ⟨q, e⟩ := h.m
  have := h.m1
  cases q with
  | zero => rw [Nat.mul_zero] at e; omega
  | succ q =>
    rw [Nat.mul_succ] at e
    have := Nat.zero_le (2 * max c.N c.Pg * q)
    omega
theorem Cf.Ok.mH {c : Cf} (h : c.Ok) : c.M ≤ 65536 := by have := h.h; have := h.h2; omega
theorem Cf.Ok.lL {c : Cf} (h : c.Ok) : c.L ≤ 16 := by
  have h1 := h.nM
  have h2 := h.mH
  have h3 := h.n
  have h4 := h.gpos
  have h5 : 2 ^ c.L ≤ 2 ^ 15 := by
    have : 1 * 2 ^ c.L ≤ c.G * 2 ^ c.L := Nat.mul_le_mul_right _ h4
    omega
  have := (Nat.pow_le_pow_iff_right (a := 2) (by omega)).1 h5
  omega
end Go.Ev.W
namespace Go.Ev.W
open Go.Ev Go.Ev.N

/-- Where a game stands. -/
structure Rd where
  step : Nat
  off : Nat
  live : List Sp
  most : Int
  asked : Nat
  why : Nat
  deriving DecidableEq
def eRd (r : Rd) : AV := .agg [i64 r.step, i64 r.off, lS r.live, i64 r.most, i64 r.asked, i64 r.why]
def sz (c : Cf) (k : Nat) : Nat := c.G * 2 ^ k
def covF (off m : Nat) (s : Sp) : Bool := decide (((off : Int) - s.a) % (m : Int) < s.n)
def less (off m : Nat) : List Sp → Int
  | [] => 0
  | s :: l => (if covF off m s = true then (m : Int) - s.n else 0) + less off m l
def nextF (c : Cf) (r : Rd) : Rd :=
  if less (r.off + sz c r.step) (2 * sz c r.step) r.live > less r.off (2 * sz c r.step) r.live then
    { r with step := r.step + 1, off := r.off + sz c r.step, live := r.live.filter (covF (r.off + sz c r.step) (2 * sz c r.step)) }
  else { r with step := r.step + 1, live := r.live.filter (covF r.off (2 * sz c r.step)) }
def endF (c : Cf) : Nat → Rd → Rd
  | 0, r => r
  | k + 1, r => if total r.live + sz c r.step > c.M then (if c.L ≤ r.step then { r with why := 2 } else endF c k (nextF c r)) else r
def toldF (c : Cf) (r : Rd) (at' : Int) : Rd :=
  if r.why ≠ 0 then r
  else if (putR r.live ⟨at', sz c r.step⟩).2 = false then { r with asked := r.asked + 1, why := 1 }
  else endF c (c.L + 1 - r.step) { r with asked := r.asked + 1, live := (putR r.live ⟨at', sz c r.step⟩).1, most := max r.most (at' + sz c r.step) }

theorem sz_mono {c : Cf} {j k : Nat} (h : j ≤ k) : sz c j ≤ sz c k := Nat.mul_le_mul_left _ (Nat.pow_le_pow_right (by omega) h)
theorem sz_succ (c : Cf) (k : Nat) : sz c (k + 1) = 2 * sz c k := by unfold sz; rw [Nat.pow_succ]; rw [← Nat.mul_assoc, Nat.mul_comm]
theorem Cf.Ok.sz_le {c : Cf} (h : c.Ok) {k : Nat} (hk : k ≤ c.L) : sz c k ≤ c.N := by rw [h.n]; exact sz_mono hk
theorem sz_pos {c : Cf} (h : c.Ok) (k : Nat) : 1 ≤ sz c k := by
  have := h.gpos
  have h2 := Nat.one_le_two_pow (n := k)
  exact Nat.mul_le_mul this h2

theorem total_cons (x : Sp) (l : List Sp) : total (x :: l) = x.n + total l := by simp only [total, List.map_cons, List.sum_cons]
theorem total_app (l1 l2 : List Sp) : total (l1 ++ l2) = total l1 + total l2 := by simp only [total, List.map_append, List.sum_append]
/-- What holds of a game, in its midst. -/
structure RdB (c : Cf) (r : Rd) : Prop where
  s : r.step ≤ c.L
  o : r.off < sz c r.step
  a : Apart r.live
  t : total r.live ≤ c.M
  m : 0 ≤ r.most ∧ r.most ≤ 1099511627776
  w : r.why ≤ 2
/-- What holds of a game. -/
structure RdOk (c : Cf) (r : Rd) : Prop extends RdB c r where
  t2 : r.why = 0 → total r.live + sz c r.step ≤ c.M
theorem total_nonneg : ∀ {l : List Sp}, Apart l → (l.length : Int) ≤ total l
  | [], _ => by simp [total]
  | x :: l, h => by
    have ih := total_nonneg (apart_mid (l1 := []) h).1
    have := (oneB_iff _).1 (h.1 x (by simp))
    rw [List.nil_append] at ih
    rw [total_cons, List.length_cons]; omega
theorem total_takes {l : List Sp} (h : Apart l) : ∀ k, k ≤ l.length → 0 ≤ total (l.take k) ∧ total (l.take k) ≤ total l := by
  intro k hk
  have e : total l = total (l.take k) + total (l.drop k) := by
    rw [← total_app, List.take_append_drop]
  have h1 : Apart (l.take k) := ⟨fun x hx => h.1 x (List.mem_of_mem_take hx), h.2.sublist (List.take_sublist k l)⟩
  have h2 : Apart (l.drop k) := ⟨fun x hx => h.1 x (List.mem_of_mem_drop hx), h.2.sublist (List.drop_sublist k l)⟩
  have := total_nonneg h1
  have := total_nonneg h2
  omega
theorem RdB.len {c : Cf} {r : Rd} (hc : c.Ok) (h : RdB c r) : r.live.length ≤ 65536 := by
  have := total_nonneg h.a
  have := h.t
  have := hc.mH
  omega
theorem total_filter (p : Sp → Bool) : ∀ {l : List Sp}, (∀ x ∈ l, oneB x = true) → total (l.filter p) ≤ total l
  | [], _ => by simp
  | x :: l, h => by
    have ih := total_filter p (l := l) fun y hy => h y (by simp [hy])
    have hx := (oneB_iff _).1 (h x (by simp))
    rw [List.filter_cons, total_cons]
    split
    · rw [total_cons]; omega
    · omega
theorem apart_filter {l : List Sp} (h : Apart l) (p : Sp → Bool) : Apart (l.filter p) ∧ total (l.filter p) ≤ total l :=
  ⟨⟨fun x hx => h.1 x (List.mem_filter.1 hx).1, h.2.sublist List.filter_sublist⟩, total_filter p h.1⟩
theorem total_put {l1 l2 : List Sp} (s : Sp) : total (l1 ++ s :: l2) = total (l1 ++ l2) + s.n := by
  rw [total_app, total_app, total_cons]; omega

theorem nextF_ok {c : Cf} {r : Rd} (hc : c.Ok) (h : RdB c r) (hs : r.step < c.L) : RdB c (nextF c r) ∧ (nextF c r).step = r.step + 1 ∧ (nextF c r).why = r.why ∧ (nextF c r).most = r.most ∧ (nextF c r).asked = r.asked := by
  have e := sz_succ c r.step
  have ho := h.o
  have ht := h.t
  unfold nextF
  split
  · have hf := apart_filter h.a (covF (r.off + sz c r.step) (2 * sz c r.step))
    exact ⟨⟨hs, by show r.off + sz c r.step < sz c (r.step + 1); omega, hf.1, Int.le_trans hf.2 ht, h.m, h.w⟩, rfl, rfl, rfl, rfl⟩
  · have hf := apart_filter h.a (covF r.off (2 * sz c r.step))
    exact ⟨⟨hs, by show r.off < sz c (r.step + 1); omega, hf.1, Int.le_trans hf.2 ht, h.m, h.w⟩, rfl, rfl, rfl, rfl⟩
theorem endF_ok {c : Cf} (hc : c.Ok) : ∀ (k : Nat) (r : Rd), RdB c r → r.why = 0 → c.L < k + r.step → RdOk c (endF c k r) ∧ (endF c k r).asked = r.asked
  | 0, r, h, hw, hk => by have := h.s; omega
  | k + 1, r, h, hw, hk => by
    unfold endF
    split
    · split
      · exact ⟨⟨⟨h.s, h.o, h.a, h.t, h.m, Nat.le_refl _⟩, fun h => by cases h⟩, rfl⟩
      · have n := nextF_ok hc h (by omega)
        have := endF_ok hc k _ n.1 (by rw [n.2.2.1, hw]) (by rw [n.2.1]; omega)
        exact ⟨this.1, by rw [this.2, n.2.2.2.2]⟩
    · exact ⟨⟨h, fun _ => by omega⟩, rfl⟩
theorem toldF_ok {c : Cf} {r : Rd} (hc : c.Ok) (h : RdOk c r) (y : Int) : RdOk c (toldF c r y) ∧ (toldF c r y).asked = r.asked + (if r.why = 0 then 1 else 0) := by
  unfold toldF
  split
  · exact ⟨h, rfl⟩
  · rename_i hw
    have hw : r.why = 0 := by omega
    have ht2 := h.t2 hw
    split
    · exact ⟨⟨⟨h.s, h.o, h.a, h.t, h.m, by show (1 : Nat) ≤ 2; omega⟩, fun h => by cases h⟩, rfl⟩
    · rename_i hp
      rcases (put_cases h.a ⟨y, sz c r.step⟩).2 with ⟨h1, _, l1, l2, e, e2, h3, h4⟩ | ⟨_, e2⟩
      · have hs := (oneB_iff _).1 h1
        simp only at hs
        have hm := h.m
        refine endF_ok hc _ _ ⟨h.s, h.o, (put_apart h.a _).1, ?_, ?_, h.w⟩ hw (by show c.L < c.L + 1 - r.step + r.step; omega)
        · show total (putR r.live _).1 ≤ _
          rw [e2, total_put, ← e]; exact ht2
        · show 0 ≤ max _ _ ∧ max _ _ ≤ _
          omega
      · rw [e2] at hp; exact absurd rfl hp
end Go.Ev.W
namespace Go.Ev.W
open Go.Ev Go.Ev.N

theorem sz_shl {c : Cf} (hc : c.Ok) {k : Nat} (hk : k ≤ c.L) : IntKind.i64.wrap (((c.G : Nat) : Int) * 2 ^ min ((k : Nat) : Int).toNat IntKind.i64.bits) = ((sz c k : Nat) : Int) := by
  have h1 := hc.lL
  have h2 := hc.sz_le hk
  have h3 := hc.nM
  have h4 := hc.mH
  have e : min ((k : Nat) : Int).toNat IntKind.i64.bits = k := by
    rw [Int.toNat_natCast]; show min k 64 = k; omega
  have e2 : ((c.G : Nat) : Int) * 2 ^ k = ((sz c k : Nat) : Int) := by unfold sz; rw [Int.natCast_mul, Int.natCast_pow]; rfl
  rw [e, e2]
  exact wrap64 (by omega) (by omega)
theorem gsize_told {c : Cf} (hc : c.Ok) {k : Nat} (hk : k ≤ c.L) : Told P T game_size [] [eC c, i64 k] (i64 (sz c k : Nat)) [] := by
  have h1 := hc.lL
  have h2 := hc.gpos
  have h3 := hc.nM
  have h4 := hc.mH
  have h5 := hc.sz_le (k := 0) (by omega)
  have h6 : sz c 0 = c.G := by simp [sz]
  refine told_of_ev (fn := game_size_fn) tabOk mixed (by kernel_rfl) (by kernel_rfl) (by kernel_rfl) (by kernel_rfl) ?_
  (refine gw ?_; first | refine IfB.dec (fun a1 => ?_) (fun a1 => ?_) | refine IfB.eq (fun a1 => ?_) (fun a1 => ?_) | refine IfB.ne (fun a1 => ?_) (fun a1 => ?_) | refine IfB.mk (fun a1 => ?_) (fun a1 => ?_))
  · omega
  · (refine gw ?_; first | refine IfB.dec (fun a2 => ?_) (fun a2 => ?_) | refine IfB.eq (fun a2 => ?_) (fun a2 => ?_) | refine IfB.ne (fun a2 => ?_) (fun a2 => ?_) | refine IfB.mk (fun a2 => ?_) (fun a2 => ?_))
    · omega
    · (refine gw ?_; first | refine IfB.dec (fun a3 => ?_) (fun a3 => ?_) | refine IfB.eq (fun a3 => ?_) (fun a3 => ?_) | refine IfB.ne (fun a3 => ?_) (fun a3 => ?_) | refine IfB.mk (fun a3 => ?_) (fun a3 => ?_))
      · omega
      · (refine gw ?_; first | refine IfB.dec (fun a4 => ?_) (fun a4 => ?_) | refine IfB.eq (fun a4 => ?_) (fun a4 => ?_) | refine IfB.ne (fun a4 => ?_) (fun a4 => ?_) | refine IfB.mk (fun a4 => ?_) (fun a4 => ?_))
        · omega
        · (refine gw ?_)
          refine Fits.mk ?_
          rw [sz_shl hc hk]
          (refine gw ?_; exact RetN.mk ⟨[], rfl, rfl, rfl⟩)
def askG (c : Cf) (r : Rd) : Nat × Bool := if r.why = 0 then (sz c r.step, true) else (0, false)
theorem asks_told {c : Cf} {r : Rd} (hc : c.Ok) (hs : r.step ≤ c.L) : Told P T game_Asks [] [eC c, eRd r] (.tup [i64 ((askG c r).1 : Nat), .bool (askG c r).2]) [] := by
  refine told_of_ev (fn := game_Asks_fn) tabOk mixed (by kernel_rfl) (by kernel_rfl) (by kernel_rfl) (by kernel_rfl) ?_
  (refine gw ?_; first | refine IfB.dec (fun h1 => ?_) (fun h1 => ?_) | refine IfB.eq (fun h1 => ?_) (fun h1 => ?_) | refine IfB.ne (fun h1 => ?_) (fun h1 => ?_) | refine IfB.mk (fun h1 => ?_) (fun h1 => ?_))
  · rw [show askG c r = (0, false) by unfold askG; rw [if_neg (by omega)]]
    (refine gw ?_; exact RetN.mk ⟨[], rfl, rfl, rfl⟩)
  · rw [show askG c r = (sz c r.step, true) by unfold askG; rw [if_pos (by omega)]]
    (refine gw ?_; refine Choice.mk ⟨false, Choice.mk ⟨true, _, _, gsize_told hc hs, ?_⟩⟩)
    (refine gw ?_; exact RetN.mk ⟨[], rfl, rfl, rfl⟩)
theorem begin_told (c : Cf) : Told P T game_Begin [] [eC c] (eRd ⟨0, 0, [], 0, 0, 0⟩) [] := by
  refine told_of_ev (fn := game_Begin_fn) tabOk mixed (by kernel_rfl) (by kernel_rfl) (by kernel_rfl) (by kernel_rfl) ?_
  (refine gw ?_; exact RetN.fz ⟨[true], [], rfl, rfl, rfl⟩)
theorem live_told {l : List Sp} (hl : l.length ≤ 1000000) (ha : Apart l) (ht : total l ≤ 1000000) : Told P T game_live [] [lS l] (i64 (total l)) [] := by
  have hml : (l.map eSp).length = l.length := by simp
  have hb := total_takes ha
  refine told_of_ev (fn := game_live_fn) tabOk mixed (by kernel_rfl) (by kernel_rfl) (by kernel_rfl) (by kernel_rfl) ?_
  (refine gw ?_; refine LoopN.mk ⟨[2,5,6,7], fun vs L => ∃ i : Nat, vs = [i64 (total (l.take i)), lS l, i64 (l.map eSp).length, i64 i] ∧ L = [] ∧ i ≤ l.length, fun vs L => match vs with | [_, _, _, .int _ i] => l.length - i.toNat | _ => 0, [], [], rfl, ⟨0, rfl, rfl, by omega⟩, ?_⟩)
  rintro vs L ⟨i, rfl, rfl, hi⟩
  (refine gw ?_; first | refine IfB.dec (fun h1 => ?_) (fun h1 => ?_) | refine IfB.eq (fun h1 => ?_) (fun h1 => ?_) | refine IfB.ne (fun h1 => ?_) (fun h1 => ?_) | refine IfB.mk (fun h1 => ?_) (fun h1 => ?_))
  · have hlt : i < l.length := by omega
    have hs := total_succ hlt
    have hb1 := hb (i + 1) hlt
    (refine gw ?_; refine idx_map (hlt) ?_)
    (refine gw ?_; refine ⟨[], [], rfl, ⟨i + 1, by rw [hs]; rfl, rfl, hlt⟩, (by omega : l.length - ((i : Int) + 1).toNat < l.length - (i : Int).toNat)⟩)
  · have : i = l.length := by omega
    subst this
    rw [List.take_length]
    (refine gw ?_; exact RetN.mk ⟨[], rfl, rfl, rfl⟩)
theorem covers_told {s : Sp} (hs : oneB s = true) {off m : Nat} (hm : off < m) (hm2 : m ≤ 1000000) : Told P T game_covers [] [eSp s, i64 off, i64 m] (.bool (covF off m s)) [] := by
  have h1 := (oneB_iff _).1 hs
  have e1 : s.a.tmod m = s.a % m := Int.tmod_eq_emod_of_nonneg (by omega)
  have h2 := Int.emod_nonneg s.a (b := (m : Int)) (by omega)
  have h3 := Int.emod_lt_of_pos s.a (b := (m : Int)) (by omega)
  have e2 : ((off : Int) - s.a % m + m).tmod m = ((off : Int) - s.a) % m := by
    rw [Int.tmod_eq_emod_of_nonneg (by omega), Int.add_emod_right, Int.sub_emod, Int.emod_emod, ← Int.sub_emod]
  refine told_of_ev (fn := game_covers_fn) tabOk mixed (by kernel_rfl) (by kernel_rfl) (by kernel_rfl) (by kernel_rfl) ?_
  (refine gw ?_)
  rw [e1]
  (refine gw ?_)
  rw [e2]
  (refine gw ?_; exact RetN.mk ⟨[], rfl, rfl, rfl⟩)
end Go.Ev.W
namespace Go.Ev.W
open Go.Ev Go.Ev.N

theorem less_app (off m : Nat) : ∀ (l1 l2 : List Sp), less off m (l1 ++ l2) = less off m l1 + less off m l2
  | [], l2 => by simp [less]
  | x :: l1, l2 => by simp only [List.cons_append, less, less_app off m l1 l2]; omega
theorem less_succ {off m : Nat} {l : List Sp} {i : Nat} (h : i < l.length) : less off m (l.take (i + 1)) = less off m (l.take i) + (if covF off m l[i] = true then (m : Int) - l[i].n else 0) := by
  rw [List.take_succ_eq_append_getElem h, less_app]; simp [less]
theorem filter_succ {p : Sp → Bool} {l : List Sp} {i : Nat} (h : i < l.length) : (l.take (i + 1)).filter p = (l.take i).filter p ++ (if p l[i] = true then [l[i]] else []) := by
  rw [List.take_succ_eq_append_getElem h, List.filter_append]; simp [List.filter_cons]
theorem less_bound {off m : Nat} {l : List Sp} (ho : ∀ x ∈ l, oneB x = true) : ∀ i, i ≤ l.length → -(1099511627776 * i : Int) ≤ less off m (l.take i) ∧ less off m (l.take i) ≤ (m : Int) * i
  | 0, _ => by simp [less]
  | i + 1, h => by
    have ih := less_bound (off := off) (m := m) ho i (by omega)
    have hx := (oneB_iff _).1 (ho _ (List.getElem_mem (show i < l.length by omega)))
    rw [less_succ (show i < l.length by omega)]
    have e : (m : Int) * ((i + 1 : Nat) : Int) = (m : Int) * i + m := by rw [Int.natCast_add, Int.mul_add]; omega
    rw [e]
    split <;> omega
theorem kept_told {l : List Sp} (hl : l.length ≤ 65536) (ho : ∀ x ∈ l, oneB x = true) {off m : Nat} (hm : off < m) (hm2 : m ≤ 1000000) : Told P T game_kept [] [lS l, i64 off, i64 m] (.tup [lS (l.filter (covF off m)), i64 (less off m l)]) [] := by
  have hml : (l.map eSp).length = l.length := by simp
  refine told_of_ev (fn := game_kept_fn) tabOk mixed (by kernel_rfl) (by kernel_rfl) (by kernel_rfl) (by kernel_rfl) ?_
  (refine gw ?_; refine LoopN.mk ⟨[1,2,6,7,10,11,12], fun vs L => ∃ i : Nat, vs = [i64 off, i64 m, .ref 0, i64 (less off m (l.take i)), lS l, i64 (l.map eSp).length, i64 i] ∧ L = [.row t_api_Span (((l.take i).filter (covF off m)).map eSp)] ∧ i ≤ l.length, fun vs L => match vs with | [_, _, _, _, _, _, .int _ i] => l.length - i.toNat | _ => 0, [], [0], rfl, ⟨0, rfl, rfl, by omega⟩, ?_⟩)
  rintro vs L ⟨i, rfl, rfl, hi⟩
  (refine gw ?_; first | refine IfB.dec (fun h1 => ?_) (fun h1 => ?_) | refine IfB.eq (fun h1 => ?_) (fun h1 => ?_) | refine IfB.ne (fun h1 => ?_) (fun h1 => ?_) | refine IfB.mk (fun h1 => ?_) (fun h1 => ?_))
  · have hlt : i < l.length := by omega
    have h2 := less_succ (off := off) (m := m) hlt
    have h3 := filter_succ (p := covF off m) hlt
    have h4 := less_bound (off := off) (m := m) ho (i + 1) hlt
    have h5 := less_bound (off := off) (m := m) ho i (by omega)
    have h6 := ho _ (List.getElem_mem hlt)
    have h7 := (oneB_iff _).1 h6
    have hmi : (m : Int) * (i : Nat) ≤ 1000000 * 65536 := Int.mul_le_mul (by omega) (by omega) (by omega) (by omega)
    have hmi1 : (m : Int) * ((i + 1 : Nat) : Int) ≤ 1000000 * 65536 := Int.mul_le_mul (by omega) (by omega) (by omega) (by omega)
    have hfl : (((l.take i).filter (covF off m)).map eSp).length ≤ 65536 := by
      rw [List.length_map]
      have := List.length_filter_le (covF off m) (l.take i)
      rw [List.length_take] at this; omega
    (refine gw ?_; refine idx_map (hlt) ?_)
    (refine gw ?_; refine Choice.mk ⟨false, Choice.mk ⟨true, _, _, covers_told h6 hm hm2, ?_⟩⟩)
    cases h8 : covF off m l[i] with
    | false =>
      rw [h8] at h2 h3
      rw [if_neg (by simp), Int.add_zero] at h2
      rw [if_neg (by simp), List.append_nil] at h3
      (refine gw ?_; refine ⟨[], [0], rfl, ⟨i + 1, by rw [h2]; rfl, by rw [h3]; rfl, hlt⟩, (by omega : l.length - ((i : Int) + 1).toNat < l.length - (i : Int).toNat)⟩)
    | true =>
      rw [h8, if_pos rfl] at h2 h3
      (refine gw ?_; refine Room.mk (by have := hfl; simp only [List.length_cons, List.length_nil]; omega) ?_)
      (refine gw ?_; refine ⟨[], [3], rfl, ⟨i + 1, by rw [h2]; rfl, show [Blk.row _ _] = [Blk.row _ _] by rw [h3, List.map_append]; rfl, hlt⟩, (by omega : l.length - ((i : Int) + 1).toNat < l.length - (i : Int).toNat)⟩)
  · have : i = l.length := by omega
    subst this
    rw [List.take_length]
    (refine gw ?_; exact RetN.fz ⟨[true, true], [], rfl, rfl, rfl⟩)

theorem gnext_told {c : Cf} (hc : c.Ok) {r : Rd} (h : RdB c r) (hs : r.step < c.L) : Told P T game_next [] [eC c, eRd r] (eRd (nextF c r)) [] := by
  have hlen := h.len hc
  have e1 := sz_succ c r.step
  have e2 := hc.sz_le (k := r.step + 1) hs
  have e3 := hc.nM
  have e4 := hc.mH
  have ho := h.o
  have hL := hc.lL
  have k1 := kept_told hlen h.a.1 (off := r.off) (m := 2 * sz c r.step) (by omega) (by omega)
  have k2 := kept_told hlen h.a.1 (off := r.off + sz c r.step) (m := 2 * sz c r.step) (by omega) (by omega)
  have hsh : IntKind.i64.wrap (((sz c r.step : Nat) : Int) * 2 ^ min (1 : Int).toNat IntKind.i64.bits) = ((2 * sz c r.step : Nat) : Int) := by
    rw [show (2 : Int) ^ min (1 : Int).toNat IntKind.i64.bits = 2 from rfl, wrap64 (by omega) (by omega)]; omega
  refine told_of_ev (fn := game_next_fn) tabOk mixed (by kernel_rfl) (by kernel_rfl) (by kernel_rfl) (by kernel_rfl) ?_
  (refine gw ?_; refine Choice.mk ⟨false, Choice.mk ⟨true, _, _, gsize_told hc h.s, ?_⟩⟩)
  (refine gw ?_)
  refine Fits.mk ?_
  rw [hsh]
  (refine gw ?_; refine Choice.mk ⟨false, Choice.mk ⟨false, _, _, k1, ?_⟩⟩)
  (refine gw ?_)
  refine Fits.mk ?_
  rw [hsh]
  (refine gw ?_; refine Choice.mk ⟨false, Choice.mk ⟨false, _, _, k2, ?_⟩⟩)
  (refine gw ?_; first | refine IfB.dec (fun h1 => ?_) (fun h1 => ?_) | refine IfB.eq (fun h1 => ?_) (fun h1 => ?_) | refine IfB.ne (fun h1 => ?_) (fun h1 => ?_) | refine IfB.mk (fun h1 => ?_) (fun h1 => ?_))
  · rw [show nextF c r = ⟨r.step + 1, r.off + sz c r.step, r.live.filter (covF (r.off + sz c r.step) (2 * sz c r.step)), r.most, r.asked, r.why⟩ by unfold nextF; rw [if_pos h1]]
    (refine gw ?_; exact RetN.fz ⟨[true], [], rfl, rfl, rfl⟩)
  · rw [show nextF c r = ⟨r.step + 1, r.off, r.live.filter (covF r.off (2 * sz c r.step)), r.most, r.asked, r.why⟩ by unfold nextF; rw [if_neg h1]]
    (refine gw ?_; exact RetN.fz ⟨[true], [], rfl, rfl, rfl⟩)
theorem over1_told (x : Sp) (hx : oneB x = true) (y n : Int) (hn : 0 ≤ y ∧ y ≤ 1099511627776 ∧ 0 ≤ n ∧ n ≤ 1099511627776) : Told P T game_Told_1 [] [eSp x, .eptr (i64 y) 0, .eptr (i64 n) 0] (.bool (overB x ⟨y, n⟩)) [] := by
  have h1 := (oneB_iff _).1 hx
  refine told_of_ev (fn := game_Told_1_fn) tabOk mixed (by kernel_rfl) (by kernel_rfl) (by kernel_rfl) (by kernel_rfl) ?_
  repeat' ((conv => whnf); first | (refine Sure.mk (by kernel_rfl) ?_) | (refine IfB.tt rfl ?_) | (refine IfB.ff rfl ?_) | (refine IfB.tt ?_ ?_; (focus (simp <;> fail))) | (refine IfB.ff ?_ ?_; (focus (simp <;> fail))) | (refine fits (wrap64 ?_ ?_) ?_; (focus omega); (focus omega)) | (refine fits (wrapU64 ?_ ?_) ?_; (focus omega); (focus omega)) | (refine Need.mk ?_ ?_; (focus omega)) | (refine InB.mk ?_ ?_ ?_; (focus omega); (focus omega)) | (refine IfB.dec (fun h => ?_) (fun h => ?_)) | (refine IfB.eq (fun h => ?_) (fun h => ?_)) | (refine IfB.ne (fun h => ?_) (fun h => ?_)))
  all_goals (refine gw ?_; refine RetN.mk ⟨[], rfl, ?_, rfl⟩)
  all_goals ((try (conv => lhs; whnf)); (try simp [overB, *]); (try omega))
theorem findIdx_some {p : Sp → Bool} {l : List Sp} {i : Nat} (hi : i < l.length) (h : ∀ j (h : j < l.length), j < i → p l[j] = false) (h2 : p l[i] = true) : l.any p = true ∧ l.findIdx p = i := by
  refine ⟨List.any_eq_true.2 ⟨_, List.getElem_mem hi, h2⟩, ?_⟩
  rw [List.findIdx_eq hi]
  exact ⟨h2, fun j hj => by rw [h j (by omega) hj]⟩
theorem indexFunc_told (l : List Sp) (hl : l.length ≤ 1000000) (f : Nat) (y n : Int) (p : Sp → Bool) (hp : ∀ x ∈ l, Told P T f [] [eSp x, .eptr (i64 y) 0, .eptr (i64 n) 0] (.bool (p x)) []) : Told P T slices_IndexFunc_api_Span_api_Span [] [lS l, .fn f [.eptr (i64 y) 0, .eptr (i64 n) 0]] (i64 (if l.any p = true then ((l.findIdx p : Nat) : Int) else -1)) [] := by
  have hml : (l.map eSp).length = l.length := by simp
  refine told_of_ev (fn := slices_IndexFunc_api_Span_api_Span_fn) tabOk mixed (by kernel_rfl) (by kernel_rfl) (by kernel_rfl) (by kernel_rfl) ?_
  (refine gw ?_; refine LoopN.mk ⟨[0,1,7,8], fun vs L => ∃ i : Nat, vs = [lS l, .fn f [.eptr (i64 y) 0, .eptr (i64 n) 0], i64 (l.map eSp).length, i64 i] ∧ L = [] ∧ i ≤ l.length ∧ ∀ j (h : j < l.length), j < i → p l[j] = false, fun vs L => match vs with | [_, _, _, .int _ i] => l.length - i.toNat | _ => 0, [], [], rfl, ⟨0, rfl, rfl, by omega, fun j _ h => by omega⟩, ?_⟩)
  rintro vs L ⟨i, rfl, rfl, hi, hn⟩
  (refine gw ?_; first | refine IfB.dec (fun h1 => ?_) (fun h1 => ?_) | refine IfB.eq (fun h1 => ?_) (fun h1 => ?_) | refine IfB.ne (fun h1 => ?_) (fun h1 => ?_) | refine IfB.mk (fun h1 => ?_) (fun h1 => ?_))
  · have hlt : i < l.length := by omega
    (refine gw ?_; refine idx_map (hlt) ?_)
    (refine gw ?_; refine Choice.mk ⟨false, Choice.mk ⟨true, _, _, hp _ (List.getElem_mem hlt), ?_⟩⟩)
    cases h2 : p l[i] with
    | true =>
      obtain ⟨e1, e2⟩ := findIdx_some hlt hn h2
      rw [e1, e2]
      (refine gw ?_; exact RetN.mk ⟨[], rfl, rfl, rfl⟩)
    | false =>
      (refine gw ?_; refine ⟨[], [], rfl, ⟨i + 1, rfl, rfl, hlt, fun j h hj => ?_⟩, (by omega : l.length - ((i : Int) + 1).toNat < l.length - (i : Int).toNat)⟩)
      rcases Nat.lt_or_ge j i with h' | h'
      · exact hn j h h'
      · have : j = i := by omega
        subst this; exact h2
  · have e : i = l.length := by omega
    subst e
    have : l.any p = false := by
      rw [List.any_eq_false]
      intro x hx
      obtain ⟨j, hj, rfl⟩ := List.getElem_of_mem hx
      rw [hn j hj hj]; simp
    rw [this]
    (refine gw ?_; exact RetN.mk ⟨[], rfl, rfl, rfl⟩)
theorem containsFunc_told (l : List Sp) (hl : l.length ≤ 1000000) (f : Nat) (y n : Int) (p : Sp → Bool) (hp : ∀ x ∈ l, Told P T f [] [eSp x, .eptr (i64 y) 0, .eptr (i64 n) 0] (.bool (p x)) []) : Told P T slices_ContainsFunc_api_Span_api_Span [] [lS l, .fn f [.eptr (i64 y) 0, .eptr (i64 n) 0]] (.bool (l.any p)) [] := by
  refine told_of_ev (fn := slices_ContainsFunc_api_Span_api_Span_fn) tabOk mixed (by kernel_rfl) (by kernel_rfl) (by kernel_rfl) (by kernel_rfl) ?_
  (refine gw ?_; refine Choice.mk ⟨false, Choice.mk ⟨true, _, _, indexFunc_told l hl f y n p hp, ?_⟩⟩)
  (refine gw ?_; refine RetN.mk ⟨[], rfl, ?_, rfl⟩)
  cases h : l.any p
  · rfl
  · show AV.bool (decide (((l.findIdx p : Nat) : Int) ≥ 0)) = _
    simp
end Go.Ev.W
