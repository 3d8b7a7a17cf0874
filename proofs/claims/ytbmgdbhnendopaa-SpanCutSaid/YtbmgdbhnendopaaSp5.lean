/- Words and lemmas for the law s of this seat (a part of its proof). -/
import Derived.Test.YtbmgdbhnendopaaSp4
import Derived.Test.YtbmgdbhnendopaaPk
set_option linter.unusedVariables false
set_option linter.unusedSimpArgs false
namespace Go.Ev.W
open Go.Ev Go.Ev.N

/-- Pieces that lie apart, rising. -/
def Apart (l : List Sp) : Prop := (∀ x ∈ l, oneB x = true) ∧ l.Pairwise fun x y => x.a + x.n ≤ y.a
theorem oneB_iff (x : Sp) : oneB x = true ↔ 1 ≤ x.n ∧ x.n ≤ 1099511627776 ∧ 0 ≤ x.a ∧ x.a ≤ 1099511627776 - x.n := by simp [oneB]
theorem may_iff : ∀ {l : List Sp} {e : Int}, mayFrom e l = true ↔ Apart l ∧ ∀ x ∈ l, e ≤ x.a
  | [], e => by simp [mayFrom, Apart]
  | x :: l, e => by
    simp only [mayFrom, Bool.and_eq_true, decide_eq_true_eq]
    rw [may_iff (l := l)]
    unfold Apart
    simp only [List.mem_cons, List.pairwise_cons, forall_eq_or_imp]
    constructor
    · rintro ⟨⟨h1, h2⟩, ⟨h3, h4⟩, h5⟩
      have := (oneB_iff x).1 h1
      exact ⟨⟨⟨h1, h3⟩, h5, h4⟩, h2, fun y hy => by have := h5 y hy; omega⟩
    · rintro ⟨⟨⟨h1, h3⟩, h5, h4⟩, h2, h6⟩
      exact ⟨⟨h1, h2⟩, ⟨h3, h4⟩, h5⟩
theorem may0_iff {l : List Sp} : mayFrom 0 l = true ↔ Apart l := by
  rw [may_iff]
  exact ⟨fun h => h.1, fun h => ⟨h, fun x hx => by have := (oneB_iff x).1 (h.1 x hx); omega⟩⟩
/-- A list and a place: those that begin below, and the others. -/
theorem low_split (y : Int) : ∀ (l : List Sp), (l.Pairwise fun x y => x.a + x.n ≤ y.a) → (∀ x ∈ l, 1 ≤ x.n) → ∃ l1 l2, l = l1 ++ l2 ∧ lowS y l = l1.length ∧ (∀ x ∈ l1, x.a < y) ∧ ∀ x ∈ l2, y ≤ x.a
  | [], _, _ => ⟨[], [], rfl, rfl, by simp, by simp⟩
  | x :: l, hp, hn => by
    rw [List.pairwise_cons] at hp
    by_cases h : x.a < y
    · obtain ⟨l1, l2, rfl, e, h1, h2⟩ := low_split y l hp.2 fun z hz => hn z (by simp [hz])
      exact ⟨x :: l1, l2, rfl, by simp [lowS, h, e], by simpa [h] using h1, h2⟩
    · refine ⟨[], x :: l, rfl, by simp [lowS, h], by simp, fun z hz => ?_⟩
      have := hn x (by simp)
      rcases List.mem_cons.1 hz with rfl | hz
      · omega
      · have := hp.1 z hz; omega
theorem acc_low {s : Sp} : ∀ (l1 acc : List Sp), (∀ x ∈ l1, x.a < s.a) → l1.foldl (stepP s) (acc, false) = (acc ++ l1, false)
  | [], acc, _ => by simp
  | x :: l, acc, h => by
    have hx := h x (by simp)
    rw [List.foldl_cons]
    have e : stepP s (acc, false) x = (acc ++ [x], false) := by unfold stepP; rw [if_neg (by simp; omega)]
    rw [e, acc_low l _ fun z hz => h z (by simp [hz])]; simp
theorem acc_high {s : Sp} : ∀ (l acc : List Sp), l.foldl (stepP s) (acc, true) = (acc ++ l, true)
  | [], acc => by simp
  | x :: l, acc => by
    rw [List.foldl_cons]
    have e : stepP s (acc, true) x = (acc ++ [x], true) := by unfold stepP; rw [if_neg (by simp)]
    rw [e, acc_high l]; simp
theorem acc_all {s : Sp} {l1 l2 : List Sp} (h1 : ∀ x ∈ l1, x.a < s.a) (h2 : ∀ x ∈ l2, s.a < x.a) :
    (accP s (l1 ++ l2) (l1 ++ l2).length).1 ++ (if (accP s (l1 ++ l2) (l1 ++ l2).length).2 = true then [] else [s]) = l1 ++ s :: l2 := by
  unfold accP
  rw [List.take_length, List.foldl_append, acc_low l1 [] h1]
  cases l2 with
  | nil => simp
  | cons y l2 =>
    have := h2 y (by simp)
    rw [List.foldl_cons]
    have e : stepP s ([] ++ l1, false) y = (l1 ++ [s, y], true) := by unfold stepP; rw [if_pos ⟨rfl, by omega⟩]; simp
    rw [e, acc_high]; simp
theorem over_iff (x y : Sp) : overB x y = true ↔ x.a < y.a + y.n ∧ y.a < x.a + x.n := by simp [overB]
theorem last_of {l1 : List Sp} {k : Nat} (h : l1.length = k + 1) : ∃ m x, l1 = m ++ [x] ∧ m.length = k := by
  rcases List.eq_nil_or_concat l1 with rfl | ⟨m, x, rfl⟩
  · simp at h
  · exact ⟨m, x, by simp, by simpa using h⟩
theorem clash_iff {s : Sp} {l1 l2 : List Sp} (hs : oneB s = true) (ha : Apart (l1 ++ l2)) (hl : lowS s.a (l1 ++ l2) = l1.length) (h1 : ∀ x ∈ l1, x.a < s.a) (h2 : ∀ x ∈ l2, s.a ≤ x.a) :
    clashR (l1 ++ l2) s = (l1 ++ l2).any fun x => overB x s := by
  rw [oneB_iff] at hs
  obtain ⟨ho, hp⟩ := ha
  have hn : ∀ x ∈ l1 ++ l2, 1 ≤ x.n := fun x hx => ((oneB_iff x).1 (ho x hx)).1
  rw [List.pairwise_append] at hp
  rw [Bool.eq_iff_iff, List.any_eq_true]
  unfold clashR
  rw [hl]
  have second : (match (l1 ++ l2)[l1.length]? with | some x => decide (s.a + s.n > x.a) | none => false) = true ↔ ∃ x ∈ l2, overB x s = true := by
    rw [List.getElem?_append_right (Nat.le_refl _), Nat.sub_self]
    cases l2 with
    | nil => simp
    | cons y l2 =>
      simp only [List.getElem?_cons_zero, decide_eq_true_eq]
      have hy := h2 y (by simp)
      have hyn := hn y (by simp)
      constructor
      · intro h; exact ⟨y, by simp, (over_iff _ _).2 ⟨by omega, by omega⟩⟩
      · rintro ⟨z, hz, h⟩
        rw [over_iff] at h
        rcases List.mem_cons.1 hz with rfl | hz
        · omega
        · have := (List.pairwise_cons.1 hp.2.1).1 z hz; omega
  have first : (match l1.length with | 0 => false | k + 1 => match (l1 ++ l2)[k]? with | some x => decide (x.a + x.n > s.a) | none => false) = true ↔ ∃ x ∈ l1, overB x s = true := by
    cases hk : l1.length with
    | zero => have := List.eq_nil_of_length_eq_zero hk; subst this; simp
    | succ k =>
      obtain ⟨m, x, rfl, rfl⟩ := last_of hk
      have e : (m ++ [x] ++ l2)[m.length]? = some x := by simp
      simp only [e, decide_eq_true_eq]
      have hx := h1 x (by simp)
      constructor
      · intro h; exact ⟨x, by simp, (over_iff _ _).2 ⟨by omega, by omega⟩⟩
      · rintro ⟨z, hz, h⟩
        rw [over_iff] at h
        rcases List.mem_append.1 hz with hz | hz
        · have := (List.pairwise_append.1 hp.1).2.2 z hz x (by simp)
          omega
        · rw [List.mem_singleton] at hz; subst hz; omega
  rw [Bool.or_eq_true]
  refine Iff.trans (or_congr first second) ?_
  constructor
  · rintro (⟨x, h, h'⟩ | ⟨x, h, h'⟩)
    · exact ⟨x, by simp [h], h'⟩
    · exact ⟨x, by simp [h], h'⟩
  · rintro ⟨x, h, h'⟩
    rcases List.mem_append.1 h with h | h
    · exact .inl ⟨x, h, h'⟩
    · exact .inr ⟨x, h, h'⟩
/-- What a piece is put to: it lies apart, and among the others; or nothing is done. -/
theorem put_cases {l : List Sp} (ha : Apart l) (s : Sp) : putF l s = putR l s ∧ ((oneB s = true ∧ (l.any fun x => overB x s) = false ∧ ∃ l1 l2, l = l1 ++ l2 ∧ putR l s = (l1 ++ s :: l2, true) ∧ (∀ x ∈ l1, x.a + x.n ≤ s.a) ∧ (∀ x ∈ l2, s.a + s.n ≤ x.a)) ∨
    ((oneB s = false ∨ (l.any fun x => overB x s) = true) ∧ putR l s = (l, false))) := by
  have hall : (l.all fun x => !overB x s) = !(l.any fun x => overB x s) := by rw [List.not_any_eq_all_not]
  cases h1 : oneB s with
  | false => exact ⟨by simp [putF, putR, h1], .inr ⟨.inl rfl, by simp [putR, h1]⟩⟩
  | true =>
    have hn : ∀ x ∈ l, 1 ≤ x.n := fun x hx => ((oneB_iff x).1 (ha.1 x hx)).1
    obtain ⟨l1, l2, rfl, e, h2, h3⟩ := low_split s.a l ha.2 hn
    have hc := clash_iff h1 ha e h2 h3
    have hs := (oneB_iff s).1 h1
    cases h4 : ((l1 ++ l2).any fun x => overB x s) with
    | true =>
      rw [h4] at hc hall
      exact ⟨by unfold putF putR; rw [if_neg (by rw [hall]; simp), if_neg (by rw [hc]; simp)], .inr ⟨.inr rfl, by unfold putR; rw [if_neg (by rw [hc]; simp)]⟩⟩
    | false =>
      rw [h4] at hc hall
      have hno : ∀ x ∈ l1 ++ l2, ¬ (x.a < s.a + s.n ∧ s.a < x.a + x.n) := fun x hx h => by
        have := List.any_eq_false.1 h4 x hx
        exact this ((over_iff _ _).2 h)
      have hR : putR (l1 ++ l2) s = (l1 ++ s :: l2, true) := by
        unfold putR; rw [if_pos ⟨h1, hc⟩, e, List.take_left, List.drop_left]
      have g1 : ∀ x ∈ l1, x.a + x.n ≤ s.a := fun x hx => by have := hno x (by simp [hx]); have := h2 x hx; omega
      have g2 : ∀ x ∈ l2, s.a + s.n ≤ x.a := fun x hx => by have := hno x (by simp [hx]); have := h3 x hx; have := hn x (by simp [hx]); omega
      refine ⟨?_, .inl ⟨rfl, rfl, l1, l2, rfl, hR, g1, g2⟩⟩
      rw [hR]; unfold putF; rw [if_pos ⟨h1, by rw [hall]; rfl⟩, acc_all h2 fun x hx => by have := g2 x hx; omega]
theorem apart_put {l1 l2 : List Sp} {s : Sp} (ha : Apart (l1 ++ l2)) (hs : oneB s = true) (h1 : ∀ x ∈ l1, x.a + x.n ≤ s.a) (h2 : ∀ x ∈ l2, s.a + s.n ≤ x.a) : Apart (l1 ++ s :: l2) := by
  obtain ⟨ho, hp⟩ := ha
  rw [List.pairwise_append] at hp
  refine ⟨fun x hx => ?_, ?_⟩
  · simp only [List.mem_append, List.mem_cons] at hx
    rcases hx with h | rfl | h
    · exact ho x (by simp [h])
    · exact hs
    · exact ho x (by simp [h])
  · rw [List.pairwise_append, List.pairwise_cons]
    refine ⟨hp.1, ⟨h2, hp.2.1⟩, fun x hx y hy => ?_⟩
    rcases List.mem_cons.1 hy with rfl | hy
    · exact h1 x hx
    · exact hp.2.2 x hx y hy
theorem put_apart {l : List Sp} (ha : Apart l) (s : Sp) : Apart (putR l s).1 ∧ (putR l s).1.length ≤ l.length + 1 := by
  rcases (put_cases ha s).2 with ⟨h1, _, l1, l2, rfl, e, h2, h3⟩ | ⟨_, e⟩
  · rw [e]; exact ⟨apart_put ha h1 h2 h3, by simp; omega⟩
  · rw [e]; exact ⟨ha, by simp⟩
end Go.Ev.W

