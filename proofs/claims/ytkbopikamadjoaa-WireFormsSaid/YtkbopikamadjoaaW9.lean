/- Words and lemmas for the law s of this seat (a part of its proof). -/
import Derived.Test.YtkbopikamadjoaaW8
set_option linter.unusedVariables false
set_option linter.unusedSimpArgs false
namespace Go.Ev.W
open Go.Ev Go.Ev.N

theorem w8_mod (v : Int) : w8 v = v % 256 := by unfold w8; rw [IntKind.wrap_u8]
theorem three_eq (v : Int) : three v = [v / 65536 % 256, v / 256 % 256, v % 256] := by
  have e1 : (2 : Int) ^ min (Int.toNat 16) IntKind.i64.bits = 65536 := by decide
  have e2 : (2 : Int) ^ min (Int.toNat 8) IntKind.i64.bits = 256 := by decide
  unfold three
  rw [e1, e2, w8_mod, w8_mod, w8_mod, Int.fdiv_eq_ediv_of_nonneg _ (by omega), Int.fdiv_eq_ediv_of_nonneg _ (by omega)]
theorem rd3_split {a b c : Int} (ha : 0 ≤ a ∧ a < 256) (hb : 0 ≤ b ∧ b < 256) (hc : 0 ≤ c ∧ c < 256) : three (rd3 a b c) = [a, b, c] := by
  rw [three_eq]
  unfold rd3
  congr 1
  · omega
  · congr 1
    · omega
    · congr 1; omega

/-- A call that its own bytes say. -/
def Good (o : O) : Prop := take (putO o) = [o]

theorem kinds {k : Int} (h : ¬ k % 11 = 0) : k % 11 = 1 ∨ k % 11 = 2 ∨ k % 11 = 3 ∨ k % 11 = 4 ∨ k % 11 = 5 ∨ k % 11 = 6 ∨ k % 11 = 7 ∨ k % 11 = 8 ∨ k % 11 = 9 ∨ k % 11 = 10 := by omega

theorem fillO_k : ∀ (fs : List UInt8) (bs : List Int) (o : O), (fillO fs bs o).1.k = o.k
  | [], bs, o => rfl
  | f :: fs, [], o => rfl
  | f :: fs, [_], o => rfl
  | f :: fs, [_, _], o => rfl
  | f :: fs, _ :: _ :: _ :: bs, o => by
    simp only [fillO]
    rw [fillO_k fs bs]
    unfold setO
    repeat' split
    all_goals rfl
theorem one_k (k : Int) (bs : List Int) : (one k bs).1.k = k := by
  have h := fillO_k (fieldsOf k) bs ⟨k, 0, 0, 0, 0, 0⟩
  unfold one
  split
  · rename_i o e; rw [e] at h; exact h
  · rename_i o r e
    rw [e] at h
    split
    · exact h
    · split <;> exact h

def setAll (v : UInt8 → Int) : List UInt8 → O → O
  | [], o => o
  | f :: fs, o => setAll v fs (setO o f (rd3 (v f / 65536 % 256) (v f / 256 % 256) (v f % 256)))
theorem fillO_flat (v : UInt8 → Int) : ∀ (fs : List UInt8) (r : List Int) (o : O), fillO fs ((fs.flatMap fun f => three (v f)) ++ r) o = (setAll v fs o, some r)
  | [], r, o => rfl
  | f :: fs, r, o => by
    rw [List.flatMap_cons, three_eq]
    simp only [List.cons_append, List.nil_append, fillO, List.append_assoc]
    exact fillO_flat v fs r _

/-- What a call's own bytes say, whatever is behind. -/
theorem one_own (o : O) (r : List Int) : one o.k (((fieldsOf o.k).flatMap fun f => three (getO o f)) ++ ((if o.k = 8 then [o.b] else []) ++ r)) =
    ((if o.k = 8 then { setAll (getO o) (fieldsOf o.k) ⟨o.k, 0, 0, 0, 0, 0⟩ with b := o.b } else setAll (getO o) (fieldsOf o.k) ⟨o.k, 0, 0, 0, 0, 0⟩),
      (((fieldsOf o.k).flatMap fun f => three (getO o f)) ++ (if o.k = 8 then [o.b] else [])).length, true) := by
  unfold one
  rw [fillO_flat]
  by_cases h8 : o.k = 8
  · simp only [h8, if_true, ne_eq, not_true, if_false, List.cons_append, List.nil_append, List.length_append, List.length_cons, List.length_nil]
    congr 2; omega
  · simp only [h8, if_false, ne_eq, not_false_iff, if_true, List.nil_append, List.append_nil, List.length_append]
    congr 2; omega

theorem take_own {o : O} (hk : w8 o.k % 11 = o.k) (h0 : o.k ≠ 0) (r : List Int) : ∃ o', take (putO o ++ r) = o' :: take r ∧ take (putO o) = [o'] := by
  have step : ∀ r, take (putO o ++ r) = (one o.k (((fieldsOf o.k).flatMap fun f => three (getO o f)) ++ ((if o.k = 8 then [o.b] else []) ++ r))).1 :: take r := by
    intro r
    unfold putO
    rw [List.cons_append, List.cons_append, take_cons, if_neg (by rw [hk]; exact h0), hk, List.append_assoc, one_own]
    simp only
    rw [← List.append_assoc, List.drop_left]
  refine ⟨(one o.k (((fieldsOf o.k).flatMap fun f => three (getO o f)) ++ ((if o.k = 8 then [o.b] else []) ++ r))).1, step r, ?_⟩
  have := step []
  rw [List.append_nil] at this
  rw [this, one_own, one_own]
  rfl

theorem fieldsOf_none {k : Int} (h1 : k < 1 ∨ 8 < k) : fieldsOf k = [] := by
  unfold fieldsOf
  repeat' split
  all_goals first
    | rfl
    | omega

theorem Good.kind {o : O} (h : Good o) : w8 o.k % 11 = o.k ∧ o.k ≠ 0 := by
  unfold Good putO at h
  rw [List.cons_append, take_cons] at h
  split at h
  · rename_i h0
    rw [w8_mod] at h0
    have hr : o.k < 1 ∨ 8 < o.k := by
      rcases Classical.em (1 ≤ o.k ∧ o.k ≤ 8) with hc | hc
      · have e : o.k % 256 = o.k := by omega
        rw [e] at h0; omega
      · omega
    rw [fieldsOf_none hr, if_neg (by omega)] at h
    simp [take_nil] at h
  · rename_i h0
    have hk := one_k (w8 o.k % 11) (((fieldsOf o.k).flatMap fun f => three (getO o f)) ++ (if o.k = 8 then [o.b] else []))
    generalize one (w8 o.k % 11) (((fieldsOf o.k).flatMap fun f => three (getO o f)) ++ (if o.k = 8 then [o.b] else [])) = q at h hk
    obtain ⟨o', n, ok⟩ := q
    cases ok with
    | false => simp at h
    | true =>
      simp only [List.cons.injEq] at h
      obtain ⟨rfl, _⟩ := h
      simp only at hk
      exact ⟨hk.symm, by rw [hk]; exact h0⟩

theorem Good.app {o : O} (h : Good o) (r : List Int) : take (putO o ++ r) = o :: take r := by
  obtain ⟨h1, h2⟩ := h.kind
  obtain ⟨o', h3, h4⟩ := take_own h1 h2 r
  unfold Good at h
  rw [h] at h4
  cases h4
  exact h3
theorem putAll_good {l : List O} (h : ∀ o ∈ l, Good o) (r : List Int) : take (putAll l ++ r) = l ++ take r := by
  induction l with
  | nil => rfl
  | cons o l ih =>
    have ho : take (putO o) = [o] := h o (by simp)
    have : putAll (o :: l) = putO o ++ putAll l := by
      unfold putAll; rw [List.flatMap_cons, if_pos ho]
    rw [this, List.append_assoc, Good.app ho, ih fun x hx => h x (by simp [hx])]
    rfl
theorem putAll_cons {o : O} {l : List O} (h : Good o) : putAll (o :: l) = putO o ++ putAll l := by
  unfold putAll; rw [List.flatMap_cons, if_pos (show take (putO o) = [o] from h)]

/-- What bytes say is said by a front of them. -/
theorem one_good {k : Int} {bs : List Int} (hb : IsB bs) (hk : 1 ≤ k ∧ k ≤ 10) {o : O} {n : Nat} (h : one k bs = (o, n, true)) : Good o ∧ IsO o := by
  have hw : w8 k = k := by rw [w8_mod]; omega
  have hm : k % 11 = k := by omega
  have B : ∀ x ∈ bs, 0 ≤ x ∧ x < 256 := hb
  have fin : ∀ (cs : List Int), putO o = k :: cs → one k cs = (o, cs.length, true) → Good o := by
    intro cs h1 h2
    unfold Good
    rw [h1, take_cons, if_neg (by omega), hm, h2]
    simp [take_nil]
  have : k = 1 ∨ k = 2 ∨ k = 3 ∨ k = 4 ∨ k = 5 ∨ k = 6 ∨ k = 7 ∨ k = 8 ∨ k = 9 ∨ k = 10 := by omega
  rcases this with rfl | rfl | rfl | rfl | rfl | rfl | rfl | rfl | rfl | rfl
  · match bs, B, h with
    | a :: b :: c :: r, B, h =>
      cases h
      have t := rd3_split (B a (by simp)) (B b (by simp)) (B c (by simp))
      exact ⟨fin [a, b, c] (by show w8 1 :: (three (rd3 a b c) ++ []) ++ [] = _; rw [t, hw]; rfl) rfl, show (0 : Int) ≤ 0 ∧ (0 : Int) < 256 by decide⟩
  · match bs, B, h with
    | a :: b :: c :: d :: e :: f :: r, B, h =>
      cases h
      have t := rd3_split (B a (by simp)) (B b (by simp)) (B c (by simp))
      have u := rd3_split (B d (by simp)) (B e (by simp)) (B f (by simp))
      exact ⟨fin [a, b, c, d, e, f] (by show w8 2 :: (three (rd3 a b c) ++ (three (rd3 d e f) ++ [])) ++ [] = _; rw [t, u, hw]; rfl) rfl, show (0 : Int) ≤ 0 ∧ (0 : Int) < 256 by decide⟩
  · match bs, B, h with
    | a :: b :: c :: d :: e :: f :: r, B, h =>
      cases h
      have t := rd3_split (B a (by simp)) (B b (by simp)) (B c (by simp))
      have u := rd3_split (B d (by simp)) (B e (by simp)) (B f (by simp))
      exact ⟨fin [a, b, c, d, e, f] (by show w8 3 :: (three (rd3 a b c) ++ (three (rd3 d e f) ++ [])) ++ [] = _; rw [t, u, hw]; rfl) rfl, show (0 : Int) ≤ 0 ∧ (0 : Int) < 256 by decide⟩
  · match bs, B, h with
    | a :: b :: c :: d :: e :: f :: r, B, h =>
      cases h
      have t := rd3_split (B a (by simp)) (B b (by simp)) (B c (by simp))
      have u := rd3_split (B d (by simp)) (B e (by simp)) (B f (by simp))
      exact ⟨fin [a, b, c, d, e, f] (by show w8 4 :: (three (rd3 a b c) ++ (three (rd3 d e f) ++ [])) ++ [] = _; rw [t, u, hw]; rfl) rfl, show (0 : Int) ≤ 0 ∧ (0 : Int) < 256 by decide⟩
  · match bs, B, h with
    | a :: b :: c :: r, B, h =>
      cases h
      have t := rd3_split (B a (by simp)) (B b (by simp)) (B c (by simp))
      exact ⟨fin [a, b, c] (by show w8 5 :: (three (rd3 a b c) ++ []) ++ [] = _; rw [t, hw]; rfl) rfl, show (0 : Int) ≤ 0 ∧ (0 : Int) < 256 by decide⟩
  · match bs, B, h with
    | a :: b :: c :: r, B, h =>
      cases h
      have t := rd3_split (B a (by simp)) (B b (by simp)) (B c (by simp))
      exact ⟨fin [a, b, c] (by show w8 6 :: (three (rd3 a b c) ++ []) ++ [] = _; rw [t, hw]; rfl) rfl, show (0 : Int) ≤ 0 ∧ (0 : Int) < 256 by decide⟩
  · match bs, B, h with
    | a :: b :: c :: d :: e :: f :: r, B, h =>
      cases h
      have t := rd3_split (B a (by simp)) (B b (by simp)) (B c (by simp))
      have u := rd3_split (B d (by simp)) (B e (by simp)) (B f (by simp))
      exact ⟨fin [a, b, c, d, e, f] (by show w8 7 :: (three (rd3 a b c) ++ (three (rd3 d e f) ++ [])) ++ [] = _; rw [t, u, hw]; rfl) rfl, show (0 : Int) ≤ 0 ∧ (0 : Int) < 256 by decide⟩
  · match bs, B, h with
    | a :: b :: c :: d :: e :: f :: g :: r, B, h =>
      cases h
      have t := rd3_split (B a (by simp)) (B b (by simp)) (B c (by simp))
      have u := rd3_split (B d (by simp)) (B e (by simp)) (B f (by simp))
      exact ⟨fin [a, b, c, d, e, f, g] (by show w8 8 :: (three (rd3 a b c) ++ (three (rd3 d e f) ++ [])) ++ [g] = _; rw [t, u, hw]; rfl) rfl, show 0 ≤ g ∧ g < 256 from B g (by simp)⟩
  · cases h
    exact ⟨fin [] (by show w8 9 :: [] ++ [] = _; rw [hw]; rfl) rfl, show (0 : Int) ≤ 0 ∧ (0 : Int) < 256 by decide⟩
  · cases h
    exact ⟨fin [] (by show w8 10 :: [] ++ [] = _; rw [hw]; rfl) rfl, show (0 : Int) ≤ 0 ∧ (0 : Int) < 256 by decide⟩
end Go.Ev.W
