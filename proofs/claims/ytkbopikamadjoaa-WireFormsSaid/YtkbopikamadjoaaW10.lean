/- Words and lemmas for the law s of this seat (a part of its proof). -/
import Derived.Test.YtkbopikamadjoaaW9
set_option linter.unusedVariables false
set_option linter.unusedSimpArgs false
namespace Go.Ev.W
open Go.Ev Go.Ev.N

theorem isB_take {bs : List Int} (h : IsB bs) (n : Nat) : IsB (bs.take n) := fun x hx => h x (List.mem_of_mem_take hx)
theorem isB_app {a b : List Int} (h : IsB a) (h' : IsB b) : IsB (a ++ b) := fun x hx => (List.mem_append.1 hx).elim (h x) (h' x)

theorem take_good : ∀ (n : Nat) (bs : List Int), bs.length ≤ n → IsB bs → ∀ o ∈ take bs, Good o ∧ IsO o := by
  intro n
  induction n with
  | zero =>
    intro bs hl _ o ho
    have : bs = [] := List.eq_nil_of_length_eq_zero (by omega)
    subst this; cases ho
  | succ n ih =>
    intro bs hl hb o ho
    cases bs with
    | nil => cases ho
    | cons b bs =>
      rw [take_cons] at ho
      simp only [List.length_cons] at hl
      split at ho
      · exact ih bs (by omega) hb.tail o ho
      · rename_i h0
        split at ho
        · rename_i o' m e
          rcases List.mem_cons.1 ho with rfl | ho
          · exact one_good hb.tail (by have := hb b (by simp); omega) e
          · exact ih _ (by simp; omega) (hb.tail.drop m) o ho
        · cases ho

theorem fillO_app : ∀ (fs : List UInt8) (bs : List Int) (o o' : O) (r x : List Int), fillO fs bs o = (o', some r) → fillO fs (bs ++ x) o = (o', some (r ++ x))
  | [], bs, o, o', r, x, h => by simp [fillO] at h ⊢; rw [h.1, h.2]; exact ⟨rfl, rfl⟩
  | f :: fs, [], o, o', r, x, h => by simp [fillO] at h
  | f :: fs, [_], o, o', r, x, h => by simp [fillO] at h
  | f :: fs, [_, _], o, o', r, x, h => by simp [fillO] at h
  | f :: fs, a :: b :: c :: bs, o, o', r, x, h => fillO_app fs bs _ o' r x h
theorem one_app {k : Int} {bs : List Int} {o : O} {n : Nat} (x : List Int) (h : one k bs = (o, n, true)) : one k (bs ++ x) = (o, n, true) := by
  unfold one at h ⊢
  generalize e : fillO (fieldsOf k) bs ⟨k, 0, 0, 0, 0, 0⟩ = q at h
  obtain ⟨o', r⟩ := q
  cases r with
  | none => simp at h
  | some r =>
    have hl := fillO_len _ _ _ _ _ e
    rw [fillO_app _ _ _ _ _ x e]
    simp only at h ⊢
    split at h
    · rename_i hk
      rw [if_pos hk]
      cases h
      simp only [List.length_append, Prod.mk.injEq, and_true, true_and]; omega
    · rename_i hk
      rw [if_neg hk]
      cases r with
      | nil => simp at h
      | cons b r =>
        cases h
        simp only [List.length_append, List.cons_append, Prod.mk.injEq, and_true, true_and, List.length_cons] at hl ⊢; omega

theorem Good.short {o : O} (h : Good o) {n : Nat} (hn : n < (putO o).length) : take ((putO o).take n) = [] := by
  obtain ⟨h1, h2⟩ := h.kind
  cases n with
  | zero => rfl
  | succ m =>
    have own := one_own o []
    rw [List.append_nil] at own
    have e : putO o = w8 o.k :: (((fieldsOf o.k).flatMap fun f => three (getO o f)) ++ (if o.k = 8 then [o.b] else [])) := rfl
    rw [e] at hn ⊢
    generalize (((fieldsOf o.k).flatMap fun f => three (getO o f)) ++ (if o.k = 8 then [o.b] else [])) = r at hn own ⊢
    rw [List.take_succ_cons, take_cons, if_neg (by rw [h1]; exact h2), h1]
    simp only [List.length_cons] at hn
    generalize e2 : one o.k (r.take m) = q
    obtain ⟨o', n', ok⟩ := q
    cases ok with
    | false => rfl
    | true =>
      have h3 := one_app (r.drop m) e2
      rw [List.take_append_drop, own] at h3
      have h4 := one_len o.k (r.take m)
      rw [e2] at h4
      simp only [Prod.mk.injEq, List.length_take] at h3 h4
      omega

theorem putAll_cut : ∀ {l : List O}, (∀ o ∈ l, Good o) → ∀ n, n < (putAll l).length → ∃ k, k < l.length ∧ take ((putAll l).take n) = l.take k
  | [], _, n, hn => by simp [putAll] at hn
  | o :: l, h, n, hn => by
    have ho := h o (by simp)
    rw [putAll_cons ho] at hn ⊢
    rcases Nat.lt_or_ge n (putO o).length with hlt | hge
    · rw [List.take_append_of_le_length (by omega)]
      exact ⟨0, by simp, ho.short hlt⟩
    · rw [List.length_append] at hn
      obtain ⟨k, hk, e⟩ := putAll_cut (l := l) (fun x hx => h x (List.mem_cons_of_mem _ hx)) (n - (putO o).length) (by omega)
      refine ⟨k + 1, by simp; omega, ?_⟩
      rw [List.take_append, List.take_of_length_le hge, ho.app, e, List.take_succ_cons]

theorem putO_pos (o : O) : 0 < (putO o).length := by
  show 0 < (w8 o.k :: _).length
  simp
theorem putAll_nil {l : List O} (h : ∀ o ∈ l, Good o) (e : (putAll l).length = 0) : l = [] := by
  cases l with
  | nil => rfl
  | cons o l =>
    rw [putAll_cons (h o (by simp)), List.length_append] at e
    have := putO_pos o
    omega
theorem putAll_app (l m : List O) : putAll (l ++ m) = putAll l ++ putAll m := by simp [putAll, List.flatMap_append]
theorem isB_putAll {l : List O} (h : ∀ o ∈ l, IsO o) : IsB (putAll l) := by
  intro b hb
  unfold putAll at hb
  obtain ⟨o, ho, hb⟩ := List.mem_flatMap.1 hb
  split at hb
  · exact isB_put (h o ho) b hb
  · cases hb
theorem putAll_len (l : List O) : (putAll l).length ≤ 8 * l.length := by
  induction l with
  | nil => simp [putAll]
  | cons o l ih =>
    have : putAll (o :: l) = (if take (putO o) = [o] then putO o else []) ++ putAll l := by simp [putAll]
    rw [this, List.length_append, List.length_cons]
    have := put_len o
    split
    · omega
    · simp; omega
theorem take_len : ∀ (n : Nat) (bs : List Int), bs.length ≤ n → (take bs).length ≤ bs.length := by
  intro n
  induction n with
  | zero =>
    intro bs hl
    have : bs = [] := List.eq_nil_of_length_eq_zero (by omega)
    subst this; exact Nat.le_refl _
  | succ n ih =>
    intro bs hl
    cases bs with
    | nil => exact Nat.le_refl _
    | cons b bs =>
      rw [take_cons]
      simp only [List.length_cons] at hl ⊢
      split
      · have := ih bs (by omega); omega
      · split
        · rename_i o m e
          have := ih (bs.drop m) (by simp; omega)
          simp at this ⊢; omega
        · simp

/-- A parameter of bytes. -/
theorem shp_bytes {x : AV} (h : Shp T 8 ts_uint8 x) : ∃ bs, x = .lst t_uint8 (encB bs) ∧ IsB bs ∧ bs.length ≤ maxLen := by
  obtain ⟨es, rfl, hl, he⟩ := h
  have : ∃ bs, es = encB bs ∧ IsB bs := by
    clear hl
    induction es with
    | nil => exact ⟨[], rfl, fun b hb => by cases hb⟩
    | cons y es ih =>
      obtain ⟨bs, rfl, hb⟩ := ih fun z hz => he z (by simp [hz])
      obtain ⟨n, rfl, hn⟩ := he y (by simp)
      refine ⟨n :: bs, rfl, fun b hb' => ?_⟩
      rcases List.mem_cons.1 hb' with rfl | hb'
      · have h2 : IntKind.u8.min ≤ b ∧ b ≤ IntKind.u8.max := by simpa [Lit.wf] using hn
        have e1 : IntKind.u8.min = 0 := by decide
        have e2 : IntKind.u8.max = 255 := by decide
        rw [e1, e2] at h2; omega
      · exact hb b hb'
  obtain ⟨bs, rfl, hb⟩ := this
  exact ⟨bs, rfl, hb, by simpa [encB] using hl⟩
end Go.Ev.W
