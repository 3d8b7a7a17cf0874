/- A region in the order of its text. -/
import Derived.Test.YtdnelcadmoeeiaaGreatEvX2
set_option linter.unusedVariables false
set_option linter.unusedSimpArgs false
namespace Go.Ev

/-- All that holds of a state. -/
structure Inv (T : Tab) (Z : Base) (S : Nat → Prop) (h : AHeap) (ρ : Rho) (w : World) (s : St) (nx : Nat) (a : Act) : Prop where
  H : HR T Z S h ρ w
  free : ∀ b, nx ≤ b → h b = .none
  tm : TM T S w h ρ s a

section
variable {P : Program} {T : Tab} {Z : Base} {S : Nat → Prop} {w : World} {h : AHeap} {ρ : Rho} {nx : Nat}
  {a : Act} {s : St} {Q : Exit → Act → World → Prop}

theorem put_size (a : Act) (d : Option Tmp) (v : Value) : (a.put d v).tmps.size = a.tmps.size := by cases d <;> simp [Act.put]
theorem put_defers (a : Act) (d : Option Tmp) (v : Value) : (a.put d v).defers = a.defers := by cases d <;> rfl

theorem TM.put {S' : Nat → Prop} {w' : World} {h' : AHeap} {ρ' : Rho} (tm : TM T S w h ρ s a) (g : Goes T S w h ρ S' w' h' ρ') {d : Option Nat} {v : AV} {u : Value} (hd : ∀ x, d = some x → x < a.tmps.size)
    (hv : VLt T S' w' h' ρ' v u) : TM T S' w' h' ρ' (aput s d v) (a.put d u) := by
  intro t
  cases d with
  | none => exact g.vlt (tm t)
  | some x =>
    have hx := hd x rfl
    by_cases ht : t = x
    · subst ht
      simp only [aput, aset, beq_self, cond_true, Act.put]
      rw [show (a.tmps.setIfInBounds t u).getD t undef = u by simp [Array.getD, hx]]
      exact hv
    · simp only [aput, aset, beq_ne ht, cond_false, Act.put]
      have := g.vlt (tm t)
      rw [show (a.tmps.setIfInBounds x u).getD t undef = a.tmps.getD t undef by
        simp only [Array.getD_eq_getD_getElem?]
        rw [Array.getElem?_setIfInBounds_ne (Ne.symm ht)]]
      exact this

theorem okUp_lt {nx nx' : Nat} {us : Ups} (h1 : okUp nx us nx' = true) : nx ≤ nx' ∧ ∀ p ∈ us, p.1 < nx' := by
  simp only [okUp, Bool.and_eq_true] at h1
  refine ⟨Nat.le_of_ble_eq_true h1.1, fun p hp => ?_⟩
  have := List.all_eq_true.1 h1.2 p hp
  exact Nat.le_of_ble_eq_true this

theorem free_after (free : ∀ b, nx ≤ b → h b = .none) {us : Ups} {nx' : Nat} (h1 : okUp nx us nx' = true) : ∀ b, nx' ≤ b → happ h us b = .none := by
  intro b hb
  obtain ⟨h2, h3⟩ := okUp_lt h1
  rw [happ_none fun p hp e => ?_]
  · exact free b (Nat.le_trans h2 hb)
  · have := h3 p hp; omega

theorem Gate.both {b : Bool} {R : Prop} (h : Gate b R) : b = true ∧ R := by
  cases b with
  | true => exact ⟨rfl, h⟩
  | false => exact h.p.elim

theorem tm_bool (tm : TM T S w h ρ s a) {d : Nat} {b : Bool} (hs : s d = .bool b) : a.tmps[d]? = some (.bool b) := by
  have h1 := tm d
  rw [hs] at h1
  have h2 := vl_bool h1
  rw [Array.getD_eq_getD_getElem?] at h2
  cases hq : a.tmps[d]? with
  | none => rw [hq] at h2; cases h2
  | some v => rw [hq] at h2; simp at h2; rw [h2]
theorem tm_skp (tm : TM T S w h ρ s a) {d : Nat} (hs : s d = .skp) (b : Bool) : a.tmps[d]? ≠ some (.bool b) := by
  have h1 := tm d
  rw [hs] at h1
  have h2 := vl_skp h1
  rw [Array.getD_eq_getD_getElem?] at h2
  intro hq
  rw [hq] at h2; cases h2

theorem yielded_bool {ops : Array Oper} (tm : TM T S w h ρ s a) {j d : Nat} {b : Bool} (hg : guardOf ops.toList j = some d) (hs : s d = .bool b) : yielded ops a.tmps j = some b := by
  unfold yielded
  have : (ops[j]?).bind (·.dst) = some d := by
    unfold guardOf at hg
    rw [Array.getElem?_toList] at hg
    cases hq : ops[j]? with
    | none => rw [hq] at hg; cases hg
    | some o => rw [hq] at hg; exact hg
  rw [this, Option.bind_some, tm_bool tm hs]
theorem yielded_skp {ops : Array Oper} (tm : TM T S w h ρ s a) {j d : Nat} (hg : guardOf ops.toList j = some d) (hs : s d = .skp) : yielded ops a.tmps j = none := by
  unfold yielded
  have : (ops[j]?).bind (·.dst) = some d := by
    unfold guardOf at hg
    rw [Array.getElem?_toList] at hg
    cases hq : ops[j]? with
    | none => rw [hq] at hg; cases hg
    | some o => rw [hq] at hg; exact hg
  rw [this, Option.bind_some]
  cases hq : a.tmps[d]? with
  | none => rfl
  | some v =>
    cases v with
    | bool b => exact absurd hq (tm_skp tm hs b)
    | _ => rfl

theorem aset_self {s : St} {d : Nat} {v : AV} (hs : s d = v) : aset s d v = s := by
  funext j
  by_cases hj : j = d
  · subst hj; simp [aset, hs]
  · simp [aset, beq_ne hj]

theorem evOps_ok (hT : TabOk P T) {ops : Array Oper} {K : St → AHeap → Nat → Prop} : ∀ (rest : List Oper) (s : St) (h : AHeap) (nx : Nat) (a : Act) (w : World) (S : Nat → Prop) (ρ : Rho),
    (∀ o ∈ rest, ∀ d, o.dst = some d → d < a.tmps.size) → Inv T Z S h ρ w s nx a → evOps (Told P T) T ops.toList rest s h nx K →
    (∀ s' h' nx' a' w' S' ρ', K s' h' nx' → Inv T Z S' h' ρ' w' s' nx' a' → Goes T S w h ρ S' w' h' ρ' → a'.tmps.size = a.tmps.size → a'.defers = a.defers → Q .normal a' w') → wpList P ops Q rest a w
  | [], s, h, nx, a, w, S, ρ, _, I, hr, post => post s h nx a w S ρ hr I (Goes.refl ..) rfl rfl
  | o :: rest, s, h, nx, a, w, S, ρ, hd, I, hr, post => by
    have hd0 : ∀ d, o.dst = some d → d < a.tmps.size := hd o (by simp)
    -- one that is done
    have run : ∀ {R : Bool → Prop}, evOpN (Told P T) T o.op o.type s h nx (fun v us nx' => forceR v us nx' fun v us nx' => Gate (okUp nx us nx') (evOps (Told P T) T ops.toList rest (aput s o.dst v) (happ h us) nx' K)) →
        o.wp P a w (wpList P ops Q rest) Q := by
      intro _ hr
      refine evOpN_ok hT I.H I.free I.tm hr ?_
      intro v us nx' u w' S' ρ' hK H' G' hv
      rw [forceR_eq] at hK
      obtain ⟨g1, g2⟩ := hK.both
      have tm' := I.tm.put G' hd0 hv
      refine evOps_ok hT rest _ _ _ _ _ S' ρ' (fun o ho d e => by rw [put_size]; exact hd o (by simp [ho]) d e) ⟨H', free_after I.free g1, tm'⟩ g2 ?_
      intro s2 h2 nx2 a2 w2 S2 ρ2 k2 I2 G2 e1 e2
      exact post s2 h2 nx2 a2 w2 S2 ρ2 k2 I2 (G'.trans G2) (e1.trans (put_size ..)) (e2.trans (put_defers ..))
    -- one that is not
    have skip : evOps (Told P T) T ops.toList rest (aput s o.dst .skp) h nx K → wpList P ops Q rest (a.put o.dst undef) w := by
      intro hr
      have tm' := I.tm.put (Goes.refl ..) hd0 (v := .skp) (u := undef) VF.skp
      refine evOps_ok hT rest _ _ _ _ _ S ρ (fun o ho d e => by rw [put_size]; exact hd o (by simp [ho]) d e) ⟨I.H, I.free, tm'⟩ hr ?_
      intro s2 h2 nx2 a2 w2 S2 ρ2 k2 I2 G2 e1 e2
      exact post s2 h2 nx2 a2 w2 S2 ρ2 k2 I2 G2 (e1.trans (put_size ..)) (e2.trans (put_defers ..))
    simp only [wpList]
    rw [evOps_cons] at hr
    cases hg : o.guard with
    | none =>
      rw [hg] at hr
      rw [if_pos (by unfold Region.wanted; rw [hg])]
      exact .inl (run (R := fun _ => True) hr)
    | some p =>
      obtain ⟨j, want⟩ := p
      rw [hg] at hr
      simp only at hr
      cases hj : guardOf ops.toList j with
      | none => rw [hj] at hr; exact hr.p.elim
      | some d =>
        rw [hj] at hr
        simp only at hr
        cases hs : s d with
        | bool b =>
          rw [hs] at hr
          have hy := yielded_bool I.tm hj hs
          simp only at hr
          cases want with
          | true =>
            simp only at hr
            cases b with
            | true =>
              have := hr.t rfl
              rw [aset_self hs] at this
              rw [if_pos (by unfold Region.wanted; rw [hg]; simp [hy])]
              exact .inl (run (R := fun _ => True) this)
            | false =>
              have := hr.f rfl
              rw [aset_self hs] at this
              rw [if_neg (by unfold Region.wanted; rw [hg]; simp [hy])]
              exact skip this
          | false =>
            simp only at hr
            cases b with
            | true =>
              have := hr.t rfl
              rw [aset_self hs] at this
              rw [if_neg (by unfold Region.wanted; rw [hg]; simp [hy])]
              exact skip this
            | false =>
              have := hr.f rfl
              rw [aset_self hs] at this
              rw [if_pos (by unfold Region.wanted; rw [hg]; simp [hy])]
              exact .inl (run (R := fun _ => True) this)
        | skp =>
          rw [hs] at hr
          have hy := yielded_skp I.tm hj hs
          rw [if_neg (by unfold Region.wanted; rw [hg]; simp [hy])]
          exact skip hr
        | _ => rw [hs] at hr; exact hr.p.elim

end
end Go.Ev
