/- The table of types, and what it says of the program's own. -/
import Derived.Test.YtdnelcadmoeeiaaGreatEvRel
set_option linter.unusedVariables false
set_option linter.unusedSimpArgs false
namespace Go.Ev

/-- A zero value's cell. -/
def zeroC : AV → Value → Bool
  | .int k n, .int k' m => Nat.beq (kIx k) (kIx k') && n == m
  | .bool a, .bool b => a == b
  | .str s, .string u => s.size == 0 && u.size == 0
  | .npt, .pointer .none => true
  | .nmp, .map .none => true
  | .nsl _, .slice .none 0 0 => true
  | .lst _ [], .slice .none 0 0 => true
  | _, _ => false
def zeroL : List AV → List Value → Bool
  | [], [] => true
  | c :: cs, v :: vs => zeroC c v && zeroL cs vs
  | _, _ => false
def zeroV : AV → Value → Bool
  | .agg cs, .agg vs => zeroL cs vs.toList
  | c, v => zeroC c v

def fieldsOk : List (Nat × Nat) → List Field → Bool
  | [], [] => true
  | f :: fs, g :: gs => Nat.beq f.1 g.offset && Nat.beq f.2 g.type && fieldsOk fs gs
  | _, _ => false
def fieldOk (T : Tab) (n : Nat) (f : Nat × Nat) : Bool := kOk (T f.2).k && Nat.blt 0 (T f.2).size && Nat.ble (f.1 + (T f.2).size) n

def kindOk (P : Program) (T : Tab) (t : Nat) (z : Value) : TK → Option TypeDesc → Bool
  | .int k, some (.int k') => Nat.beq (kIx k) (kIx k') && Nat.beq (T t).size 1 && zeroC (T t).zero z
  | .bool, some .bool => Nat.beq (T t).size 1 && zeroC (T t).zero z
  | .str, some .string => Nat.beq (T t).size 1 && zeroC (T t).zero z
  | .slice e, some (.slice e') => Nat.beq e e' && Nat.beq (T t).size 1 && kOk (T e).k && Nat.blt 0 (T e).size && zeroC (T t).zero z
  | .arr n e, some (.array n' e') => Nat.beq n n' && Nat.beq e e' && kOk (T e).k && Nat.blt 0 (T e).size && Nat.blt 0 n && Nat.beq (T t).size (n * (T e).size) && (match z with
    | .agg vs => zeroL ((List.replicate n (cells (zeroE T e))).flatten) vs.toList
    | _ => false)
  | .struct fs, some (.struct gs) => fieldsOk fs gs.toList && (fs.all fun f => fieldOk T (T t).size f) && (match (T t).zero with | .agg _ => true | _ => false) && Nat.beq (cells (T t).zero).length (T t).size && zeroV (T t).zero z && !(P.stoodInHeld t) && (gs.toList.all fun g => g.name != "_")
  | .ptr e, some (.pointer e') => Nat.beq e e' && Nat.beq (T t).size 1 && zeroC (T t).zero z
  | .map k e, some (.map k' e') => Nat.beq k k' && Nat.beq e e' && Nat.beq (T t).size 1 && kOk (T k).k && kOk (T e).k && zeroC (T t).zero z
  | .func, some (.func _ _ _) => Nat.beq (T t).size 1
  | _, _ => false
def tiOkB (P : Program) (T : Tab) (t : Nat) : Bool :=
  match (T t).k with
  | .other => true
  | k => match P.info? t with
    | some i => Nat.beq i.size (T t).size && Nat.beq i.bytes (T t).bytes && (match i.zero with
      | some z => Nat.beq z.cells.size i.size && kindOk P T t z k (P.underlying t)
      | .none => false)
    | .none => false

/-- A table out of a list. -/
def tabOf (l : List (Nat × TI)) : Tab := fun t => match l with
  | [] => ⟨.other, 0, 0, .und⟩
  | p :: l => bif Nat.beq p.1 t then p.2 else tabOf l t

/-- The program's types are as the table has them. -/
def TabOk (P : Program) (T : Tab) : Prop := ∀ t, tiOkB P T t = true

theorem blt_lt {a b : Nat} (h : Nat.blt a b = true) : a < b := Nat.le_of_ble_eq_true h
theorem TabOk.of {P : Program} (l : List (Nat × TI)) (h : l.all (fun p => tiOkB P (tabOf l) p.1) = true) : TabOk P (tabOf l) := by
  have key : ∀ (m : List (Nat × TI)) (t : Nat), (∀ p ∈ m, p.1 ≠ t) → (tabOf m t).k = .other := by
    intro m
    induction m with
    | nil => intro t _; rfl
    | cons p m ih =>
      intro t hm
      have h1 : Nat.beq p.1 t = false := by
        have := hm p (by simp)
        cases hb : Nat.beq p.1 t with
        | false => rfl
        | true => exact absurd (Nat.eq_of_beq_eq_true hb) this
      simp only [tabOf, h1, cond_false]
      exact ih t fun q hq => hm q (by simp [hq])
  intro t
  rcases Classical.em (∃ p ∈ l, p.1 = t) with ⟨p, hp, rfl⟩ | hn
  · exact List.all_eq_true.1 h p hp
  · have := key l t (fun p hp e => hn ⟨p, hp, e⟩)
    simp [tiOkB, this]

section
variable {P : Program} {T : Tab} (hT : TabOk P T) {t : Nat} (w : World)
include hT

theorem TabOk.info (hk : kOk (T t).k = true) : ∃ i z, P.info? t = some i ∧ i.size = (T t).size ∧ i.bytes = (T t).bytes ∧ i.zero = some z ∧ z.cells.size = i.size ∧
    kindOk P T t z (T t).k (P.underlying t) = true := by
  have h := hT t
  unfold tiOkB at h
  cases hi : P.info? t with
  | none => rw [hi] at h; cases hx : (T t).k <;> simp_all [kOk]
  | some i =>
    rw [hi] at h
    cases hz : i.zero with
    | none => cases hx : (T t).k <;> simp_all [kOk]
    | some z =>
      refine ⟨i, z, rfl, ?_, ?_, hz, ?_, ?_⟩ <;> cases hx : (T t).k <;> simp_all [kOk]

theorem TabOk.sizeOf (hk : kOk (T t).k = true) : (sizeOf t).run P w = .ok (T t).size w := by
  obtain ⟨i, z, h1, h2, _⟩ := hT.info hk
  simp [Go.sizeOf, typeInfo, h1, h2]
theorem TabOk.zeroValue (hk : kOk (T t).k = true) : ∃ z, (zeroValue t).run P w = .ok z w ∧ z.cells.size = (T t).size ∧ kindOk P T t z (T t).k (P.underlying t) = true := by
  obtain ⟨i, z, h1, h2, _, h3, h4, h5⟩ := hT.info hk
  exact ⟨z, by simp [Go.zeroValue, typeInfo, h1, h3], h4.trans h2, h5⟩
theorem TabOk.isAgg (hk : kOk (T t).k = true) : (isAgg t).run P w = .ok (T t).agg w := by
  obtain ⟨i, z, h1, h2, _, h3, h4, h5⟩ := hT.info hk
  cases hx : (T t).k <;> rw [hx] at h5 <;> cases hu : P.underlying t with
    | none => rw [hu] at h5; simp [kindOk] at h5
    | some d => rw [hu] at h5; cases d <;> simp [kindOk] at h5 <;> simp [Go.isAgg, run_underlying hu, TI.agg, hx]
theorem TabOk.slice {e : Nat} (hk : (T t).k = .slice e) : P.underlying t = some (.slice e) ∧ kOk (T e).k = true ∧ 0 < (T e).size := by
  obtain ⟨i, z, h1, h2, _, h3, h4, h5⟩ := hT.info (t := t) (by simp [hk, kOk])
  rw [hk] at h5
  cases hu : P.underlying t with
  | none => rw [hu] at h5; simp [kindOk] at h5
  | some d =>
    rw [hu] at h5
    cases d with
    | slice e' =>
      simp only [kindOk, Bool.and_eq_true, Nat.beq_eq] at h5
      obtain ⟨⟨⟨⟨rfl, a2⟩, a3⟩, a4⟩, a5⟩ := h5
      exact ⟨rfl, a3, blt_lt a4⟩
    | _ => simp [kindOk] at h5
theorem TabOk.arr {n e : Nat} (hk : (T t).k = .arr n e) : P.underlying t = some (.array n e) ∧ kOk (T e).k = true ∧ 0 < (T e).size ∧ 0 < n ∧ (T t).size = n * (T e).size := by
  obtain ⟨i, z, h1, h2, _, h3, h4, h5⟩ := hT.info (t := t) (by simp [hk, kOk])
  rw [hk] at h5
  cases hu : P.underlying t with
  | none => rw [hu] at h5; simp [kindOk] at h5
  | some d =>
    rw [hu] at h5
    cases d with
    | array n' e' =>
      simp only [kindOk, Bool.and_eq_true, Nat.beq_eq] at h5
      obtain ⟨⟨⟨⟨⟨⟨rfl, rfl⟩, a3⟩, a4⟩, a5⟩, a6⟩, a7⟩ := h5
      exact ⟨rfl, a3, blt_lt a4, blt_lt a5, a6⟩
    | _ => simp [kindOk] at h5
theorem TabOk.struct {fs : List (Nat × Nat)} (hk : (T t).k = .struct fs) : ∃ gs, P.underlying t = some (.struct gs) ∧ fieldsOk fs gs.toList = true ∧ (∀ f ∈ fs, fieldOk T (T t).size f = true) ∧
    P.stoodInHeld t = false ∧ (∀ g ∈ gs.toList, g.name ≠ "_") ∧ (∃ cs, (T t).zero = .agg cs ∧ cs.length = (T t).size) := by
  obtain ⟨i, z, h1, h2, _, h3, h4, h5⟩ := hT.info (t := t) (by simp [hk, kOk])
  rw [hk] at h5
  cases hu : P.underlying t with
  | none => rw [hu] at h5; simp [kindOk] at h5
  | some d =>
    rw [hu] at h5
    cases d with
    | struct gs =>
      simp only [kindOk, Bool.and_eq_true] at h5
      obtain ⟨⟨⟨⟨⟨⟨a1, a2⟩, a3⟩, a4⟩, a5⟩, a6⟩, a7⟩ := h5
      refine ⟨gs, rfl, a1, List.all_eq_true.1 a2, by simpa using a6, fun g hg => by have := List.all_eq_true.1 a7 g hg; simpa using this, ?_⟩
      cases hz : (T t).zero <;> rw [hz] at a3 a4 <;> simp [cells] at a3 a4 ⊢
      exact a4
    | _ => simp [kindOk] at h5
theorem TabOk.int {k : IntKind} (hk : (T t).k = .int k) : P.underlying t = some (.int k) := by
  obtain ⟨i, z, h1, h2, _, h3, h4, h5⟩ := hT.info (t := t) (by simp [hk, kOk])
  rw [hk] at h5
  cases hu : P.underlying t with
  | none => rw [hu] at h5; simp [kindOk] at h5
  | some d =>
    rw [hu] at h5
    cases d with
    | int k' => cases k <;> cases k' <;> simp_all [kindOk, kIx]
    | _ => simp [kindOk] at h5
theorem TabOk.ptr {e : Nat} (hk : (T t).k = .ptr e) : P.underlying t = some (.pointer e) := by
  obtain ⟨i, z, h1, h2, _, h3, h4, h5⟩ := hT.info (t := t) (by simp [hk, kOk])
  rw [hk] at h5
  cases hu : P.underlying t with
  | none => rw [hu] at h5; simp [kindOk] at h5
  | some d => rw [hu] at h5; cases d <;> simp_all [kindOk]
theorem TabOk.map {k e : Nat} (hk : (T t).k = .map k e) : P.underlying t = some (.map k e) ∧ kOk (T k).k = true ∧ kOk (T e).k = true := by
  obtain ⟨i, z, h1, h2, _, h3, h4, h5⟩ := hT.info (t := t) (by simp [hk, kOk])
  rw [hk] at h5
  cases hu : P.underlying t with
  | none => rw [hu] at h5; simp [kindOk] at h5
  | some d =>
    rw [hu] at h5
    cases d with
    | map k' e' =>
      simp only [kindOk, Bool.and_eq_true, Nat.beq_eq] at h5
      obtain ⟨⟨⟨⟨⟨rfl, rfl⟩, a3⟩, a4⟩, a5⟩, a6⟩ := h5
      exact ⟨rfl, a4, a5⟩
    | _ => simp [kindOk] at h5
theorem TabOk.bool (hk : (T t).k = .bool) : P.underlying t = some .bool := by
  obtain ⟨i, z, h1, h2, _, h3, h4, h5⟩ := hT.info (t := t) (by simp [hk, kOk])
  rw [hk] at h5
  cases hu : P.underlying t with
  | none => rw [hu] at h5; simp [kindOk] at h5
  | some d => rw [hu] at h5; cases d <;> simp_all [kindOk]
theorem TabOk.str (hk : (T t).k = .str) : P.underlying t = some .string := by
  obtain ⟨i, z, h1, h2, _, h3, h4, h5⟩ := hT.info (t := t) (by simp [hk, kOk])
  rw [hk] at h5
  cases hu : P.underlying t with
  | none => rw [hu] at h5; simp [kindOk] at h5
  | some d => rw [hu] at h5; cases d <;> simp_all [kindOk]
end

section
variable {T : Tab} {S : Nat → Prop} {w : World}
theorem kIx_eq {k k' : IntKind} (h : Nat.beq (kIx k) (kIx k') = true) : k = k' := by cases k <;> cases k' <;> first | rfl | cases h
theorem zeroC_vf : ∀ {c : AV} {v : Value}, zeroC c v = true → VF T S w c v ∧ v.oneCell' = true := by
  intro c v h
  unfold zeroC at h
  split at h <;> first | cases h; done | skip
  · rename_i k n k' m
    simp only [Bool.and_eq_true, beq_iff_eq] at h
    obtain ⟨h1, rfl⟩ := h
    obtain rfl : k = k' := kIx_eq h1
    exact ⟨.int _ _, rfl⟩
  · simp at h; subst h; exact ⟨.bool _, rfl⟩
  · rename_i s u
    have h := (Bool.and_eq_true _ _).mp h
    simp only [beq_iff_eq] at h
    have e1 : s = u := by
      cases s with | mk a => cases u with | mk b =>
        simp [ByteArray.size] at h
        rw [h.1, h.2]
    subst e1; exact ⟨.str _, rfl⟩
  · exact ⟨.npt, rfl⟩
  · exact ⟨.nmp, rfl⟩
  · exact ⟨.nsl _, rfl⟩
  · exact ⟨.nil _ _ _, rfl⟩
theorem zeroL_vf : ∀ {cs : List AV} {vs : List Value}, zeroL cs vs = true → vs.length = cs.length ∧ ∀ (j : Nat) (c : AV) (u : Value), cs[j]? = some c → vs[j]? = some u → VF T S w c u ∧ u.oneCell' = true
  | [], [], _ => ⟨rfl, fun j c u h => by simp at h⟩
  | c :: cs, v :: vs, h => by
    simp only [zeroL, Bool.and_eq_true] at h
    have ih := zeroL_vf h.2
    refine ⟨by simp [ih.1], fun j c' u h1 h2 => ?_⟩
    cases j with
    | zero => simp at h1 h2; subst h1 h2; exact zeroC_vf h.1
    | succ j => exact ih.2 j c' u (by simpa using h1) (by simpa using h2)
  | [], _ :: _, h => by simp [zeroL] at h
  | _ :: _, [], h => by simp [zeroL] at h
theorem zeroV_vf {c : AV} {v : Value} (h : zeroV c v = true) : VF T S w c v := by
  cases c with
  | agg cs =>
    cases v with
    | agg vs =>
      have := zeroL_vf (T := T) (S := S) (w := w) (show zeroL cs vs.toList = true from h)
      exact .agg cs vs (by simpa using this.1) (fun j c u h1 h2 => (this.2 j c u h1 (by simpa using h2)).2) (fun j c u h1 h2 => (this.2 j c u h1 (by simpa using h2)).1)
    | _ => simp [zeroV, zeroC] at h
  | _ => exact (zeroC_vf (by simpa [zeroV] using h)).1
end

end Go.Ev
