/- A region whose order is open. -/
import Derived.Test.YtbhjocgepgpnmaaEvFrame
set_option linter.unusedVariables false
set_option linter.unusedSimpArgs false
namespace Go.Ev

/-- What one operation of such a region has told. -/
structure Rec where
  rd : List Nat
  R : List Nat
  v : AV
  us : Ups
  done : Bool

def trOf (p : Oper × Rec) : Tr := ⟨p.2.rd, p.1.dst, p.2.R, p.2.us.map (·.1)⟩

structure StepOk (D : Den) (T : Tab) (all : List Oper) (o : Oper) (r : Rec) (s : St) (h : AHeap) (nx nx' : Nat) : Prop where
  guard : match o.guard with
    | .none => r.done = true
    | some (j, want) => ∃ d, guardOf all j = some d ∧ d ∈ r.rd ∧ ((s d = .bool want ∧ r.done = true) ∨ (s d = .bool (!want) ∧ r.done = false) ∨ (s d = .skp ∧ r.done = false))
  reads : r.done = true → ∀ t ∈ readsOf o, t ∈ r.rd
  foot : r.done = true → r.R = footO T o s h
  closed : r.done = true → closedB h r.R = true ∧ ∀ b ∈ r.R, b < nx
  run : r.done = true → evOpZ D T o.op o.type s (only r.R h) nx fun a b c => a = r.v ∧ b = r.us ∧ c = nx'
  ups : okUp nx r.us nx' = true ∧ ∀ p ∈ r.us, p.1 ∈ r.R ∨ nx ≤ p.1
  skip : r.done = false → r.v = .skp ∧ r.us = []

def Chain (D : Den) (T : Tab) (all : List Oper) : List (Oper × Rec) → St → AHeap → Nat → St → AHeap → Nat → Prop
  | [], s, h, nx, s', h', nx' => s' = s ∧ h' = h ∧ nx' = nx
  | p :: l, s, h, nx, s', h', nx' => ∃ nx1, StepOk D T all p.1 p.2 s h nx nx1 ∧ Chain D T all l (aput s p.1.dst p.2.v) (happ h p.2.us) nx1 s' h' nx'

theorem okUp_nil (nx : Nat) : okUp nx [] nx = true := by simp [okUp]

theorem step_of {D : Den} {T : Tab} {o : Oper} {s : St} {h : AHeap} {nx : Nat} {rd : List Nat} {K : Tr → AV → Ups → Nat → Prop} (hr : stepD D T o s h nx rd K) :
    ∃ r : Rec, ∃ nx', r.done = true ∧ r.rd = rd ∧ r.R = footO T o s h ∧ (closedB h r.R = true ∧ ∀ b ∈ r.R, b < nx) ∧
      (evOpZ D T o.op o.type s (only r.R h) nx fun a b c => a = r.v ∧ b = r.us ∧ c = nx') ∧ (okUp nx r.us nx' = true ∧ ∀ p ∈ r.us, p.1 ∈ r.R ∨ nx ≤ p.1) ∧ K (trOf (o, r)) r.v r.us nx' := by
  unfold stepD at hr
  rw [forceL_eq] at hr
  obtain ⟨g1, g2⟩ := Gate.both hr
  obtain ⟨v, us, nx', k1, k2⟩ := det_evOpZ _ _ _ _ _ _ _ _ g2
  rw [forceR_eq] at k1
  obtain ⟨g3, g4⟩ := k1.both
  simp only [Bool.and_eq_true] at g1
  simp only [okUpD, Bool.and_eq_true] at g3
  refine ⟨⟨rd, footO T o s h, v, us, true⟩, nx', rfl, rfl, rfl, ⟨g1.1, fun b hb => Nat.le_of_ble_eq_true (List.all_eq_true.1 g1.2 b hb)⟩, k2, ⟨g3.1, fun p hp => ?_⟩, g4⟩
  have := List.all_eq_true.1 g3.2 p hp
  simp only [Bool.or_eq_true] at this
  exact this.imp (fun h => by simpa using h) Nat.le_of_ble_eq_true

theorem chain_of {D : Den} {T : Tab} {all : List Oper} : ∀ {rest : List Oper} {tr : List Tr} {s : St} {h : AHeap} {nx : Nat} {K : List Tr → St → AHeap → Nat → Prop}, evOpsD D T all rest tr s h nx K →
    ∃ l s' h' nx', l.map (·.1) = rest ∧ Chain D T all l s h nx s' h' nx' ∧ K (tr ++ l.map trOf) s' h' nx'
  | [], tr, s, h, nx, K, hr => ⟨[], s, h, nx, rfl, ⟨rfl, rfl, rfl⟩, by simp only [List.map_nil, List.append_nil]; exact hr⟩
  | o :: rest, tr, s, h, nx, K, hr => by
    have go : ∀ (rd : List Nat), (match o.guard with
        | .none => True
        | some (j, want) => ∃ d, guardOf all j = some d ∧ d ∈ rd ∧ s d = .bool want) → (∀ t ∈ readsOf o, t ∈ rd) →
        stepD D T o s h nx rd (fun t v us nx' => evOpsD D T all rest (tr ++ [t]) (aput s o.dst v) (happ h us) nx' K) →
        ∃ l s' h' nx', l.map (·.1) = o :: rest ∧ Chain D T all l s h nx s' h' nx' ∧ K (tr ++ l.map trOf) s' h' nx' := by
      intro rd hg hrd hs
      obtain ⟨r, nx1, r1, r2, r3, r4, r5, r6, r7⟩ := step_of hs
      obtain ⟨l, s', h', nx', l1, l2, l3⟩ := chain_of r7
      refine ⟨(o, r) :: l, s', h', nx', by simp [l1], ⟨nx1, ⟨?_, fun _ t ht => by rw [r2]; exact hrd t ht, fun _ => r3, fun _ => r4, fun _ => r5, r6, fun h => by rw [r1] at h; cases h⟩, l2⟩, by simpa using l3⟩
      revert hg
      cases o.guard with
      | none => intro _; exact r1
      | some p =>
        obtain ⟨j, want⟩ := p
        rintro ⟨d, g1, g2, g3⟩
        exact ⟨d, g1, by rw [r2]; exact g2, .inl ⟨g3, r1⟩⟩
    have no : ∀ (j : Nat) (want : Bool) (d : Nat), o.guard = some (j, want) → guardOf all j = some d → (s d = .bool (!want) ∨ s d = .skp) →
        evOpsD D T all rest (tr ++ [⟨[d], o.dst, [], []⟩]) (aput s o.dst .skp) h nx K →
        ∃ l s' h' nx', l.map (·.1) = o :: rest ∧ Chain D T all l s h nx s' h' nx' ∧ K (tr ++ l.map trOf) s' h' nx' := by
      intro j want d hg hj hd hs
      obtain ⟨l, s', h', nx', l1, l2, l3⟩ := chain_of hs
      refine ⟨(o, ⟨[d], [], .skp, [], false⟩) :: l, s', h', nx', by simp [l1], ⟨nx, ⟨?_, fun h => (by cases h), fun h => (by cases h), fun h => (by cases h), fun h => (by cases h), ⟨okUp_nil nx, fun p hp => by simp at hp⟩, fun _ => ⟨rfl, rfl⟩⟩, l2⟩, by simpa [trOf] using l3⟩
      rw [hg]
      exact ⟨d, hj, by simp, .inr (hd.imp (fun h => ⟨h, rfl⟩) fun h => ⟨h, rfl⟩)⟩
    rw [evOpsD_cons] at hr
    cases hg : o.guard with
    | none =>
      rw [hg] at hr
      exact go (readsOf o) (by rw [hg]; trivial) (fun t ht => ht) hr
    | some p =>
      obtain ⟨j, want⟩ := p
      rw [hg] at hr
      simp only at hr
      cases hj : guardOf all j with
      | none => rw [hj] at hr; exact hr.p.elim
      | some d =>
        rw [hj] at hr
        simp only at hr
        cases hs : s d with
        | bool b =>
          rw [hs] at hr
          simp only at hr
          cases want with
          | true =>
            simp only at hr
            cases b with
            | true =>
              have := hr.t rfl
              rw [aset_self hs] at this
              exact go (d :: readsOf o) (by rw [hg]; exact ⟨d, hj, by simp, hs⟩) (fun t ht => by simp [ht]) this
            | false =>
              have := hr.f rfl
              rw [aset_self hs] at this
              exact no j true d hg hj (.inl hs) this
          | false =>
            simp only at hr
            cases b with
            | true =>
              have := hr.t rfl
              rw [aset_self hs] at this
              exact no j false d hg hj (.inl hs) this
            | false =>
              have := hr.f rfl
              rw [aset_self hs] at this
              exact go (d :: readsOf o) (by rw [hg]; exact ⟨d, hj, by simp, hs⟩) (fun t ht => by simp [ht]) this
        | skp =>
          rw [hs] at hr
          exact no j want d hg hj (.inr hs) hr
        | _ => rw [hs] at hr; exact hr.p.elim

/-- The state behind some of the operations. -/
def fS (D : Nat → Bool) : Nat → List (Oper × Rec) → St → St
  | _, [], s => s
  | k, p :: l, s => fS D (k + 1) l (bif D k then aput s p.1.dst p.2.v else s)
def fH (D : Nat → Bool) : Nat → List (Oper × Rec) → AHeap → AHeap
  | _, [], h => h
  | k, p :: l, h => fH D (k + 1) l (bif D k then happ h p.2.us else h)

theorem aput_other {s : St} {d : Option Nat} {v : AV} {t : Nat} (h : d ≠ some t) : aput s d v t = s t := by
  cases d with
  | none => rfl
  | some x =>
    have : t ≠ x := fun e => h (by rw [e])
    simp [aput, aset, beq_ne this]
theorem aput_same {s : St} {v : AV} {t : Nat} : aput s (some t) v t = v := by simp [aput, aset]

theorem fS_agree {D D' : Nat → Bool} {t : Nat} : ∀ {l : List (Oper × Rec)} {k : Nat} {s s2 : St}, (∀ j p, l[j]? = some p → p.1.dst = some t → D (k + j) = D' (k + j)) → s t = s2 t → fS D k l s t = fS D' k l s2 t
  | [], k, s, s2, _, h => h
  | p :: l, k, s, s2, hd, h => by
    simp only [fS]
    refine fS_agree (fun j q hq e => by have := hd (j + 1) q (by simpa using hq) e; rwa [show k + (j + 1) = k + 1 + j by omega] at this) ?_
    by_cases e : p.1.dst = some t
    · have := hd 0 p rfl e
      rw [Nat.add_zero] at this
      rw [← this]
      cases D k with
      | true => simp only [cond_true, e, aput_same]
      | false => exact h
    · cases D k <;> cases D' k <;> simp only [cond_true, cond_false, aput_other e] <;> exact h

theorem fH_agree {D D' : Nat → Bool} {b : Nat} : ∀ {l : List (Oper × Rec)} {k : Nat} {h h2 : AHeap}, (∀ j p, l[j]? = some p → b ∈ p.2.us.map (·.1) → D (k + j) = D' (k + j)) → h b = h2 b → fH D k l h b = fH D' k l h2 b
  | [], k, h, h2, _, e => e
  | p :: l, k, h, h2, hd, e0 => by
    simp only [fH]
    refine fH_agree (fun j q hq e => by have := hd (j + 1) q (by simpa using hq) e; rwa [show k + (j + 1) = k + 1 + j by omega] at this) ?_
    by_cases e : b ∈ p.2.us.map (·.1)
    · have := hd 0 p rfl e
      rw [Nat.add_zero] at this
      rw [← this]
      cases D k with
      | true => exact happ_congr (.inr e)
      | false => exact e0
    · have hn : ∀ h : AHeap, happ h p.2.us b = h b := fun h => happ_none fun q hq e' => e (List.mem_map.2 ⟨q, hq, e'⟩)
      cases D k <;> cases D' k <;> simp only [cond_true, cond_false, hn] <;> exact e0

theorem fS_none {D : Nat → Bool} : ∀ {l : List (Oper × Rec)} {k : Nat} {s : St}, (∀ j, k ≤ j → D j = false) → fS D k l s = s
  | [], _, _, _ => rfl
  | p :: l, k, s, h => by simp only [fS, h k (Nat.le_refl _), cond_false]; exact fS_none fun j hj => h j (by omega)
theorem fH_none {D : Nat → Bool} : ∀ {l : List (Oper × Rec)} {k : Nat} {s : AHeap}, (∀ j, k ≤ j → D j = false) → fH D k l s = s
  | [], _, _, _ => rfl
  | p :: l, k, s, h => by simp only [fH, h k (Nat.le_refl _), cond_false]; exact fH_none fun j hj => h j (by omega)

def upto (n : Nat) : Nat → Bool := fun j => decide (j < n)

theorem fS_succ {l : List (Oper × Rec)} : ∀ {k i : Nat} {s : St} {p : Oper × Rec}, l[i]? = some p → fS (upto (k + i + 1)) k l s = aput (fS (upto (k + i)) k l s) p.1.dst p.2.v := by
  induction l with
  | nil => intro k i s p h; simp at h
  | cons q l ih =>
    intro k i s p h
    cases i with
    | zero =>
      simp at h; subst h
      have e1 : upto (k + 0 + 1) k = true := by simp [upto]
      have e2 : upto (k + 0) k = false := by simp [upto]
      simp only [fS, e1, e2, cond_true, cond_false]
      rw [fS_none fun j hj => by simp [upto] <;> omega, fS_none fun j hj => by simp [upto] <;> omega]
    | succ i =>
      have e1 : upto (k + (i + 1) + 1) k = true := by simp [upto] <;> omega
      have e2 : upto (k + (i + 1)) k = true := by simp [upto] <;> omega
      simp only [fS, e1, e2, cond_true]
      have := ih (k := k + 1) (s := aput s q.1.dst q.2.v) (show l[i]? = some p by simpa using h)
      rw [show k + 1 + i = k + (i + 1) by omega] at this
      exact this
theorem fH_succ {l : List (Oper × Rec)} : ∀ {k i : Nat} {s : AHeap} {p : Oper × Rec}, l[i]? = some p → fH (upto (k + i + 1)) k l s = happ (fH (upto (k + i)) k l s) p.2.us := by
  induction l with
  | nil => intro k i s p h; simp at h
  | cons q l ih =>
    intro k i s p h
    cases i with
    | zero =>
      simp at h; subst h
      have e1 : upto (k + 0 + 1) k = true := by simp [upto]
      have e2 : upto (k + 0) k = false := by simp [upto]
      simp only [fH, e1, e2, cond_true, cond_false]
      rw [fH_none fun j hj => by simp [upto] <;> omega, fH_none fun j hj => by simp [upto] <;> omega]
    | succ i =>
      have e1 : upto (k + (i + 1) + 1) k = true := by simp [upto] <;> omega
      have e2 : upto (k + (i + 1)) k = true := by simp [upto] <;> omega
      simp only [fH, e1, e2, cond_true]
      have := ih (k := k + 1) (s := happ s q.2.us) (show l[i]? = some p by simpa using h)
      rw [show k + 1 + i = k + (i + 1) by omega] at this
      exact this

/-- Each operation in the order of the text. -/
theorem chain_at {D : Den} {T : Tab} {all : List Oper} : ∀ {l : List (Oper × Rec)} {k : Nat} {s : St} {h : AHeap} {nx : Nat} {s' : St} {h' : AHeap} {nx' : Nat}, Chain D T all l s h nx s' h' nx' → (∀ b, nx ≤ b → h b = .none) →
    (∀ b, nx' ≤ b → h' b = .none) ∧ (∀ i p, l[i]? = some p → ∃ n1 n2, StepOk D T all p.1 p.2 (fS (upto (k + i)) k l s) (fH (upto (k + i)) k l h) n1 n2 ∧ ∀ b, n1 ≤ b → fH (upto (k + i)) k l h b = .none) ∧
    fS (fun _ => true) k l s = s' ∧ fH (fun _ => true) k l h = h'
  | [], k, s, h, nx, s', h', nx', hc, free => by
    obtain ⟨rfl, rfl, rfl⟩ := hc
    exact ⟨free, fun i p hp => by simp at hp, rfl, rfl⟩
  | q :: l, k, s, h, nx, s', h', nx', ⟨n1, st, hc⟩, free => by
    have ih := chain_at (k := k + 1) hc (free_after free st.ups.1)
    obtain ⟨i1, i2, i3, i4⟩ := ih
    refine ⟨i1, fun i p hp => ?_, by simpa [fS] using i3, by simpa [fH] using i4⟩
    cases i with
    | zero =>
      simp at hp; subst hp
      have e1 : fS (upto (k + 0)) k (q :: l) s = s := fS_none fun j hj => by simp [upto] <;> omega
      have e2 : fH (upto (k + 0)) k (q :: l) h = h := fH_none fun j hj => by simp [upto] <;> omega
      rw [e1, e2]
      exact ⟨nx, n1, st, free⟩
    | succ i =>
      have e : upto (k + (i + 1)) k = true := by simp [upto] <;> omega
      simp only [fS, fH, e, cond_true]
      have := i2 i p (by simpa using hp)
      rw [show k + 1 + i = k + (i + 1) by omega] at this
      exact this

theorem meets_mem {a b : List Nat} {x : Nat} (h1 : x ∈ a) (h2 : x ∈ b) : meets a b = true :=
  List.any_eq_true.2 ⟨x, h1, by simpa using h2⟩

/-- What binds. -/
structure Before (all : List Oper) (tr : List Tr) : Prop where
  pair : ∀ i j x y, tr[i]? = some x → tr[j]? = some y → i < j → clash x y = true → ∃ f, isAnc all i f j = true
  edge : ∀ j, j < all.length → ∀ i ∈ edgesOf all j, i < j

theorem okTr_ok {all : List Oper} {tr : List Tr} (h : okTr all tr = true) : Before all tr := by
  simp only [okTr, Bool.and_eq_true] at h
  refine ⟨fun i j x y hi hj hij hc => ?_, fun j hj i hi => ?_⟩
  · have hy : (y, j) ∈ tr.zipIdx := List.mem_zipIdx_iff_getElem?.2 hj
    have hx : (x, i) ∈ tr.zipIdx := List.mem_zipIdx_iff_getElem?.2 hi
    have h1 := List.all_eq_true.1 h.1 _ hy
    have h2 := List.all_eq_true.1 h1 _ hx
    have hb : Nat.blt i j = true := Nat.ble_eq_true_of_le hij
    simp only [hb, cond_true, hc, Bool.not_true, Bool.false_or, Bool.or_eq_true] at h2
    exact h2.elim (fun h => ⟨_, h⟩) fun h => ⟨_, h⟩
  · have h1 := List.all_eq_true.1 h.2 j (by simpa using hj)
    have h2 := List.all_eq_true.1 h1 i hi
    exact Nat.le_of_ble_eq_true h2

theorem anc_in {all : List Oper} {D : Nat → Bool} (cl : ∀ k, D k = true → ∀ e ∈ edgesOf all k, D e = true) {i : Nat} : ∀ (f j : Nat), (∀ e ∈ edgesOf all j, D e = true) → isAnc all i f j = true → D i = true
  | 0, j, hj, h => hj i (by simpa [isAnc] using h)
  | f + 1, j, hj, h => by
    simp only [isAnc, Bool.or_eq_true] at h
    rcases h with h | h
    · exact hj i (by simpa using h)
    · obtain ⟨k, hk, h2⟩ := List.any_eq_true.1 h
      exact anc_in cl f k (cl k (hj k hk)) h2

end Go.Ev
