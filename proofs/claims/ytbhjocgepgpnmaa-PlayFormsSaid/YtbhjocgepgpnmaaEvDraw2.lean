/- A region whose order is open: every order tells the same. -/
import Derived.Test.YtbhjocgepgpnmaaEvDraw
import Derived.Orders
set_option linter.unusedVariables false
set_option linter.unusedSimpArgs false
namespace Go.Ev

section
variable {P : Program} {T : Tab} {Z : Base} {S : Nat → Prop} {w : World} {h : AHeap} {ρ : Rho} {nx : Nat}
  {a : Act} {s : St} {Q : Exit → Act → World → Prop} {all : List Oper} {l : List (Oper × Rec)} {D : Nat → Bool} {i : Nat}

theorem key {tr : List Tr} (bf : Before all tr) (cl : ∀ k, D k = true → ∀ e ∈ edgesOf all k, D e = true) (hi : D i = false) (re : ∀ e ∈ edgesOf all i, D e = true) {k : Nat} {x y : Tr}
    (hx : tr[i]? = some x) (hy : tr[k]? = some y) (hne : k ≠ i) (c1 : clash x y = true) (c2 : clash y x = true) : D k = upto i k := by
  rcases Nat.lt_or_gt_of_ne hne with h | h
  · obtain ⟨f, this⟩ := bf.pair k i y x hy hx h c2
    rw [anc_in cl f i re this]; simp [upto, h]
  · obtain ⟨f, this⟩ := bf.pair i k x y hx hy h c1
    cases hk : D k with
    | true => have := anc_in cl f k (cl k hk) this; rw [hi] at this; cases this
    | false => simp [upto]; omega

structure Ready (all : List Oper) (l : List (Oper × Rec)) (D : Nat → Bool) (i : Nat) (p : Oper × Rec) : Prop where
  bf : Before all (l.map trOf)
  cl : ∀ k, D k = true → ∀ e ∈ edgesOf all k, D e = true
  hi : D i = false
  re : ∀ e ∈ edgesOf all i, D e = true
  at' : l[i]? = some p

variable {p : Oper × Rec}

theorem Ready.other (r : Ready all l D i p) {j : Nat} {q : Oper × Rec} (hq : l[j]? = some q) (c1 : clash (trOf p) (trOf q) = true) (c2 : clash (trOf q) (trOf p) = true) : D j = upto i j := by
  by_cases hj : j = i
  · subst hj; rw [r.hi]; simp [upto]
  · exact key r.bf r.cl r.hi r.re (x := trOf p) (y := trOf q) (by rw [List.getElem?_map, r.at']; rfl) (by rw [List.getElem?_map, hq]; rfl) hj c1 c2

theorem Ready.reads (r : Ready all l D i p) {t : Nat} (ht : t ∈ p.2.rd) : fS D 0 l s t = fS (upto i) 0 l s t := by
  refine fS_agree (fun j q hq e => ?_) rfl
  rw [Nat.zero_add]
  have h1 : t ∈ wrote (trOf q) := by simp [wrote, trOf, e]
  have h2 : t ∈ (trOf p).reads := ht
  refine r.other hq ?_ ?_
  · simp [clash, meets_mem h1 h2]
  · simp [clash, meets_mem h1 h2]

theorem Ready.looks (r : Ready all l D i p) {b : Nat} (hb : b ∈ p.2.R) : fH D 0 l h b = fH (upto i) 0 l h b := by
  refine fH_agree (fun j q hq e => ?_) rfl
  rw [Nat.zero_add]
  have h1 : b ∈ (trOf q).W := e
  have h2 : b ∈ (trOf p).R := hb
  refine r.other hq ?_ ?_
  · simp [clash, meets_mem h2 h1]
  · simp [clash, meets_mem h1 h2]

theorem Ready.turns (r : Ready all l D i p) {b : Nat} (hb : b ∈ p.2.us.map (·.1)) : fH D 0 l h b = fH (upto i) 0 l h b := by
  refine fH_agree (fun j q hq e => ?_) rfl
  rw [Nat.zero_add]
  have h1 : b ∈ (trOf q).W := e
  have h2 : b ∈ (trOf p).W := hb
  refine r.other hq ?_ ?_
  · simp [clash, meets_mem h2 h1]
  · simp [clash, meets_mem h1 h2]

/-- The set with one more. -/
def plus (D : Nat → Bool) (i : Nat) : Nat → Bool := fun j => Nat.beq j i || D j

theorem plus_ne {j : Nat} (h : j ≠ i) : plus D i j = D j := by simp [plus, beq_ne h]
theorem plus_same : plus D i i = true := by simp [plus, beq_self]

theorem Ready.slot (r : Ready all l D i p) : fS (plus D i) 0 l s = aput (fS D 0 l s) p.1.dst p.2.v := by
  funext t
  by_cases e : p.1.dst = some t
  · have : fS (plus D i) 0 l s t = fS (upto (i + 1)) 0 l s t := by
      refine fS_agree (fun j q hq e2 => ?_) rfl
      rw [Nat.zero_add]
      by_cases hj : j = i
      · subst hj; rw [plus_same]; simp [upto]
      · rw [plus_ne hj]
        have h1 : t ∈ wrote (trOf q) := by simp [wrote, trOf, e2]
        have h2 : t ∈ wrote (trOf p) := by simp [wrote, trOf, e]
        rw [r.other hq (by simp [clash, meets_mem h2 h1]) (by simp [clash, meets_mem h1 h2])]
        simp only [upto, decide_eq_decide]; omega
    rw [this]
    have h3 := fS_succ (k := 0) (s := s) r.at'
    rw [Nat.zero_add] at h3
    rw [h3, e, aput_same, aput_same]
  · rw [aput_other e]
    refine fS_agree (fun j q hq e2 => ?_) rfl
    rw [Nat.zero_add]
    refine plus_ne fun hj => ?_
    subst hj
    rw [r.at'] at hq; cases hq
    exact e e2

theorem Ready.heap (r : Ready all l D i p) : fH (plus D i) 0 l h = happ (fH D 0 l h) p.2.us := by
  funext b
  by_cases e : b ∈ p.2.us.map (·.1)
  · have : fH (plus D i) 0 l h b = fH (upto (i + 1)) 0 l h b := by
      refine fH_agree (fun j q hq e2 => ?_) rfl
      rw [Nat.zero_add]
      by_cases hj : j = i
      · subst hj; rw [plus_same]; simp [upto]
      · rw [plus_ne hj]
        have h1 : b ∈ (trOf q).W := e2
        have h2 : b ∈ (trOf p).W := e
        rw [r.other hq (by simp [clash, meets_mem h2 h1]) (by simp [clash, meets_mem h1 h2])]
        simp only [upto, decide_eq_decide]; omega
    rw [this]
    have h3 := fH_succ (k := 0) (s := h) r.at'
    rw [Nat.zero_add] at h3
    rw [h3]
    exact happ_congr (.inr e)
  · rw [happ_none fun q hq e' => e (List.mem_map.2 ⟨q, hq, e'⟩)]
    refine fH_agree (fun j q hq e2 => ?_) rfl
    rw [Nat.zero_add]
    refine plus_ne fun hj => ?_
    subst hj
    rw [r.at'] at hq; cases hq
    exact e e2

theorem lightB_ptr {o : Op} {s : St} (h : lightB o s = true) : ∃ t b j off, o = .move (.tmp t) ∧ s t = .ptr b j off := by
  unfold lightB at h
  split at h
  · rename_i t
    split at h
    · rename_i b j off hs
      exact ⟨t, b, j, off, rfl, hs⟩
    · cases h
  · cases h
/-- One operation, when its turn has come. -/
theorem Ready.run (hT : TabOk P T) (r : Ready all l D i p) {s0 : St} {h0 : AHeap} {n1 n2 : Nat} (ops : Array Oper) (hops : ops.toList = all) (st : StepOk (Told P T) T all p.1 p.2 (fS (upto i) 0 l s0) (fH (upto i) 0 l h0) n1 n2)
    (free : ∀ b, n1 ≤ b → fH (upto i) 0 l h0 b = .none)
    (hd : ∀ d, p.1.dst = some d → d < a.tmps.size) (H : HR T Z S (fH D 0 l h0) ρ w) (tm : TM T S w (fH D 0 l h0) ρ (fS D 0 l s0) a) {next : Act → World → Prop}
    (hn : ∀ u w' S' ρ', HR T Z S' (fH (plus D i) 0 l h0) ρ' w' → TM T S' w' (fH (plus D i) 0 l h0) ρ' (fS (plus D i) 0 l s0) (a.put p.1.dst u) → Goes T S w (fH D 0 l h0) ρ S' w' (fH (plus D i) 0 l h0) ρ' → next (a.put p.1.dst u) w') :
    if Region.wanted p.1 (yielded ops a.tmps) then p.1.wp P a w next Q ∨ (p.1.asks P a w ∧ LetsOut Q) else next (a.put p.1.dst undef) w := by
  subst hops
  have wants : Region.wanted p.1 (yielded ops a.tmps) = p.2.done := by
    have hg := st.guard
    unfold Region.wanted
    cases hq : p.1.guard with
    | none => rw [hq] at hg; exact hg.symm
    | some x =>
      obtain ⟨j, want⟩ := x
      rw [hq] at hg
      obtain ⟨d, g1, g2, g3⟩ := hg
      have hsd := r.reads (s := s0) g2
      rcases g3 with ⟨g3, g4⟩ | ⟨g3, g4⟩ | ⟨g3, g4⟩
      · rw [← hsd] at g3
        simp [yielded_bool tm g1 g3, g4]
      · rw [← hsd] at g3
        simp [yielded_bool tm g1 g3, g4]
      · rw [← hsd] at g3
        simp [yielded_skp tm g1 g3, g4]
  rw [wants]
  cases hdone : p.2.done with
  | false =>
    obtain ⟨e1, e2⟩ := st.skip hdone
    have hh : fH (plus D i) 0 l h0 = fH D 0 l h0 := by rw [r.heap, e2]; rfl
    have hs : fS (plus D i) 0 l s0 = aput (fS D 0 l s0) p.1.dst .skp := by rw [r.slot, e1]
    rw [if_neg (by simp)]
    refine hn undef w S ρ (by rw [hh]; exact H) ?_ (by rw [hh]; exact Goes.refl ..)
    rw [hh, hs]
    exact tm.put (Goes.refl ..) hd VF.skp
  | true =>
    rw [if_pos rfl]
    left
    have hR : ∀ b ∈ p.2.R, fH D 0 l h0 b = fH (upto i) 0 l h0 b := fun b hb => r.looks hb
    have hon : only p.2.R (fH (upto i) 0 l h0) = only p.2.R (fH D 0 l h0) := by
      funext b
      by_cases hb : b ∈ p.2.R
      · rw [only_in hb, only_in hb, hR b hb]
      · rw [only_out hb, only_out hb]
    obtain ⟨c1, c2⟩ := st.closed hdone
    have closed : closedB (fH D 0 l h0) p.2.R = true := by
      refine List.all_eq_true.2 fun b hb => ?_
      rw [hR b hb]
      exact List.all_eq_true.1 c1 b hb
    have hrd : ∀ t ∈ readsOf p.1, fS D 0 l s0 t = fS (upto i) 0 l s0 t := fun t ht => r.reads (st.reads hdone t ht)
    by_cases hlight : lightB p.1.op (fS (upto i) 0 l s0) = true
    · obtain ⟨t, b, j, off, ho, hp⟩ := lightB_ptr hlight
      have hmem : t ∈ readsOf p.1 := by unfold readsOf; rw [ho]; simp [Op.operands]
      have hv := tm t
      have hrun := st.run hdone
      rw [ho] at hrun
      have hrun : AV.ptr b j off = p.2.v ∧ [] = p.2.us ∧ n1 = n2 := by
        have h2 : moveV (fS (upto i) 0 l s0 t) n1 (fun a b c => a = p.2.v ∧ b = p.2.us ∧ c = n2) := hrun
        rw [hp] at h2
        exact force_iff.1 h2
      obtain ⟨e1, e2, _⟩ := hrun
      have hh : fH (plus D i) 0 l h0 = fH D 0 l h0 := by rw [r.heap, ← e2]; rfl
      have hs : fS (plus D i) 0 l s0 = aput (fS D 0 l s0) p.1.dst (.ptr b j off) := by rw [r.slot, e1]
      unfold Oper.wp execOp
      rw [ho]
      simp only [Sem.run_pure, Oper.upon_value]
      refine hn _ w S ρ (by rw [hh]; exact H) ?_ (by rw [hh]; exact Goes.refl ..)
      rw [hh, hs]
      refine tm.put (Goes.refl ..) hd ?_
      rw [hrd t hmem, hp] at hv
      exact hv
    -- what it sees
    have isRead : ∀ x ∈ p.1.op.operands.toList, ∀ t, x = .tmp t → t ∈ readsOf p.1 := by
      intro x hx t ht
      subst ht
      exact List.mem_filterMap.2 ⟨_, hx, rfl⟩
    let s1 : St := fun t => if t ∈ readsOf p.1 then fS D 0 l s0 t else .und
    have tm1 : TM T S w (only p.2.R (fH D 0 l h0)) ρ s1 a := by
      intro t
      show VLt T S w _ ρ (if t ∈ readsOf p.1 then fS D 0 l s0 t else .und) _
      by_cases ht : t ∈ readsOf p.1
      · rw [if_pos ht]
        refine (tm t).of_view fun b hb => ?_
        have : b ∈ p.2.R := by
          rw [st.foot hdone]
          unfold footO
          rw [Bool.eq_false_iff.2 hlight]
          unfold foot
          refine List.mem_append.2 (.inl (List.mem_flatMap.2 ⟨fS (upto i) 0 l s0 t, ?_, by rw [← hrd t ht]; exact hb⟩))
          obtain ⟨x, hx, hxt⟩ := List.mem_filterMap.1 ht
          refine List.mem_map.2 ⟨x, hx, ?_⟩
          cases x <;> simp at hxt
          subst hxt; rfl
        exact ⟨by rw [only_in this], rfl⟩
      · rw [if_neg ht]; exact VF.und _
    have hrun := st.run hdone
    rw [hon] at hrun
    have hcongr := evOpZ_congr (Told P T) T p.1.op p.1.type (only p.2.R (fH D 0 l h0)) n1 (fun a b c => a = p.2.v ∧ b = p.2.us ∧ c = n2) (s := fS (upto i) 0 l s0) (s' := s1) (fun x hx t ht => by
      have := isRead x hx t ht
      show _ = if t ∈ readsOf p.1 then _ else _
      rw [if_pos this, hrd t this])
    rw [hcongr] at hrun
    refine evOpZ_ok hT (H.only closed) (fun b hb => ?_) tm1 hrun ?_
    · refine only_out fun hm => ?_
      have := c2 b hm; omega
    · rintro v us nx' u w' S' ρ' ⟨rfl, rfl, rfl⟩ H' G' hv
      obtain ⟨ρ2, H2, G2, v2⟩ := H.frame (R := p.2.R) (us := p.2.us) (fun q hq => by
        rcases st.ups.2 q hq with h1 | h1
        · exact .inl h1
        · right
          rw [r.turns (List.mem_map.2 ⟨q, hq, rfl⟩)]
          exact free q.1 h1) H' G'
      refine hn u w' S' ρ2 (by rw [r.heap]; exact H2) ?_ (by rw [r.heap]; exact G2)
      rw [r.heap, r.slot]
      exact tm.put G2 hd (v2 _ _ hv)

theorem countP_lt {p q : Nat → Bool} : ∀ {l : List Nat}, (∀ x, p x = true → q x = true) → ∀ i ∈ l, q i = true → p i = false → l.countP p < l.countP q
  | [], _, i, hi, _, _ => by simp at hi
  | x :: l, hpq, i, hi, h1, h2 => by
    rcases List.mem_cons.1 hi with rfl | hi
    · have := List.countP_mono_left (l := l) (p := p) (q := q) (fun x _ => hpq x)
      simp [List.countP_cons, h1, h2]; omega
    · have := countP_lt hpq i hi h1 h2
      simp only [List.countP_cons]
      cases hp : p x with
      | true => simp [hpq x hp]; exact this
      | false => simp; omega

theorem any_ok (hT : TabOk P T) {ops : Array Oper} (hl : l.map (·.1) = ops.toList) (bf : Before ops.toList (l.map trOf)) {s0 : St} {h0 : AHeap} {S0 : Nat → Prop} {w0 : World} {ρ0 : Rho} {a0 : Act}
    (at0 : ∀ i p, l[i]? = some p → ∃ n1 n2, StepOk (Told P T) T ops.toList p.1 p.2 (fS (upto i) 0 l s0) (fH (upto i) 0 l h0) n1 n2 ∧ ∀ b, n1 ≤ b → fH (upto i) 0 l h0 b = .none)
    (hd : ∀ o ∈ ops.toList, ∀ d, o.dst = some d → d < a0.tmps.size)
    (post : ∀ a' w' S' ρ', HR T Z S' (fH (fun _ => true) 0 l h0) ρ' w' → TM T S' w' (fH (fun _ => true) 0 l h0) ρ' (fS (fun _ => true) 0 l s0) a' → Goes T S0 w0 h0 ρ0 S' w' (fH (fun _ => true) 0 l h0) ρ' → a'.tmps.size = a0.tmps.size → a'.defers = a0.defers → Q .normal a' w') :
    ∀ (fuel : Nat) (listed : Array Bool) (a : Act) (w : World) (S : Nat → Prop) (ρ : Rho), listed.size = ops.size → (∀ k, listed.getD k false = true → ∀ e ∈ edgesOf ops.toList k, listed.getD e false = true) →
      (List.range ops.size).countP (fun i => !listed.getD i false) ≤ fuel →
      HR T Z S (fH (fun j => listed.getD j false) 0 l h0) ρ w → TM T S w (fH (fun j => listed.getD j false) 0 l h0) ρ (fS (fun j => listed.getD j false) 0 l s0) a →
      Goes T S0 w0 h0 ρ0 S w (fH (fun j => listed.getD j false) 0 l h0) ρ → a.tmps.size = a0.tmps.size → a.defers = a0.defers → wpAny P .any ops Q fuel listed a w := by
  have hlen : l.length = ops.size := by rw [← List.length_map (f := (·.1)), hl]; simp
  -- once all are there
  have fin : ∀ (listed : Array Bool) (a : Act) (w : World) (S : Nat → Prop) (ρ : Rho), (∀ i, i < ops.size → listed.getD i false = true) →
      HR T Z S (fH (fun j => listed.getD j false) 0 l h0) ρ w → TM T S w (fH (fun j => listed.getD j false) 0 l h0) ρ (fS (fun j => listed.getD j false) 0 l s0) a →
      Goes T S0 w0 h0 ρ0 S w (fH (fun j => listed.getD j false) 0 l h0) ρ → a.tmps.size = a0.tmps.size → a.defers = a0.defers → Q .normal a w := by
    intro listed a w S ρ hall H tm G e1 e2
    have lt : ∀ (j : Nat) (q : Oper × Rec), l[j]? = some q → (fun j => listed.getD j false) (0 + j) = (fun _ => true) (0 + j) := fun j q hq => by
      have := (List.getElem?_eq_some_iff.1 hq).1
      rw [Nat.zero_add]; exact hall j (by omega)
    have hS : fS (fun j => listed.getD j false) 0 l s0 = fS (fun _ => true) 0 l s0 := funext fun t => fS_agree (fun j q hq _ => lt j q hq) rfl
    have hH : fH (fun j => listed.getD j false) 0 l h0 = fH (fun _ => true) 0 l h0 := funext fun t => fH_agree (fun j q hq _ => lt j q hq) rfl
    rw [hH] at H tm G
    rw [hS] at tm
    exact post a w S ρ H tm G e1 e2
  -- somebody is always ready
  have some' : ∀ (listed : Array Bool), listed.size = ops.size → Region.ready .any ops listed = [] → ∀ i, i < ops.size → listed.getD i false = true := by
    intro listed hsz hr i
    induction i using Nat.strongRecOn with
    | _ i ih =>
      intro hi
      cases hli : listed.getD i false with
      | true => rfl
      | false =>
        exfalso
        have : i ∈ Region.ready .any ops listed := by
          unfold Region.ready
          refine List.mem_filter.2 ⟨by simpa using hi, ?_⟩
          have ho : ops[i]? = some ops[i] := Array.getElem?_eq_getElem hi
          have hlt : listed.getD i true = false := by
            rw [Array.getD_eq_getD_getElem?, Array.getElem?_eq_getElem (by omega)] at hli ⊢
            simpa using hli
          simp only [hlt, ho, Option.map_some, Option.getD_some, Bool.not_false, Bool.true_and]
          refine Array.all_eq_true'.2 fun e he => ?_
          simp only [Bool.or_eq_true, Bool.not_eq_eq_eq_not, Bool.not_true]
          have binds : Region.binds .any e = false ∨ e.on ∈ edgesOf ops.toList i := by
            unfold edgesOf
            rw [Array.getElem?_toList, ho]
            simp only
            cases hg : e.ground with
            | textOnly row => left; simp [Region.binds, hg]
            | gcOnly row => left; simp [Region.binds, hg]
            | _ => right; exact List.mem_filterMap.2 ⟨e, by simpa using he, by rw [hg]⟩
          refine binds.imp id fun hm => ?_
          have hlt2 := bf.edge i (by simpa using hi) e.on hm
          exact ih e.on hlt2 (by omega)
        rw [hr] at this
        simp at this
  intro fuel
  induction fuel with
  | zero =>
    intro listed a w S ρ hsz hcl hcnt H tm G e1 e2
    have hall : ∀ i, i < ops.size → listed.getD i false = true := by
      intro i hi
      have h0 : (List.range ops.size).countP (fun i => !listed.getD i false) = 0 := by omega
      have := List.countP_eq_zero.1 h0 i (by simpa using hi)
      simpa using this
    refine ⟨?_, fin listed a w S ρ hall H tm G e1 e2⟩
    refine List.eq_nil_iff_forall_not_mem.2 fun i hi => ?_
    unfold Region.ready at hi
    obtain ⟨h1, h2⟩ := List.mem_filter.1 hi
    have h3 := hall i (by simpa using h1)
    have h4 : listed.getD i true = true := by
      have hi' : i < ops.size := by simpa using h1
      rw [Array.getD_eq_getD_getElem?, Array.getElem?_eq_getElem (by omega)] at h3 ⊢
      simpa using h3
    rw [h4] at h2; simp at h2
  | succ fuel ih =>
    intro listed a w S ρ hsz hcl hcnt H tm G e1 e2
    refine ⟨fun hr => fin listed a w S ρ (some' listed hsz hr) H tm G e1 e2, fun i hi => ?_⟩
    unfold Region.ready at hi
    obtain ⟨h1, h2⟩ := List.mem_filter.1 hi
    have hi' : i < ops.size := by simpa using h1
    have ho : ops[i]? = some ops[i] := Array.getElem?_eq_getElem hi'
    have hp : l[i]? = some (l[i]'(by omega)) := List.getElem?_eq_getElem (by omega)
    generalize l[i]'(by omega) = p at hp
    have hpo : ops[i]? = some p.1 := by
      have : (l.map (·.1))[i]? = some p.1 := by rw [List.getElem?_map, hp]; rfl
      rw [hl] at this; simpa using this
    rw [ho] at hpo
    have hpo' : ops[i] = p.1 := by simpa using hpo
    simp only [ho, hpo', Option.map_some, Option.getD_some, Bool.and_eq_true, Bool.not_eq_eq_eq_not, Bool.not_true] at h2
    obtain ⟨h3, h4⟩ := h2
    have hDi : listed.getD i false = false := by
      rw [Array.getD_eq_getD_getElem?, Array.getElem?_eq_getElem (by omega)] at h3 ⊢
      simpa using h3
    have re : ∀ e ∈ edgesOf ops.toList i, listed.getD e false = true := by
      intro e he
      unfold edgesOf at he
      rw [Array.getElem?_toList, ho, hpo'] at he
      simp only at he
      obtain ⟨x, hx, hxe⟩ := List.mem_filterMap.1 he
      have h5 := Array.all_eq_true'.1 h4 x (by simpa using hx)
      simp only [Bool.or_eq_true, Bool.not_eq_eq_eq_not, Bool.not_true] at h5
      cases hg : x.ground with
      | textOnly row => rw [hg] at hxe; cases hxe
      | gcOnly row => rw [hg] at hxe; cases hxe
      | _ =>
        rw [hg] at hxe
        cases hxe
        rcases h5 with h5 | h5
        · simp [Region.binds, hg] at h5
        · exact h5
    have r : Ready ops.toList l (fun j => listed.getD j false) i p := ⟨bf, hcl, hDi, re, hp⟩
    obtain ⟨n1, n2, st, free⟩ := at0 i p hp
    have hplus : (fun j => (listed.setIfInBounds i true).getD j false) = plus (fun j => listed.getD j false) i := by
      funext j
      by_cases hj : j = i
      · subst hj
        rw [plus_same]
        simp [Array.getD_eq_getD_getElem?, Array.getElem?_setIfInBounds, hsz, hi']
      · rw [plus_ne hj]
        simp only [Array.getD_eq_getD_getElem?]
        rw [Array.getElem?_setIfInBounds_ne (Ne.symm hj)]
    have hcl' : ∀ k, (listed.setIfInBounds i true).getD k false = true → ∀ e ∈ edgesOf ops.toList k, (listed.setIfInBounds i true).getD e false = true := by
      intro k hk e he
      have h6 : (listed.setIfInBounds i true).getD k false = plus (fun j => listed.getD j false) i k := congrFun hplus k
      have h7 : (listed.setIfInBounds i true).getD e false = plus (fun j => listed.getD j false) i e := congrFun hplus e
      rw [h6] at hk; rw [h7]
      have : listed.getD e false = true := by
        by_cases hki : k = i
        · subst hki; exact re e he
        · rw [plus_ne hki] at hk; exact hcl k hk e he
      simp only [plus, this, Bool.or_true]
    have hcnt' : (List.range ops.size).countP (fun i => !(listed.setIfInBounds i true).getD i false) ≤ fuel → True := fun _ => trivial
    have hc2 : (List.range ops.size).countP (fun j => !(listed.setIfInBounds i true).getD j false) ≤ fuel := by
      have := countP_lt (p := fun j => !(listed.setIfInBounds i true).getD j false) (q := fun j => !listed.getD j false) (l := List.range ops.size) (fun x hx => by
        have h6 : (listed.setIfInBounds i true).getD x false = plus (fun j => listed.getD j false) i x := congrFun hplus x
        rw [h6] at hx
        simp only [plus, Bool.not_eq_true', Bool.or_eq_false_iff] at hx
        simp [hx.2]) i (by simpa using hi') (by simp [hDi]) (by
        have h6 : (listed.setIfInBounds i true).getD i false = plus (fun j => listed.getD j false) i i := congrFun hplus i
        rw [h6, plus_same]; rfl)
      omega
    have hd' : ∀ d, p.1.dst = some d → d < a.tmps.size := by
      intro d e
      rw [e1]
      refine hd p.1 ?_ d e
      rw [← hl]
      exact List.mem_map.2 ⟨p, List.mem_of_getElem? hp, rfl⟩
    unfold wpOp
    rw [ho, hpo']
    refine r.run hT ops rfl st free hd' H tm ?_
    intro u w' S' ρ' H' tm' G'
    have hsz' : (listed.setIfInBounds i true).size = ops.size := by simpa using hsz
    refine ih (listed.setIfInBounds i true) (a.put p.1.dst u) w' S' ρ' hsz' hcl' hc2 ?_ ?_ ?_ ((put_size ..).trans e1) ((put_defers ..).trans e2)
    · rw [hplus]; exact H'
    · rw [hplus]; exact tm'
    · rw [hplus]; exact G.trans G'

theorem evDraw_ok (hT : TabOk P T) (hm : P.follows .mixedOrders = true) {ops : Array Oper} {id : Nat} {K : St → AHeap → Nat → Prop}
    (hd : ∀ o ∈ ops.toList, ∀ d, o.dst = some d → d < a.tmps.size) (I : Inv T Z S h ρ w s nx a)
    (hr : evOpsD (Told P T) T ops.toList ops.toList [] s h nx fun tr s h nx => Sure (okTr ops.toList tr) (K s h nx))
    (post : ∀ s' h' nx' a' w' S' ρ', K s' h' nx' → Inv T Z S' h' ρ' w' s' nx' a' → Goes T S w h ρ S' w' h' ρ' → a'.tmps.size = a.tmps.size → a'.defers = a.defers → Q .normal a' w') : (Code.region id ops true).wp P Q a w := by
  obtain ⟨l, s', h', nx', l1, l2, l3⟩ := chain_of hr
  simp only [List.nil_append] at l3
  cases hok : okTr ops.toList (l.map trOf) with
  | false => have := l3.h; rw [hok] at this; cases this
  | true =>
    have l3 := l3.p
    obtain ⟨f1, f2, f3, f4⟩ := chain_at (k := 0) l2 I.free
    refine wp_region_any hm ?_
    obtain ⟨H0, G0⟩ := I.H.upd (S' := S) (h' := h) (ρ' := ρ) (w' := { w with drawn := w.drawn + 1 }) (fun _ => False) (r := none) ⟨rfl, rfl, rfl, Nat.le_refl _, fun _ _ _ => rfl⟩ (fun k e => by cases e) (fun b _ => ⟨rfl, rfl⟩) (fun b hb => hb.elim) (fun _ h => h) (fun _ h => .inl h) (fun _ b hb => hb.elim) (fun b k hb => hb.elim) (fun b c k hb => hb.elim)
    have none' : ∀ j, (Array.replicate ops.size false).getD j false = false := by
      intro j
      rw [Array.getD_eq_getD_getElem?]
      cases hj : (Array.replicate ops.size false)[j]? with
      | none => rfl
      | some b =>
        have := Array.getElem?_eq_some_iff.1 hj
        obtain ⟨_, h2⟩ := this
        simp at h2; subst h2; rfl
    have e1 : fS (fun j => (Array.replicate ops.size false).getD j false) 0 l s = s := fS_none fun j _ => none' j
    have e2 : fH (fun j => (Array.replicate ops.size false).getD j false) 0 l h = h := fH_none fun j _ => none' j
    refine any_ok (Z := Z) (s0 := s) (h0 := h) (S0 := S) (w0 := w) (ρ0 := ρ) (a0 := a) hT l1 (okTr_ok hok) (fun i p hp => by
        obtain ⟨n1, n2, st, fr⟩ := f2 i p hp
        rw [Nat.zero_add] at st fr
        exact ⟨n1, n2, st, fr⟩) hd (fun a' w' S' ρ' H' tm' G' g1 g2 => ?_) ops.size (Array.replicate ops.size false) a _ S ρ (by simp) (fun k hk => by rw [none' k] at hk; cases hk) ?_ (by rw [e2]; exact H0) (by rw [e1, e2]; exact fun t => G0.vlt (I.tm t)) (by rw [e2]; exact G0) rfl rfl
    · rw [f4] at H' tm' G'
      rw [f3] at tm'
      exact post s' h' nx' a' w' S' ρ' l3 ⟨H', f1, tm'⟩ G' g1 g2
    · exact Nat.le_trans List.countP_le_length (by simp)

end
end Go.Ev
