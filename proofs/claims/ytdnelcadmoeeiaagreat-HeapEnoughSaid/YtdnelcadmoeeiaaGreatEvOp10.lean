/- Structs and slices that are built; conversions. -/
import Derived.Test.YtdnelcadmoeeiaaGreatEvOp9
set_option linter.unusedVariables false
set_option linter.unusedSimpArgs false
namespace Go.Ev

section
variable {P : Program} {T : Tab} {Z : Base} {S : Nat → Prop} {w : World} {h : AHeap} {ρ : Rho} {K : AV → Ups → Nat → Prop} {nx : Nat} {N : Value → World → Prop} {Q : AV → Prop}

theorem VF.agg_to {cs : List AV} {v : Value} (H : VF T S w (.agg cs) v) : ∀ (j : Nat) (c : AV) (u : Value), cs[j]? = some c → v.cells[j]? = some u → VF T S w c u := by
  cases H with
  | agg cs vs hl h1 hv => exact hv

theorem run_places (hT : TabOk P T) : ∀ {fs : List (Nat × Nat)} {gs : List Field} {n : Nat}, fieldsOk fs gs = true → (∀ f ∈ fs, fieldOk T n f = true) →
    (gs.mapM (fun f => (do pure (f.offset, ← sizeOf f.type) : Sem (Nat × Nat)))).run P w = .ok (fs.map fun (f : Nat × Nat) => (f.1, (T f.2).size)) w
  | [], [], _, _, _ => rfl
  | [], _ :: _, _, h, _ => by simp [fieldsOk] at h
  | _ :: _, [], _, h, _ => by simp [fieldsOk] at h
  | f :: fs, g :: gs, n, h, hf => by
    simp only [fieldsOk, Bool.and_eq_true] at h
    have h1 := Nat.eq_of_beq_eq_true h.1.1
    have h2 := Nat.eq_of_beq_eq_true h.1.2
    have ih := run_places hT h.2 (fun f hf' => hf f (by simp [hf']))
    have hk := hf f (by simp)
    simp only [fieldOk, Bool.and_eq_true] at hk
    have hs := hT.sizeOf w hk.1.1
    rw [h2] at hs
    simp only [List.mapM_cons, Sem.run_bind, hs, Result.andThen_ok, Sem.run_pure, ih, List.map_cons, h1, h2]

theorem buildV_ok (hT : TabOk P T) {t : Nat} {ps : List (Nat × AV)} {qs : Array (Nat × Value)} (hl : ps.length = qs.size)
    (hpq : ∀ (k : Nat) (p : Nat × AV) (q : Nat × Value), ps[k]? = some p → qs[k]? = some q → p.1 = q.1 ∧ VLt T S w h ρ p.2 q.2) (hr : buildV T t ps Q) :
    ∃ v r, Q v ∧ (Instr.build t qs).run P w = .ok r w ∧ VLt T S w h ρ v r := by
  unfold buildV at hr
  cases hk : (T t).k with
  | struct fs =>
    rw [hk] at hr
    simp only at hr
    cases hall : ps.all (partOk T fs) with
    | false => rw [hall] at hr; exact hr.p.elim
    | true =>
      rw [hall] at hr
      cases hf : fillParts (T t) (cells (T t).zero) ps with
      | none => rw [hf] at hr; exact hr.p.elim
      | some cs =>
        rw [hf] at hr
        obtain ⟨gs, h1, h2, h3, _, _, zs, h4, h5⟩ := hT.struct hk
        obtain ⟨z, z1, z2, z3⟩ := zero_ok (S := S) (h := h) (ρ := ρ) (w := w) (e := t) hT (by rw [hk]; rfl)
        have hplace : ∀ (i : Nat) (f : Nat × Nat), fs[i]? = some f → (fs.map fun (f : Nat × Nat) => (f.1, (T f.2).size)).toArray[i]? = some (f.1, (T f.2).size) := by
          intro i f hi; simp [hi]
        obtain ⟨vs', f1, f2, f3⟩ := fill_ok (w := w) (S := S) (h := h) (ρ := ρ) (T := T) (t := T t) (cs := []) (vs := #[]) (place := fun i => (fs.map fun (f : Nat × Nat) => (f.1, (T f.2).size)).toArray[i]?) (fun i off ho => by
            unfold fieldOff at ho
            rw [hk] at ho
            simp only at ho
            cases hi : fs[i]? with
            | none => rw [hi] at ho; cases ho
            | some f => rw [hi] at ho; cases ho; exact ⟨_, hplace i f hi⟩) (ps := ps) (qs := qs.toList) z2 z3 (by simpa using hl)
          (fun k p q hp hq => by
            obtain ⟨a1, a2⟩ := hpq k p q hp (by simpa using hq)
            have hpo := List.all_eq_true.1 hall p (List.mem_of_getElem? hp)
            unfold partOk at hpo
            cases hi : fs[p.1]? with
            | none => rw [hi] at hpo; cases hpo
            | some f =>
              rw [hi] at hpo
              simp only [Bool.and_eq_true] at hpo
              have e1 := Nat.eq_of_beq_eq_true hpo.1
              have hfo := h3 f (List.mem_of_getElem? hi)
              simp only [fieldOk, Bool.and_eq_true] at hfo
              have hle := Nat.le_of_ble_eq_true hfo.2
              refine ⟨a1, ?_, hpo.2, f.1, by rw [e1]; exact hplace _ f hi, by rw [e1, h4]; simp only [cells]; omega⟩
              have : ∀ xs, p.2 ≠ .tup xs := fun xs e => by rw [e] at hpo; simp [cells, isCell] at hpo
              cases hh : p.2 with
              | tup xs => exact absurd hh (this xs)
              | _ => rw [hh] at a2; exact a2) hf
        refine ⟨_, .agg vs', hr, ?_, ⟨vs', rfl, f2, f3⟩⟩
        have hpl : (gs.mapM (fun f => (do pure (f.offset, ← sizeOf f.type) : Sem (Nat × Nat)))).run P w = .ok (fs.map fun (f : Nat × Nat) => (f.1, (T f.2).size)).toArray w := by
          rw [← Array.toArray_toList (xs := gs), List.mapM_toArray]
          have := run_places (P := P) (w := w) hT h2 h3
          simp only [Sem.run_map, this, Result.andThen_ok]
        simp only [Instr.build, Sem.run_bind, z1, Result.andThen_ok, run_underlying h1]
        rw [hpl]
        simp only [Result.andThen_ok]
        rw [f1]; rfl
  | _ => rw [hk] at hr; exact hr.p.elim

theorem bsliceV_ok (hT : TabOk P T) (H : HR T Z S h ρ w) (fr : Fr h nx K) (hn : Nexts T Z S w h ρ K N) {t n : Nat} {ps : List (Nat × AV)} {qs : Array (Nat × Value)} (hl : ps.length = qs.size)
    (hpq : ∀ (k : Nat) (p : Nat × AV) (q : Nat × Value), ps[k]? = some p → qs[k]? = some q → p.1 = q.1 ∧ VLt T S w h ρ p.2 q.2) (hr : bsliceV T t n ps h nx K) :
    Gives P (Instr.buildSlice t n qs) w N := by
  unfold bsliceV at hr
  simp only [forceVs_eq] at hr
  cases hk : (T t).k with
  | slice e =>
    rw [hk] at hr
    simp only at hr
    cases hc : Nat.beq n ps.length && (ps.map (·.1) == List.range n) && (ps.all fun p => Nat.beq (cells p.2).length (T e).size && (cells p.2).all isCell) && Nat.ble (n * (T e).size) 16777216 with
    | false => rw [hc] at hr; exact hr.p.elim
    | true =>
      rw [hc] at hr
      simp only [Bool.and_eq_true] at hc
      obtain ⟨⟨⟨c1, c2⟩, c3⟩, c4⟩ := hc
      have c1 := Nat.eq_of_beq_eq_true c1
      have c2 : ps.map (·.1) = List.range n := by simpa using c2
      have c4 := Nat.le_of_ble_eq_true c4
      obtain ⟨hu, he, hz0⟩ := hT.slice hk
      obtain ⟨z, z1, z2, z3⟩ := hT.zeroValue w he
      have pv : ∀ (k : Nat) (p : Nat × AV) (q : Nat × Value), ps[k]? = some p → qs[k]? = some q → p.1 = k ∧ q.1 = k ∧ VLv T S w h ρ p.2 q.2 ∧ (cells p.2).length = (T e).size ∧ q.2.cells.size = (T e).size ∧
          (∀ (j : Nat) (c : AV) (u : Value), (cells p.2)[j]? = some c → q.2.cells[j]? = some u → VLc T S w h ρ c u ∧ u.oneCell' = true) := by
        intro k p q hp hq
        obtain ⟨a1, a2⟩ := hpq k p q hp hq
        have hpo := List.all_eq_true.1 c3 p (List.mem_of_getElem? hp)
        simp only [Bool.and_eq_true] at hpo
        have e1 := Nat.eq_of_beq_eq_true hpo.1
        have hi : p.1 = k := by
          have h1 : (ps.map (·.1))[k]? = some p.1 := by simp [hp]
          rw [c2] at h1
          have hlt := (List.getElem?_eq_some_iff.1 h1).1
          simp at hlt
          rw [List.getElem?_range hlt] at h1
          exact (Option.some.inj h1).symm
        have hv : VLv T S w h ρ p.2 q.2 := by
          cases hh : p.2 with
          | tup xs => rw [hh] at hpo; simp [cells, isCell] at hpo
          | _ => rw [hh] at a2; exact a2
        obtain ⟨b1, b2⟩ := vlv_cells hv hpo.2
        exact ⟨hi, a1 ▸ hi, hv, e1, by rw [b1, e1], b2⟩
      -- what is laid down, flat
      have fill : ∀ (l : List (Nat × Value)) (k : Nat) (acc : Array Value), acc.size = n * (T e).size → k + l.length = n →
          (∀ (i : Nat) (q : Nat × Value), l[i]? = some q → q.1 = k + i ∧ q.2.cells.size = (T e).size) →
          ∃ r, Instr.fill (fun i => some (i * (T e).size, (T e).size)) acc l = some r ∧ r.size = n * (T e).size ∧
            (∀ j, j < k * (T e).size → r[j]? = acc[j]?) ∧ ∀ (i : Nat) (q : Nat × Value) (j : Nat), l[i]? = some q → j < (T e).size → r[(k + i) * (T e).size + j]? = q.2.cells[j]? := by
        intro l
        induction l with
        | nil => intro k acc h1 h2 _; exact ⟨acc, rfl, h1, fun j _ => rfl, fun i q j h => by simp at h⟩
        | cons q l ih =>
          intro k acc h1 h2 h3
          obtain ⟨q1, q2⟩ := h3 0 q rfl
          obtain ⟨i0, v⟩ := q
          simp only [Nat.add_zero] at q1 q2
          subst q1
          have get : ∀ (l : List Value) (k off : Nat) (acc : Array Value) (j : Nat), ((l.zipIdx k).foldl (fun (cs : Array Value) (x : Value × Nat) => cs.setIfInBounds (off + x.2) x.1) acc)[j]? =
              if off + k ≤ j ∧ j < off + k + l.length ∧ j < acc.size then l[j - (off + k)]? else acc[j]? := by
            intro l
            induction l with
            | nil => intro k off acc j; simp; intro a b; omega
            | cons a l ih =>
              intro k off acc j
              rw [List.zipIdx_cons, List.foldl_cons, ih]
              simp only [Array.size_setIfInBounds, List.length_cons]
              by_cases h1 : j = off + k
              · subst h1
                rw [if_neg (by omega)]
                by_cases h2 : off + k < acc.size
                · rw [if_pos ⟨Nat.le_refl _, by omega, h2⟩]; simp [h2]
                · rw [if_neg (by omega)]; simp [h2]
              · by_cases h2 : off + k ≤ j ∧ j < off + k + (l.length + 1) ∧ j < acc.size
                · rw [if_pos (by omega), if_pos h2]
                  rw [show j - (off + k) = (j - (off + (k + 1))) + 1 by omega]; simp
                · rw [if_neg (by omega), if_neg h2]
                  rw [Array.getElem?_setIfInBounds_ne (by omega)]
          have size : ∀ (off : Nat) (l : List (Value × Nat)) (acc : Array Value), (l.foldl (fun (cs : Array Value) (x : Value × Nat) => cs.setIfInBounds (off + x.2) x.1) acc).size = acc.size := by
            intro off l
            induction l with
            | nil => intro acc; rfl
            | cons a l ih => intro acc; rw [List.foldl_cons, ih]; simp
          have hz : v.cells.zipIdx.foldl (fun cs (c, j) => cs.setIfInBounds (i0 * (T e).size + j) c) acc = (v.cells.toList.zipIdx 0).foldl (fun (cs : Array Value) (x : Value × Nat) => cs.setIfInBounds (i0 * (T e).size + x.2) x.1) acc := by
            rw [← Array.foldl_toList]; simp [Array.toList_zipIdx]
          have hb : i0 * (T e).size + (T e).size ≤ n * (T e).size := by
            have := Nat.mul_le_mul_right (T e).size (show i0 + 1 ≤ n by simp only [List.length_cons] at h2; omega)
            rw [Nat.succ_mul] at this; exact this
          obtain ⟨r, r1, r2, r3, r4⟩ := ih (i0 + 1) ((v.cells.toList.zipIdx 0).foldl (fun (cs : Array Value) (x : Value × Nat) => cs.setIfInBounds (i0 * (T e).size + x.2) x.1) acc) (by rw [size]; exact h1) (by simp only [List.length_cons] at h2; omega) (fun i q hq => by
            have := h3 (i + 1) q (by simpa using hq); exact ⟨by omega, this.2⟩)
          refine ⟨r, ?_, r2, fun j hj => ?_, fun i q j hi hj => ?_⟩
          · simp only [Instr.fill]
            rw [if_neg (by rw [q2, h1]; simp; exact hb), hz]; exact r1
          · rw [r3 j (by rw [Nat.succ_mul]; omega), get, if_neg (by omega)]
          · cases i with
            | zero =>
              simp at hi; subst hi
              rw [Nat.add_zero, r3 _ (by rw [Nat.succ_mul]; omega), get, if_pos ⟨by omega, by simp only [Array.length_toList, q2]; omega, by rw [h1]; omega⟩]
              simp only [Nat.add_zero, Nat.add_sub_cancel_left]
              exact Array.getElem?_toList
            | succ i => have := r4 i q j (by simpa using hi) hj; rwa [show i0 + 1 + i = i0 + (i + 1) by omega] at this
      obtain ⟨r, r1, r2, _, r4⟩ := fill qs.toList 0 ((Array.range (n * (T e).size)).map ((if n * (T e).size = 0 then #[] else z.cells)[· % (if n * (T e).size = 0 then #[] else z.cells).size]!)) (by simp) (by simp; omega) (fun i q hq => by
        have hlt : i < ps.length := by have := (List.getElem?_eq_some_iff.1 hq).1; rw [hl]; simpa using this
        obtain ⟨_, a2, _, _, a5, _⟩ := pv i _ q (List.getElem?_eq_getElem hlt) (by simpa using hq)
        exact ⟨by omega, a5⟩)
      have run : (Instr.buildSlice t n qs).run P w = .ok (.slice (some ⟨w.heap.size, 0, none⟩) n n) (w.alloc (.cells r e)) := by
        simp only [Instr.buildSlice, Sem.run_bind, run_underlying hu, Result.andThen_ok, hT.sizeOf w he]
        rw [if_neg (by simp; exact c4)]
        by_cases hz1 : n * (T e).size = 0
        · simp only [hz1, if_true, Sem.run_pure, Result.andThen_ok] at r1 ⊢
          simp only [r1, newRow, Sem.run_bind, run_newObj, Result.andThen_ok, Sem.run_pure]; rfl
        · simp only [hz1, if_false, Sem.run_bind, z1, Sem.run_pure, Result.andThen_ok] at r1 ⊢
          simp only [r1, newRow, Sem.run_bind, run_newObj, Result.andThen_ok, Sem.run_pure]; rfl
      -- frozen elements
      have vsl : ∀ (j : Nat) (c : AV) (u : Value), (ps.map (·.2))[j]? = some c → (qs.toList.map (·.2))[j]? = some u → VLv T S w h ρ c u := by
        intro j c u hc hu
        rw [List.getElem?_map] at hc hu
        cases hp : ps[j]? with
        | none => rw [hp] at hc; cases hc
        | some p =>
          cases hq : qs.toList[j]? with
          | none => rw [hq] at hu; cases hu
          | some q => rw [hp] at hc; rw [hq] at hu; cases hc; cases hu; exact (pv j p q hp (by simpa using hq)).2.2.1
      obtain ⟨f1, f2, f3⟩ := fzs_ok H (cs := ps.map (·.2)) (vs := qs.toList.map (·.2)) vsl (by simp; omega)
      obtain ⟨S1, H1, G1⟩ := H.freeze f2
      have hF := f3 S1 _ H1 G1 f2.same
      have clen : ∀ c u, VLv T S w h ρ c u → (cells c).all isCell = true → (cells (fzv h c).1).length = (cells c).length := by
        intro y u hy c2
        cases y with
        | agg cs =>
          obtain ⟨vs, rfl, hl, hcc⟩ := hy
          exact (fzl_ok H (cs := cs) (vs := vs.toList) (fun j c u a b => (hcc j c u a (by simpa using b)).1) (by simpa using hl)).1
        | und => simp [cells, isCell] at c2
        | skp => simp [cells, isCell] at c2
        | tup xs => simp [cells, isCell] at c2
        | fn f caps => simp [cells, isCell] at c2
        | ref b0 => simp only [fzv, fzc]; cases h b0 <;> rfl
        | sub b0 i0 n0 => simp only [fzv, fzc]; cases h b0 <;> rfl
        | fsub b0 n0 => simp only [fzv, fzc]; cases h b0 <;> rfl
        | ptr b0 i0 off0 =>
          simp only [fzv, fzc]
          cases i0 <;> cases h b0 <;> simp only <;> first | rfl | (split <;> rfl)
        | _ => rfl
      have fzsget : ∀ (l : List AV) (j : Nat), (fzs h l).1[j]? = (l[j]?).map fun c => (fzv h c).1 := by
        intro l
        induction l with
        | nil => intro j; simp [fzs]
        | cons a l ih => intro j; cases j with
          | zero => simp [fzs]
          | succ j => simpa [fzs] using ih j
      have fl : Flat (VF T S1 w) (T e).size (fzs h (ps.map (·.2))).1 r.toList := by
        have hlen : (fzs h (ps.map (·.2))).1.length = n := by rw [f1]; simp; omega
        have one : ∀ (i : Nat) (x : AV), (fzs h (ps.map (·.2))).1[i]? = some x → ∃ p q, ps[i]? = some p ∧ qs[i]? = some q ∧ x = (fzv h p.2).1 ∧ (cells x).length = (T e).size := by
          intro i x hi
          rw [fzsget, List.getElem?_map] at hi
          cases hp : ps[i]? with
          | none => rw [hp] at hi; simp at hi
          | some p =>
            rw [hp] at hi
            simp at hi
            have hlt := (List.getElem?_eq_some_iff.1 hp).1
            have hq : qs[i]? = some qs[i] := Array.getElem?_eq_getElem (by omega)
            obtain ⟨_, _, a3, a4, _⟩ := pv i p _ hp hq
            have hpo := List.all_eq_true.1 c3 p (List.mem_of_getElem? hp)
            simp only [Bool.and_eq_true] at hpo
            exact ⟨p, _, rfl, hq, hi.symm, by rw [← hi, clen _ _ a3 hpo.2, a4]⟩
        have rget : ∀ (k : Nat) (u : Value), r.toList[k]? = some u → u.oneCell' = true := by
          intro k u hk'
          have hlt : k < n * (T e).size := by have := (List.getElem?_eq_some_iff.1 hk').1; rw [Array.length_toList, r2] at this; exact this
          have hi : k / (T e).size < n := Nat.div_lt_of_lt_mul (by rw [Nat.mul_comm]; exact hlt)
          have hp : ps[k / (T e).size]? = some (ps[k / (T e).size]'(by omega)) := List.getElem?_eq_getElem (by omega)
          have hq : qs[k / (T e).size]? = some (qs[k / (T e).size]'(by omega)) := Array.getElem?_eq_getElem (by omega)
          obtain ⟨_, _, _, a4, a5, a6⟩ := pv _ _ _ hp hq
          have hj : k % (T e).size < (T e).size := Nat.mod_lt _ hz0
          have hr4 := r4 (k / (T e).size) _ (k % (T e).size) (by rw [Array.getElem?_toList]; exact hq) hj
          rw [Nat.zero_add, Nat.mul_comm, Nat.div_add_mod] at hr4
          rw [Array.getElem?_toList, hr4] at hk'
          exact (a6 (k % (T e).size) _ u (List.getElem?_eq_getElem (by rw [a4]; exact hj)) hk').2
        refine ⟨by simp only [Array.length_toList, r2, hlen], fun x hx => ?_, fun u hu => ?_, fun i x j c hi hj => ?_⟩
        · obtain ⟨i, hi, rfl⟩ := List.getElem_of_mem hx
          obtain ⟨_, _, _, _, _, hh⟩ := one i _ (List.getElem?_eq_getElem hi)
          exact hh
        · obtain ⟨k, hk', rfl⟩ := List.getElem_of_mem hu
          exact rget k _ (List.getElem?_eq_getElem hk')
        · obtain ⟨p, q, hp, hq, rfl, hh⟩ := one i x hi
          have hj' : j < (T e).size := by have := (List.getElem?_eq_some_iff.1 hj).1; rw [hh] at this; exact this
          obtain ⟨_, _, a3, a4, a5, a6⟩ := pv i p q hp hq
          have hr4 := r4 i q j (by simpa using hq) hj'
          rw [Nat.zero_add] at hr4
          have hu : q.2.cells[j]? = some (q.2.cells[j]'(by omega)) := Array.getElem?_eq_getElem (by omega)
          refine ⟨q.2.cells[j]'(by omega), by rw [Array.getElem?_toList, hr4, hu], ?_⟩
          have hFp := hF i (fzv h p.2).1 q.2 hi (by rw [List.getElem?_map]; simp [hq])
          -- a frozen value's cells
          cases hqv : (fzv h p.2).1 with
          | agg cs =>
            rw [hqv] at hFp hj
            exact hFp.agg_to j c _ hj hu
          | _ =>
            all_goals
              rw [hqv] at hFp hj
              simp only [cells] at hj
              cases j with
              | succ j => simp at hj
              | zero =>
                simp at hj; subst hj
                have hpo := List.all_eq_true.1 c3 p (List.mem_of_getElem? hp)
                simp only [Bool.and_eq_true] at hpo
                have hya : ∀ cs, p.2 ≠ .agg cs := fun cs e => by rw [e] at hqv; simp only [fzv] at hqv; cases hqv
                have hyc : isCell p.2 = true := by
                  have h1 : cells p.2 = [p.2] := by
                    cases hpp : p.2 <;> first | rfl | exact absurd hpp (hya _)
                  have := hpo.2; rw [h1] at this; simpa using this
                have hone := cells_one (vlv_single a3 hyc)
                have : q.2.cells[0]'(by omega) = q.2 := by simp [hone]
                rw [this]; exact hFp
      have hnx : happ h (fzs h (ps.map (·.2))).2 nx = .none := by
        rw [happ_none fun p hp e' => ?_]
        · exact fr _ _ _ hr nx (Nat.le_refl _) (by omega)
        · have := fr _ _ _ hr nx (Nat.le_refl _) (by omega)
          rcases f2 p hp with ⟨_, _, h1, _⟩ | ⟨_, h1, _⟩ | ⟨_, _, _, h1, _⟩ <;> rw [e', this] at h1 <;> cases h1
      obtain ⟨H2, G2⟩ := H1.newRow (e := e) (es := (fzs h (ps.map (·.2))).1) (vs := r.toList) (rest := #[]) (t := e) (cap := n) hnx hz0 fl (by rw [f1]; simp; omega) (by simp [r2]) (by simp) w rfl rfl rfl rfl
      have hra : r.toList.toArray ++ #[] = r := by simp
      rw [hra] at H2 G2
      refine ⟨_, _, run, hn _ _ _ _ (w.alloc (.cells r e)) S1 (rset ρ nx (.row (some (w.heap.size, 0)) n)) hr ?_ ?_ ?_⟩
      · rw [happ_append]; exact H2
      · rw [happ_append]; exact G1.trans G2
      · rw [happ_append]
        show VLc T S1 (w.alloc (.cells r e)) (hset _ nx _) _ (.ref nx) _
        simp only [VLc, hset_same, vw]
        exact ⟨some (w.heap.size, 0), n, rset_same _ _ _, by rw [f1]; simp [adr, c1]⟩
  | _ => rw [hk] at hr; exact hr.p.elim

end
end Go.Ev
