/- One operation. -/
import Derived.Test.YtbhjocgepgpnmaaEvCall2
set_option linter.unusedVariables false
set_option linter.unusedSimpArgs false
namespace Go.Ev

section
variable {P : Program} {T : Tab} {Z : Base} {S : Nat → Prop} {w : World} {h : AHeap} {ρ : Rho} {K : AV → Ups → Nat → Prop} {nx : Nat}
  {a : Act} {s : St} {next : Act → World → Prop} {Q : Exit → Act → World → Prop} {o : Oper}

theorem wpVal {m : Sem Value} (hx : execOp a.eval o = (do pure (.value (← m)))) (g : Gives P m w fun u w' => next (a.put o.dst u) w') : o.wp P a w next Q := by
  obtain ⟨u, w', h1, h2⟩ := g
  unfold Oper.wp
  rw [hx]
  simp only [Sem.run_bind, h1, Result.andThen_ok, Sem.run_pure, Oper.upon_value]
  exact h2

theorem wpPure {m : Sem Value} (hx : execOp a.eval o = (do pure (.value (← m)))) (H : HR T Z S h ρ w) (hn : Nexts T Z S w h ρ K fun u w' => next (a.put o.dst u) w')
    (g : ∃ v r, K v [] nx ∧ m.run P w = .ok r w ∧ VLt T S w h ρ v r) : o.wp P a w next Q := by
  obtain ⟨v, r, h1, h2, h3⟩ := g
  exact wpVal hx (Gives.pure hn H h1 h2 h3)

theorem argsOf_len (T : Tab) (s : St) (c : Call) : (argsOf T s c).length = c.args.size := by simp [argsOf]
theorem argsOf_ok (tm : TM T S w h ρ s a) (c : Call) : ∀ (j : Nat) (x : AV) (u : Value), (argsOf T s c)[j]? = some x → (c.args.map a.eval)[j]? = some u → VLt T S w h ρ x u := by
  intro j x u h1 h2
  simp only [argsOf, List.getElem?_map, List.getElem?_zipIdx, Array.getElem?_toList, Option.map_map, Option.map_eq_some_iff, Array.getElem?_map] at h1 h2
  obtain ⟨p, hp, rfl⟩ := h1
  obtain ⟨q, hq, rfl⟩ := h2
  rw [hp] at hq; cases hq
  exact opnd_ok tm _ _

theorem wpBuiltin {m : Sem Value} {c : Call} {b : Builtin} (ho : o.op = .call c) (hc : c.callee = .builtin b) (hb : ∀ cs, builtin b c.argTypes o.type cs (c.args.map a.eval) = (do pure (.value (← m)))) (g : Gives P m w fun u w' => next (a.put o.dst u) w') : o.wp P a w next Q := by
  obtain ⟨u, w', h1, h2⟩ := g
  unfold Oper.wp
  have hx : execOp a.eval o = (do let d ← resolve a.eval c o.type; invoke d.target d.args) := by unfold execOp; rw [ho]
  rw [hx]
  simp only [resolve, hc, Sem.run_bind, Sem.run_pure, Result.andThen_ok, invoke, hb, h1, Oper.upon_value]
  exact h2

theorem wpEnter {c : Call} {g : Operand} {f : Nat} {vs : Array Value} (ho : o.op = .call c) (hc : c.callee = .value g) (hg : a.eval g = .func (.func f) #[] vs)
    (h0 : Runs P f (c.args.map a.eval ++ vs) w fun v w' => next (a.put o.dst v) w') : o.wp P a w next Q := by
  unfold Oper.wp
  have hx : execOp a.eval o = (do let d ← resolve a.eval c o.type; invoke d.target d.args) := by unfold execOp; rw [ho]
  rw [hx]
  rcases h0 with ⟨h1, h2⟩ | ⟨v, w', h1, h2⟩
  · simp only [resolve, hc, hg, Deferred.ofValue, Sem.run_bind, Sem.run_pure, Result.andThen_ok, invoke, Array.empty_append, h1, Oper.upon_enter]
    refine Calls.mono h2 ?_
    rintro e w' ⟨v, rfl, h3⟩
    exact h3
  · simp only [resolve, hc, hg, Deferred.ofValue, Sem.run_bind, Sem.run_pure, Result.andThen_ok, invoke, Array.empty_append, h1, Oper.upon_value]
    exact h2

theorem frees (free : ∀ b, nx ≤ b → h b = .none) : Fr h nx K := fun _ _ _ _ b hb _ => free b hb

theorem zipTwo {α : Type} {x y : α} {l : Array α} (h : l.toList = [x, y]) : l = #[x, y] := by
  apply Array.ext'; simpa using h
theorem zipOne {α : Type} {x : α} {l : Array α} (h : l.toList = [x]) : l = #[x] := by
  apply Array.ext'; simpa using h

theorem parts_ok (tm : TM T S w h ρ s a) (ps : Array (Nat × Operand)) : (ps.toList.map fun p => (p.1, opnd T 0 s p.2)).length = (ps.map fun p => (p.1, a.eval p.2)).size ∧
    ∀ (k : Nat) (p : Nat × AV) (q : Nat × Value), (ps.toList.map fun p => (p.1, opnd T 0 s p.2))[k]? = some p → (ps.map fun p => (p.1, a.eval p.2))[k]? = some q → p.1 = q.1 ∧ VLt T S w h ρ p.2 q.2 := by
  refine ⟨by simp, fun k p q h1 h2 => ?_⟩
  simp only [List.getElem?_map, Array.getElem?_toList, Option.map_eq_some_iff, Array.getElem?_map] at h1 h2
  obtain ⟨x, hx, rfl⟩ := h1
  obtain ⟨y, hy, rfl⟩ := h2
  rw [hx] at hy; cases hy
  exact ⟨rfl, opnd_ok tm _ _⟩

theorem evOp_ok (hT : TabOk P T) (H : HR T Z S h ρ w) (free : ∀ b, nx ≤ b → h b = .none) (tm : TM T S w h ρ s a)
    (hr : evOp (Told P T) T o.op o.type s h nx K) (hn : Nexts T Z S w h ρ K fun u w' => next (a.put o.dst u) w') : o.wp P a w next Q := by
  have fr : Fr h nx K := frees free
  unfold evOp at hr
  split at hr
  · rename_i x ho
    unfold Oper.wp execOp; rw [ho]
    simp only [Sem.run_pure, Oper.upon_value]
    exact moveV_ok H fr hn (opnd_ok tm _ _) hr
  · rename_i x ho
    unfold Oper.wp execOp; rw [ho]
    simp only [Sem.run_pure, Oper.upon_value]
    exact moveV_ok H fr hn (opnd_ok tm _ _) hr
  · rename_i c x y ho
    obtain ⟨v, u, h1, h2, h3⟩ := pickV_ok (opnd_ok tm _ c) (opnd_ok tm _ x) (opnd_ok tm _ y) hr
    unfold Oper.wp execOp; rw [ho]
    refine Eq.mpr (congrArg (o.upon P a next Q) h2) ?_
    rw [Oper.upon_value]
    exact hn.pure H h1 h3
  · rename_i t ho
    exact wpVal (by unfold execOp; rw [ho]) (alloc_ok hT H fr hn hr)
  · rename_i t x ho
    have hx := opnd_ok tm t x
    split at hr
    · exact hr.p.elim
    · rename_i v hne
      refine wpVal (by unfold execOp; rw [ho]) (box_ok hT H fr hn (v := opnd T t s x) ?_ (fun e => hne e) hr)
      cases hq : opnd T t s x with
      | tup xs =>
        rw [hq] at hr
        unfold newVar at hr
        simp only [cells, isCell, List.all_cons, Bool.false_and] at hr
        split at hr <;> exact hr.p.elim
      | _ => rw [hq] at hx; exact hx
  · rename_i t ps ho
    obtain ⟨p1, p2⟩ := parts_ok tm ps
    exact wpPure (by unfold execOp; rw [ho]) H hn (buildV_ok hT p1 p2 hr)
  · rename_i t n ps ho
    obtain ⟨p1, p2⟩ := parts_ok tm ps
    exact wpVal (by unfold execOp; rw [ho]) (bsliceV_ok hT H fr hn p1 p2 hr)
  · rename_i t p ho
    exact wpPure (by unfold execOp; rw [ho]) H hn (load_ok hT H (opnd_ok tm _ _) hr)
  · rename_i t p x ho
    have hx := opnd_ok tm t x
    have hy : VLv T S w h ρ (opnd T t s x) (a.eval x) := by
      cases hq : opnd T t s x with
      | tup xs =>
        rw [hq] at hr
        unfold storeV at hr
        simp [cells, isCell] at hr
        exact hr.p.elim
      | _ => rw [hq] at hx; exact hx
    obtain ⟨w', h1, h2⟩ := store_ok hT H fr hn (opnd_ok tm o.type p) hy hr
    unfold Oper.wp execOp; rw [ho]
    simp only [Sem.run_bind, h1, Result.andThen_ok, Sem.run_pure, Oper.upon_skip]
    exact h2
  · rename_i x ho
    have hx := opnd_ok tm o.type x
    have run : ∀ ad, a.eval x = .pointer (some ad) → o.wp P a w next Q = next (a.put o.dst (.pointer (some ad))) w := by
      intro ad had
      unfold Oper.wp execOp; rw [ho]
      simp only [had, Sem.run_pure, Oper.upon_value]
    split at hr
    · rename_i b i off hq
      rw [hq] at hx
      split at hr
      · rename_i hvar
        have hx' : VLc T S w h ρ (.ptr b i off) (a.eval x) := hx
        simp only [VLc] at hx'
        have : ∃ ad, a.eval x = .pointer (some ad) := by
          cases hb : h b <;> rw [hb] at hvar <;> simp [isVar] at hvar <;> rw [hb] at hx' <;> simp only [vw] at hx' <;> obtain ⟨blk, o', _, e⟩ := hx' <;> exact ⟨_, e⟩
        obtain ⟨ad, had⟩ := this
        rw [run ad had]
        rw [had] at hx
        exact hn.pure H hr hx
      · exact hr.p.elim
    · rename_i y off hq
      rw [hq] at hx
      obtain ⟨blk, o', e, _⟩ := VF.eptr_to (show VF T S w (.eptr y off) (a.eval x) from hx)
      rw [run _ e]
      rw [e] at hx
      exact hn.pure H hr hx
    · exact hr.p.elim
  · rename_i op t x y z ho
    exact wpPure (by unfold execOp; rw [ho]) H hn (binV_ok hT (opnd_ok tm _ _) (opnd_ok tm _ _) hr)
  · rename_i op t x ho
    exact wpPure (by unfold execOp; rw [ho]) H hn (unV_ok (opnd_ok tm _ _) hr)
  · rename_i src dst x ho
    exact wpVal (by unfold execOp; rw [ho]) (convV_ok hT H fr hn (opnd_ok tm _ _) hr)
  · rename_i t l c ho
    exact wpVal (by unfold execOp; rw [ho]) (mksliceV_ok hT H fr hn (opnd_ok tm _ _) (opnd_ok tm _ _) hr)
  · rename_i t x lo hi mx ho
    split at hr
    · rename_i e hk
      refine wpPure (by unfold execOp; rw [ho]) H hn (sliceV_ok hT H hk (opnd_ok tm _ _) (by simp) (by simp) (by simp) ?_ ?_ ?_ hr)
      · intro y v h1 h2
        simp only [Option.map_eq_some_iff] at h1 h2
        obtain ⟨z, rfl, rfl⟩ := h1
        obtain ⟨z', hz, rfl⟩ := h2
        cases hz; exact opnd_ok tm _ _
      · intro y v h1 h2
        simp only [Option.map_eq_some_iff] at h1 h2
        obtain ⟨z, rfl, rfl⟩ := h1
        obtain ⟨z', hz, rfl⟩ := h2
        cases hz; exact opnd_ok tm _ _
      · intro y v h1 h2
        simp only [Option.map_eq_some_iff] at h1 h2
        obtain ⟨z, rfl, rfl⟩ := h1
        obtain ⟨z', hz, rfl⟩ := h2
        cases hz; exact opnd_ok tm _ _
    · exact hr.p.elim
  · rename_i t x f ho
    exact wpPure (by unfold execOp; rw [ho]) H hn (fieldAddrV_ok hT (opnd_ok tm _ _) hr)
  · rename_i t x f ho
    exact wpPure (by unfold execOp; rw [ho]) H hn (fieldV_ok hT (opnd_ok tm _ _) hr)
  · rename_i t x i ho
    exact wpPure (by unfold execOp; rw [ho]) H hn (indexV_ok hT H (opnd_ok tm _ _) (opnd_ok tm _ _) hr)
  · rename_i x i ho
    exact wpPure (by unfold execOp; rw [ho]) H hn (extractV_ok (opnd_ok tm _ _) hr)
  · rename_i f first caps ho
    split at hr
    · rename_i hf hcs
      have hf' : first = #[] := by apply Array.ext'; simpa using hf
      refine wpPure (m := Instr.makeFunc (.func f) (first.map a.eval) (caps.map a.eval)) (by unfold execOp; rw [ho]) H hn ⟨_, .func (.func f) #[] (caps.map a.eval), hr, by rw [hf']; simp [Instr.makeFunc], ?_⟩
      refine ⟨caps.map a.eval, rfl, by simp, fun j c u h1 h2 => ?_⟩
      have hcell : isCell c = true := List.all_eq_true.1 hcs c (List.mem_of_getElem? h1)
      simp only [List.getElem?_map, Array.getElem?_toList, Option.map_eq_some_iff, Array.getElem?_map] at h1 h2
      obtain ⟨y, hy, rfl⟩ := h1
      obtain ⟨z, hz, rfl⟩ := h2
      rw [hy] at hz; cases hz
      have h3 := opnd_ok tm 0 y
      generalize opnd T 0 s y = q at h3 hcell
      cases q <;> first | exact h3 | (simp [isCell] at hcell)
    · exact hr.p.elim
  · rename_i c ho
    have al := argsOf_len T s c
    have av := argsOf_ok tm c
    split at hr
    · rename_i f hc
      have hv := evCall_ok (vals := c.args.map a.eval ++ #[]) H free (by simp [al]) (by simpa using av) hn hr
      exact wpEnter ho hc rfl hv
    · rename_i g hno hc
      split at hr
      · rename_i f caps hg
        have hgv := opnd_ok tm 0 g
        rw [hg] at hgv
        obtain ⟨vs, e1, e2, e3⟩ := hgv
        have hv := evCall_ok (vals := c.args.map a.eval ++ vs) H free (by simp [al, e2]) (fun j x u h1 h2 => by
          by_cases hj : j < c.args.size
          · rw [List.getElem?_append_left (by rw [al]; exact hj)] at h1
            rw [Array.getElem?_append_left (by simpa using hj)] at h2
            exact av j x u h1 h2
          · rw [List.getElem?_append_right (by rw [al]; omega)] at h1
            rw [Array.getElem?_append_right (by simp; omega)] at h2
            rw [al] at h1
            simp only [Array.size_map] at h2
            exact vlv_vlt (vlc_vlv (e3 _ x u h1 h2))) hn hr
        exact wpEnter ho hc e1 hv
      · exact hr.p.elim
    · rename_i hc
      split at hr
      · rename_i x t hx ht
        have h0 := zipOne ht
        have h1 : c.args.size = 1 := by rw [← al, hx]; rfl
        refine wpBuiltin (m := Builtin.len_ c.argTypes o.type (c.args.map a.eval)) ho hc (fun _ => rfl) ?_
        have hj : (c.args.map a.eval)[0]? = some ((c.args.map a.eval)[0]'(by simp; omega)) := Array.getElem?_eq_getElem (by simp; omega)
        obtain ⟨v, r, g1, g2, g3⟩ := lengthV_ok (ty := o.type) (ts := c.argTypes) (us := c.args.map a.eval) hT H (by rw [h0]; rfl) hj (av 0 x _ (by rw [hx]; rfl) hj) hr
        exact Gives.pure hn H g1 g2 g3
      · exact hr.p.elim
    · rename_i hc
      exact wpBuiltin ho hc (fun _ => rfl) (by
        obtain ⟨v, r, h1, h2, h3⟩ := maxV_ok (ts := c.argTypes) (ty := o.type) (us := c.args.map a.eval) (by simp [al]) av hr
        exact Gives.pure hn H h1 h2 h3)
    · rename_i hc
      exact wpBuiltin ho hc (fun _ => rfl) (by
        obtain ⟨v, r, h1, h2, h3⟩ := minV_ok (ts := c.argTypes) (ty := o.type) (us := c.args.map a.eval) (by simp [al]) av hr
        exact Gives.pure hn H h1 h2 h3)
    · rename_i hc
      split at hr
      · rename_i x y t u hx ht
        split at hr
        · rename_i e2 hu2
          have h0 := zipTwo ht
          have h1 : c.args.size = 2 := by rw [← al, hx]; rfl
          have e0 : (c.args.map a.eval) = #[(c.args.map a.eval)[0]'(by simp; omega), (c.args.map a.eval)[1]'(by simp; omega)] := by
            apply Array.ext
            · simp [h1]
            · intro i h2 h3
              simp at h3
              match i, h3 with
              | 0, _ => rfl
              | 1, _ => rfl
          refine wpBuiltin (m := Builtin.append_ c.argTypes o.type (c.args.map a.eval)) ho hc (fun _ => rfl) ?_
          rw [h0, e0]
          exact appendV_ok hT H fr hn hu2 (av 0 x _ (by rw [hx]; rfl) (Array.getElem?_eq_getElem (by simp; omega))) (av 1 y _ (by rw [hx]; rfl) (Array.getElem?_eq_getElem (by simp; omega))) hr
        · exact hr.p.elim
      · exact hr.p.elim
    · rename_i hc
      split at hr
      · rename_i x y t u hx ht
        have h0 := zipTwo ht
        have h1 : c.args.size = 2 := by rw [← al, hx]; rfl
        have e0 : (c.args.map a.eval) = #[(c.args.map a.eval)[0]'(by simp; omega), (c.args.map a.eval)[1]'(by simp; omega)] := by
          apply Array.ext
          · simp [h1]
          · intro i h2 h3
            simp at h3
            match i, h3 with
            | 0, _ => rfl
            | 1, _ => rfl
        refine wpBuiltin (m := Builtin.copy_ c.argTypes o.type (c.args.map a.eval)) ho hc (fun _ => rfl) ?_
        rw [h0, e0]
        exact copyV_ok hT H hn (av 0 x _ (by rw [hx]; rfl) (Array.getElem?_eq_getElem (by simp; omega))) (av 1 y _ (by rw [hx]; rfl) (Array.getElem?_eq_getElem (by simp; omega))) hr
      · exact hr.p.elim
    · rename_i hc
      split at hr
      · rename_i x t hx ht
        have h0 := zipOne ht
        have h1 : c.args.size = 1 := by rw [← al, hx]; rfl
        have e0 : (c.args.map a.eval) = #[(c.args.map a.eval)[0]'(by simp; omega)] := by
          apply Array.ext
          · simp [h1]
          · intro i h2 h3
            simp at h3
            match i, h3 with
            | 0, _ => rfl
        refine wpBuiltin (m := Builtin.clear_ c.argTypes o.type (c.args.map a.eval)) ho hc (fun _ => rfl) ?_
        rw [h0, e0]
        exact clearV_ok hT H hn (av 0 x _ (by rw [hx]; rfl) (Array.getElem?_eq_getElem (by simp; omega))) hr
      · exact hr.p.elim
    · rename_i hc
      split at hr
      · rename_i x y t t2 hx ht
        have h1 : c.args.size = 2 := by rw [← al, hx]; rfl
        have h0 : c.argTypes[0]? = some t := by rw [← Array.getElem?_toList, ht]; rfl
        refine wpBuiltin (m := Builtin.delete_ c.argTypes o.type (c.args.map a.eval)) ho hc (fun _ => rfl) ?_
        exact delV_ok hT H hn h0 (Array.getElem?_eq_getElem (by simp; omega)) (Array.getElem?_eq_getElem (by simp; omega)) (av 0 x _ (by rw [hx]; rfl) (Array.getElem?_eq_getElem (by simp; omega))) (av 1 y _ (by rw [hx]; rfl) (Array.getElem?_eq_getElem (by simp; omega))) hr
      · exact hr.p.elim
    · exact hr.p.elim
  · rename_i t x i ok ho
    exact wpPure (by unfold execOp; rw [ho]) H hn (lookupV_ok hT H (opnd_ok tm _ _) (opnd_ok tm _ _) hr)
  · rename_i t m k v ho
    obtain ⟨w', h1, h2⟩ := updV_ok hT H hn (opnd_ok tm _ m) (opnd_ok tm _ k) (opnd_ok tm _ v) hr
    unfold Oper.wp execOp; rw [ho]
    simp only [Sem.run_bind, h1, Result.andThen_ok, Sem.run_pure, Oper.upon_skip]
    exact h2
  · rename_i t ho
    exact wpVal (by unfold execOp; rw [ho]; rfl) (mkmapV_ok hT H fr hn hr)
  · exact hr.p.elim

end
end Go.Ev
