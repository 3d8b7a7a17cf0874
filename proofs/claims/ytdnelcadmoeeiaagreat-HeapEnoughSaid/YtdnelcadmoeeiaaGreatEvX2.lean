/- More operations: what they tell. -/
import Derived.Test.YtdnelcadmoeeiaaGreatEvGrid
set_option linter.unusedVariables false
set_option linter.unusedSimpArgs false
namespace Go.Ev

section
variable {P : Program} {T : Tab} {Z : Base} {S : Nat → Prop} {w : World} {h : AHeap} {ρ : Rho} {K : AV → Ups → Nat → Prop} {nx : Nat}
  {a : Act} {s : St} {next : Act → World → Prop} {Q : Exit → Act → World → Prop} {o : Oper}

theorem optArg (tm : TM T S w h ρ s a) (x : Option Operand) : ∀ y v, x.map (opnd T 0 s) = some y → x.map a.eval = some v → VLt T S w h ρ y v := by
  intro y v h1 h2
  simp only [Option.map_eq_some_iff] at h1 h2
  obtain ⟨z, rfl, rfl⟩ := h1
  obtain ⟨z', hz, rfl⟩ := h2
  cases hz; exact opnd_ok tm _ _

theorem evOpG_ok (hT : TabOk P T) (H : HR T Z S h ρ w) (free : ∀ b, nx ≤ b → h b = .none) (tm : TM T S w h ρ s a)
    (hr : evOpG (Told P T) T o.op o.type s h nx K) (hn : Nexts T Z S w h ρ K fun u w' => next (a.put o.dst u) w') : o.wp P a w next Q := by
  have fr : Fr h nx K := frees free
  have old := fun (hr : evOp (Told P T) T o.op o.type s h nx K) => evOp_ok (Q := Q) hT H free tm hr hn
  generalize ho : o.op = op at hr
  rw [ho] at old
  unfold evOpG at hr
  split at hr
  · rename_i t p
    split at hr
    · exact wpPure (by unfold execOp; rw [ho]) H hn (gLoad_ok hT H (opnd_ok tm _ _) hr)
    · exact old hr
  · rename_i t p x
    split at hr
    · obtain ⟨w', h1, h2⟩ := gStore_ok hT H hn (opnd_ok tm o.type p) (opnd_ok tm t x) hr
      unfold Oper.wp execOp; rw [ho]
      simp only [Sem.run_bind, h1, Result.andThen_ok, Sem.run_pure, Oper.upon_skip]
      exact h2
    · exact old hr
  · rename_i t x i
    split at hr
    · exact wpPure (by unfold execOp; rw [ho]) H hn (gIndex_ok hT H (opnd_ok tm _ _) (opnd_ok tm _ _) hr)
    · exact old hr
  · rename_i t n ps
    split at hr
    · rename_i e c hk hps
      split at hr
      · obtain ⟨own, hr⟩ := hr.p
        cases own with
        | false => exact old hr
        | true =>
          simp only at hr
          obtain ⟨p1, p2⟩ := parts_ok tm ps
          have hs : ps.size = 1 := by
            have := congrArg List.length hps
            simpa using this
          have hm : (ps.map fun p => (p.1, a.eval p.2)).size = 1 := by simp [hs]
          obtain ⟨e1, e2⟩ := p2 0 (0, .ref c) ((ps.map fun p => (p.1, a.eval p.2))[0]'(by omega)) (by rw [hps]; rfl) (Array.getElem?_eq_getElem (by omega))
          have e3 : (ps.map fun p => (p.1, a.eval p.2)) = #[(0, ((ps.map fun p => (p.1, a.eval p.2))[0]'(by omega)).2)] := by
            apply Array.ext
            · simp [hs]
            · intro i h2 h3
              have hi : i = 0 := by simpa using h3
              subst hi
              refine Prod.ext ?_ rfl
              exact e1.symm
          refine wpVal (m := Instr.buildSlice t 1 (ps.map fun p => (p.1, a.eval p.2))) (by unfold execOp; rw [ho]) ?_
          rw [e3]
          exact gBuild_ok hT H fr hn hk e2 hr
      · exact old hr
    · exact old hr
  · rename_i c
    have al := argsOf_len T s c
    have av := argsOf_ok tm c
    split at hr
    · rename_i hc
      split at hr
      · rename_i x t hx ht
        split at hr
        · have h0 := zipOne ht
          have h1 : c.args.size = 1 := by rw [← al, hx]; rfl
          refine wpBuiltin (m := Builtin.len_ c.argTypes o.type (c.args.map a.eval)) ho hc (fun _ => rfl) ?_
          have hj : (c.args.map a.eval)[0]? = some ((c.args.map a.eval)[0]'(by simp; omega)) := Array.getElem?_eq_getElem (by simp; omega)
          obtain ⟨v, r, g1, g2, g3⟩ := gLen_ok (ty := o.type) (ts := c.argTypes) (us := c.args.map a.eval) hT H (by rw [h0]; rfl) hj (av 0 x _ (by rw [hx]; rfl) hj) hr
          exact Gives.pure hn H g1 g2 g3
        · exact old hr
      · exact old hr
    · rename_i hc
      split at hr
      · rename_i b1 b2 t u hx ht
        split at hr
        · have h0 := zipTwo ht
          have h1 : c.args.size = 2 := by rw [← al, hx]; rfl
          have e0 : (c.args.map a.eval) = #[(c.args.map a.eval)[0]'(by simp; omega), (c.args.map a.eval)[1]'(by simp; omega)] := by
            apply Array.ext
            · simp [h1]
            · intro i h2 h3
              simp at h3
              match i, h3 with
              | 0, _ => rfl
              | 1, _ => rfl
          refine wpBuiltin (m := Builtin.append_ c.argTypes o.type (c.args.map a.eval)) ho hc (fun _ => rfl) ?_
          rw [h0, e0]
          exact gAppend_ok hT H fr hn (av 0 _ _ (by rw [hx]; rfl) (Array.getElem?_eq_getElem (by simp; omega))) (av 1 _ _ (by rw [hx]; rfl) (Array.getElem?_eq_getElem (by simp; omega))) hr
        · exact old hr
      · exact old hr
    · exact old hr
  · exact old hr

theorem evOpZ_ok (hT : TabOk P T) (H : HR T Z S h ρ w) (free : ∀ b, nx ≤ b → h b = .none) (tm : TM T S w h ρ s a)
    (hr : evOpZ (Told P T) T o.op o.type s h nx K) (hn : Nexts T Z S w h ρ K fun u w' => next (a.put o.dst u) w') : o.wp P a w next Q := by
  have fr : Fr h nx K := frees free
  have old := fun (hr : evOpG (Told P T) T o.op o.type s h nx K) => evOpG_ok (Q := Q) hT H free tm hr hn
  generalize ho : o.op = op at hr
  rw [ho] at old
  unfold evOpZ at hr
  split at hr
  · rename_i src dst x
    split at hr
    · rename_i e hb hk
      obtain rfl := Nat.eq_of_beq_eq_true hb
      exact wpVal (by unfold execOp; rw [ho]) (convSS_ok hT H hn hk (opnd_ok tm _ _) hr)
    · exact old hr
  · rename_i t x lo hi mx
    split at hr
    · rename_i e b i n hk hx
      have hv := opnd_ok tm o.type x
      rw [hx] at hv
      exact wpPure (by unfold execOp; rw [ho]) H hn (sliceSub_ok hT H hk hv (by simp) (by simp) (by simp) (optArg tm lo) (optArg tm hi) hr)
    · rename_i e b hk hx
      have hv := opnd_ok tm o.type x
      rw [hx] at hv
      split at hr
      · rename_i e' es l m hb hl hm
        cases lo with
        | none => cases hl
        | some lo =>
          cases mx with
          | none => cases hm
          | some mx =>
            cases hl
            cases hm
            exact wpPure (by unfold execOp; rw [ho]; rfl) H hn (slice3_ok hT H hk hb hv (by simp) (opnd_ok tm 0 lo) (optArg tm hi) (opnd_ok tm 0 mx) hr)
      · exact old hr
    · exact old hr
  · rename_i c
    split at hr
    · rename_i hc
      split at hr
      · rename_i b i n y t u hx ht
        have al := argsOf_len T s c
        have av := argsOf_ok tm c
        have h0 := zipTwo ht
        have h1 : c.args.size = 2 := by rw [← al, hx]; rfl
        have e0 : (c.args.map a.eval) = #[(c.args.map a.eval)[0]'(by simp; omega), (c.args.map a.eval)[1]'(by simp; omega)] := by
          apply Array.ext
          · simp [h1]
          · intro i h2 h3
            simp at h3
            match i, h3 with
            | 0, _ => rfl
            | 1, _ => rfl
        refine wpBuiltin (m := Builtin.append_ c.argTypes o.type (c.args.map a.eval)) ho hc (fun _ => rfl) ?_
        rw [h0, e0]
        exact appendSub_ok hT H fr hn (av 0 _ _ (by rw [hx]; rfl) (Array.getElem?_eq_getElem (by simp; omega))) (av 1 _ _ (by rw [hx]; rfl) (Array.getElem?_eq_getElem (by simp; omega))) hr
      · exact old hr
    · exact old hr
  · exact old hr

theorem evOpN_ok (hT : TabOk P T) (H : HR T Z S h ρ w) (free : ∀ b, nx ≤ b → h b = .none) (tm : TM T S w h ρ s a)
    (hr : evOpN (Told P T) T o.op o.type s h nx K) (hn : Nexts T Z S w h ρ K fun u w' => next (a.put o.dst u) w') : o.wp P a w next Q := by
  have fr : Fr h nx K := frees free
  have old := fun (hr : evOpZ (Told P T) T o.op o.type s h nx K) => evOpZ_ok (Q := Q) hT H free tm hr hn
  generalize ho : o.op = op at hr
  rw [ho] at old
  unfold evOpN at hr
  split at hr
  · rename_i op t x y z
    have key : ∀ {e e2 : Nat} {R : Bool → Prop}, (T t).k = .slice e → opnd T t s y = .nsl e2 → eqNil h (opnd T t s x) R → ∃ b, R b ∧ (Op.equal t (a.eval x) (a.eval y)).run P w = .ok b w ∧ a.eval y = .slice none 0 0 ∧ ∃ oa n cap, a.eval x = .slice oa n cap := by
      intro e e2 R hk hy hr
      have hv := opnd_ok tm t y
      rw [hy] at hv
      obtain ⟨b, h1, h2⟩ := eqNil_ok hT H hk (opnd_ok tm t x) hv hr
      refine ⟨b, h1, h2, vl_nsl hv, ?_⟩
      have hx := opnd_ok tm t x
      generalize opnd T t s x = q at hx hr
      cases q with
      | nsl e3 => exact ⟨_, _, _, vl_nsl hx⟩
      | lst e3 es => obtain ⟨oa, cap, r, _⟩ := (show VF T S w (.lst e3 es) _ from hx).lst_to; exact ⟨_, _, _, r⟩
      | ref b =>
        have hx' : VLc T S w h ρ (.ref b) (a.eval x) := hx
        unfold eqNil at hr
        cases hb : h b <;> simp only [hb] at hr <;> simp only [VLc, hb, vw] at hx' <;> first
          | exact hr.p.elim
          | (obtain ⟨oa, cap, _, r⟩ := hx'; exact ⟨_, _, _, r⟩)
      | _ => exact hr.p.elim
    split at hr
    · rename_i e e2 hk hy
      obtain ⟨b, h1, h2, h3, oa, n, cap, h4⟩ := key hk hy hr
      refine wpPure (m := (do eqGuard .eql t x y (a.eval x) (a.eval y); binOp .eql t (a.eval x) (a.eval y) : Sem Value)) (by unfold execOp; rw [ho]) H hn ⟨_, _, h1, ?_, VF.bool b⟩
      rw [h3, h4] at h2 ⊢
      have g : (eqGuard .eql t x y (.slice oa n cap) (.slice none 0 0)).run P w = .ok () w := by simp [eqGuard]
      have e : binOp .eql t (.slice oa n cap) (.slice none 0 0) = (do pure (Value.bool (← Op.equal t (.slice oa n cap) (.slice none 0 0))) : Sem Value) := rfl
      simp only [Sem.run_bind, g, Result.andThen_ok, e, h2, Sem.run_pure]
    · rename_i e e2 hk hy
      obtain ⟨b, h1, h2, h3, oa, n, cap, h4⟩ := key hk hy hr
      refine wpPure (m := (do eqGuard .neq t x y (a.eval x) (a.eval y); binOp .neq t (a.eval x) (a.eval y) : Sem Value)) (by unfold execOp; rw [ho]) H hn ⟨_, _, h1, ?_, VF.bool _⟩
      rw [h3, h4] at h2 ⊢
      have g : (eqGuard .neq t x y (.slice oa n cap) (.slice none 0 0)).run P w = .ok () w := by simp [eqGuard]
      have e : binOp .neq t (.slice oa n cap) (.slice none 0 0) = (do pure (Value.bool (!(← Op.equal t (.slice oa n cap) (.slice none 0 0)))) : Sem Value) := rfl
      simp only [Sem.run_bind, g, Result.andThen_ok, e, h2, Sem.run_pure]
    · exact old hr
  · rename_i t x lo hi mx
    split at hr
    · rename_i e b hk hx
      have hv := opnd_ok tm o.type x
      rw [hx] at hv
      split at hr
      · rename_i e' es c hb
        exact wpVal (by unfold execOp; rw [ho]) (sliceC_ok hT H fr hn hk hb hv (by simp) (by simp) (by simp) (optArg tm hi) hr)
      · exact old hr
    · exact old hr
  · rename_i c
    split at hr
    · rename_i hc
      split at hr
      · rename_i b t hx ht
        have al := argsOf_len T s c
        have av := argsOf_ok tm c
        have h0 := zipOne ht
        have h1 : c.args.size = 1 := by rw [← al, hx]; rfl
        have e0 : (c.args.map a.eval) = #[(c.args.map a.eval)[0]'(by simp; omega)] := by
          apply Array.ext
          · simp [h1]
          · intro i h2 h3
            simp at h3
            match i, h3 with
            | 0, _ => rfl
        refine wpBuiltin (m := Builtin.cap_ c.argTypes o.type (c.args.map a.eval)) ho hc (fun _ => rfl) ?_
        rw [h0, e0]
        exact capV_ok hT H hn (av 0 _ _ (by rw [hx]; rfl) (Array.getElem?_eq_getElem (by simp; omega))) hr
      · exact hr.p.elim
    · exact old hr
  · exact old hr

theorem det_convSS (T : Tab) (e : Nat) (v : AV) (h : AHeap) (nx : Nat) : Det (convSS T e v h nx) := by
  intro K
  unfold convSS
  repeat' split
  all_goals intro hr
  all_goals first
    | exact ⟨_, _, _, hr.p, ⟨hr.c, rfl, rfl, rfl⟩⟩
    | exact hr.p.elim
theorem det_sliceSub (T : Tab) (e b i n : Nat) (lo hi mx : Option AV) (h : AHeap) : DetQ (sliceSub T e b i n lo hi mx h) := by
  intro Q
  unfold sliceSub
  repeat' split
  all_goals intro hr
  all_goals first
    | exact ⟨_, hr.p, ⟨hr.lo, hr.mid, hr.hi, rfl⟩⟩
    | exact hr.p.elim
theorem det_slice3 (T : Tab) (e e' : Nat) (es : List AV) (lo : AV) (hi : Option AV) (mx : AV) : DetQ (slice3 T e e' es lo hi mx) := by
  intro Q
  unfold slice3
  repeat' split
  all_goals intro hr
  all_goals first
    | exact ⟨_, hr.p.p, ⟨hr.lo, hr.mid, hr.hi, ⟨hr.p.c, rfl⟩⟩⟩
    | exact hr.p.elim
theorem det_appendSub (T : Tab) (t u b i n : Nat) (y : AV) (h : AHeap) (nx : Nat) : Det (appendSub T t u b i n y h nx) := by
  intro K
  unfold appendSub
  repeat' split
  all_goals intro hr
  all_goals first
    | exact ⟨_, _, _, hr.p, ⟨hr.c, rfl, rfl, rfl⟩⟩
    | exact ⟨_, _, _, hr.p.p.p, ⟨hr.c, hr.p.c, hr.p.p.n, rfl, rfl, rfl⟩⟩
    | exact hr.p.elim

theorem det_gnode {gs : List (Bool × List AV)} {i : Nat} {F : Bool → List AV → (AV → Prop) → Prop} (hF : ∀ o es, DetQ (F o es)) : DetQ fun Q => GNode gs i fun o es => F o es Q := by
  intro Q hr
  obtain ⟨o, es, h1, h2⟩ := hr.p
  obtain ⟨v, h3, h4⟩ := hF o es _ h2
  exact ⟨v, h3, ⟨o, es, h1, h4⟩⟩
theorem det_gLoad (T : Tab) (t : Nat) (p : AV) (h : AHeap) : DetQ (gLoad T t p h) := by
  intro Q
  unfold gLoad
  repeat' split
  all_goals intro hr
  all_goals first
    | exact hr.p.elim
    | (refine det_gnode (F := fun o es Q => match o with | true => Q (.gref _ _) | false => Q (.lst _ es)) (fun o es Q hq => ?_) _ hr
       cases o
       · exact ⟨_, hq, rfl⟩
       · exact ⟨_, hq, rfl⟩)
    | (refine det_gnode (F := fun o es Q => match o with | true => At es _ fun x => readAt (T t) x 0 Q | false => Stuck) (fun o es Q hq => ?_) _ hr
       cases o
       · exact hq.p.elim
       · obtain ⟨x, hx, hq⟩ := hq.p
         obtain ⟨v, h1, h2⟩ := det_readAt _ _ _ _ hq
         exact ⟨v, h1, ⟨x, hx, h2⟩⟩)
theorem det_gIndex (T : Tab) (t : Nat) (x i : AV) (h : AHeap) : DetQ (gIndex T t x i h) := by
  intro Q
  unfold gIndex
  repeat' split
  all_goals intro hr
  all_goals first
    | exact hr.p.elim
    | exact ⟨_, hr.p, ⟨hr.lo, hr.hi, rfl⟩⟩
    | (refine det_gnode (F := fun o es Q => match o with | true => InB _ es.length (Q (.gptr _ _ _ 0)) | false => Stuck) (fun o es Q hq => ?_) _ hr
       cases o
       · exact hq.p.elim
       · exact ⟨_, hq.p, ⟨hq.lo, hq.hi, rfl⟩⟩)
theorem det_gLen (T : Tab) (t : Nat) (x : AV) (h : AHeap) : DetQ (gLen T t x h) := by
  intro Q
  unfold gLen
  repeat' split
  all_goals intro hr
  all_goals first
    | exact hr.p.elim
    | exact ⟨_, hr, rfl⟩
    | (refine det_gnode (F := fun o es Q => match o with | true => Q (.int .i64 es.length) | false => Stuck) (fun o es Q hq => ?_) _ hr
       cases o
       · exact hq.p.elim
       · exact ⟨_, hq, rfl⟩)
theorem det_gStore (T : Tab) (t : Nat) (p y : AV) (h : AHeap) (nx : Nat) : Det (gStore T t p y h nx) := by
  intro K
  unfold gStore
  repeat' split
  all_goals intro hr
  all_goals first
    | exact hr.p.elim
    | (obtain ⟨o, es, h1, h2⟩ := hr.p
       cases o
       · first
         | exact h2.p.elim
         | exact ⟨_, _, _, h2, ⟨_, _, h1, rfl, rfl, rfl⟩⟩
       · first
         | exact h2.p.elim
         | exact ⟨_, _, _, h2, ⟨_, _, h1, rfl, rfl, rfl⟩⟩)
theorem det_gBuild (T : Tab) (e c : Nat) (h : AHeap) (nx : Nat) : Det (gBuild T e c h nx) := by
  intro K
  unfold gBuild
  repeat' split
  all_goals intro hr
  all_goals first
    | exact hr.p.elim
    | exact ⟨_, _, _, hr, rfl, rfl, rfl⟩
theorem det_gAppend (T : Tab) (t u a c : Nat) (h : AHeap) (nx : Nat) : Det (gAppend T t u a c h nx) := by
  intro K
  unfold gAppend
  repeat' split
  all_goals intro hr
  all_goals first
    | exact hr.p.elim
    | exact ⟨_, _, _, hr.p, ⟨hr.n, rfl, rfl, rfl⟩⟩
theorem det_evOpG (D : Den) (T : Tab) (o : Op) (ty : Nat) (s : St) (h : AHeap) (nx : Nat) : Det (evOpG D T o ty s h nx) := by
  intro K
  unfold evOpG
  repeat' split
  all_goals first
    | exact det_evOp _ _ _ _ _ _ _ _
    | exact Det.q (det_gLoad _ _ _ _) nx _
    | exact det_gStore _ _ _ _ _ _ _
    | exact Det.q (det_gIndex _ _ _ _ _) nx _
    | exact Det.q (det_gLen _ _ _ _) nx _
    | exact det_gAppend _ _ _ _ _ _ _ _
    | skip
  all_goals
    intro hr
    obtain ⟨own, hr⟩ := hr.p
    cases own with
    | false =>
      obtain ⟨v, us, nx', h1, h2⟩ := det_evOp _ _ _ _ _ _ _ _ hr
      exact ⟨v, us, nx', h1, ⟨false, h2⟩⟩
    | true =>
      obtain ⟨v, us, nx', h1, h2⟩ := det_gBuild _ _ _ _ _ _ hr
      exact ⟨v, us, nx', h1, ⟨true, h2⟩⟩

theorem det_evOpZ (D : Den) (T : Tab) (o : Op) (ty : Nat) (s : St) (h : AHeap) (nx : Nat) : Det (evOpZ D T o ty s h nx) := by
  intro K
  unfold evOpZ
  repeat' split
  all_goals first
    | exact det_evOpG _ _ _ _ _ _ _ _
    | exact det_convSS _ _ _ _ _ _
    | exact Det.q (det_sliceSub _ _ _ _ _ _ _ _ _) nx _
    | exact Det.q (det_slice3 _ _ _ _ _ _ _) nx _
    | exact det_appendSub _ _ _ _ _ _ _ _ _ _

end
end Go.Ev
