/- An operation sees what its operands lead to. -/
import Derived.Test.YtdnelcadmoeeiaaGreatEvRun
set_option linter.unusedVariables false
set_option linter.unusedSimpArgs false
namespace Go.Ev

section
variable {P : Program} {T : Tab} {Z : Base} {S S' : Nat → Prop} {w w' : World} {h h' : AHeap} {ρ ρ' : Rho} {nx : Nat}
  {a : Act} {s s' : St} {R : List Nat}

theorem evOp_congr (D : Den) (T : Tab) (o : Op) (ty : Nat) (h : AHeap) (nx : Nat) (K : AV → Ups → Nat → Prop) (hs : ∀ x ∈ o.operands.toList, ∀ t, x = .tmp t → s t = s' t) :
    evOp D T o ty s h nx K = evOp D T o ty s' h nx K := by
  have key : ∀ x ∈ o.operands.toList, ∀ ty, opnd T ty s x = opnd T ty s' x := by
    intro x hx ty
    cases x with
    | tmp t => exact hs _ hx t rfl
    | _ => rfl
  cases o with
  | move x => simp only [evOp, key x (by simp [Op.operands])]
  | assign x => simp only [evOp, key x (by simp [Op.operands])]
  | pick c x y => simp only [evOp, key c (by simp [Op.operands]), key x (by simp [Op.operands]), key y (by simp [Op.operands])]
  | alloc t => rfl
  | box t x => simp only [evOp, key x (by simp [Op.operands])]
  | build t ps =>
    have : (ps.toList.map fun p => (p.1, opnd T 0 s p.2)) = (ps.toList.map fun p => (p.1, opnd T 0 s' p.2)) := List.map_congr_left fun p hp => by
      rw [key p.2 (by simp only [Op.operands]; exact List.mem_map.2 ⟨p, hp, rfl⟩)]
    simp only [evOp, this]
  | buildSlice t n ps =>
    have : (ps.toList.map fun p => (p.1, opnd T 0 s p.2)) = (ps.toList.map fun p => (p.1, opnd T 0 s' p.2)) := List.map_congr_left fun p hp => by
      rw [key p.2 (by simp only [Op.operands]; exact List.mem_map.2 ⟨p, hp, rfl⟩)]
    simp only [evOp, this]
  | load t x => simp only [evOp, key x (by simp [Op.operands])]
  | store t p x => simp only [evOp, key p (by simp [Op.operands]), key x (by simp [Op.operands])]
  | nilCheck x => simp only [evOp, key x (by simp [Op.operands])]
  | binOp op t x y z => simp only [evOp, key x (by simp [Op.operands]), key y (by simp [Op.operands])]
  | unOp op t x => simp only [evOp, key x (by simp [Op.operands])]
  | convert u v x => simp only [evOp, key x (by simp [Op.operands])]
  | makeSlice t x y => simp only [evOp, key x (by simp [Op.operands]), key y (by simp [Op.operands])]
  | slice t x lo hi mx =>
    have e1 : lo.map (opnd T 0 s) = lo.map (opnd T 0 s') := by cases lo with | none => rfl | some y => simp [key y (by simp [Op.operands])]
    have e2 : hi.map (opnd T 0 s) = hi.map (opnd T 0 s') := by cases hi with | none => rfl | some y => simp [key y (by simp [Op.operands])]
    have e3 : mx.map (opnd T 0 s) = mx.map (opnd T 0 s') := by cases mx with | none => rfl | some y => simp [key y (by simp [Op.operands])]
    simp only [evOp, key x (by simp [Op.operands]), e1, e2, e3]
  | fieldAddr t x f => simp only [evOp, key x (by simp [Op.operands])]
  | field t x f => simp only [evOp, key x (by simp [Op.operands])]
  | indexAddr t x y => simp only [evOp, key x (by simp [Op.operands]), key y (by simp [Op.operands])]
  | extract x i => simp only [evOp, key x (by simp [Op.operands])]
  | makeFunc f first caps =>
    have e1 : caps.toList.map (opnd T 0 s) = caps.toList.map (opnd T 0 s') := List.map_congr_left fun x hx => key x (by simp only [Op.operands, Array.toList_append]; exact List.mem_append.2 (.inr hx)) 0
    cases f <;> simp only [evOp, e1]
  | call c =>
    have e1 : argsOf T s c = argsOf T s' c := by
      unfold argsOf
      refine List.map_congr_left fun p hp => key p.1 ?_ _
      have : p.1 ∈ c.args.toList := by
        have := List.mem_zipIdx' hp
        rw [this.2]; exact List.getElem_mem _
      simp only [Op.operands, Call.operands]
      first
        | (simp; exact .inr (by simpa using this))
        | (split <;> simp <;> first | exact .inr (by simpa using this) | exact (by simpa using this))
    simp only [evOp, e1]
    cases hc : c.callee with
    | value g =>
      cases g with
      | func f => rfl
      | tmp t =>
        have e2 := key (.tmp t) (by simp [Op.operands, Call.operands, hc]) 0
        simp only [e2]
      | const v => rfl
      | global g => rfl
    | builtin b => cases b <;> rfl
    | invoke x m => rfl
  | lookup t x i ok => simp only [evOp, key x (by simp [Op.operands]), key i (by simp [Op.operands])]
  | mapUpdate t m k v => simp only [evOp, key m (by simp [Op.operands]), key k (by simp [Op.operands]), key v (by simp [Op.operands])]
  | makeMap t r => cases r <;> rfl
  | _ => rfl

theorem evOpG_congr (D : Den) (T : Tab) (o : Op) (ty : Nat) (h : AHeap) (nx : Nat) (K : AV → Ups → Nat → Prop) (hs : ∀ x ∈ o.operands.toList, ∀ t, x = .tmp t → s t = s' t) :
    evOpG D T o ty s h nx K = evOpG D T o ty s' h nx K := by
  have old := evOp_congr D T o ty h nx K hs
  have key : ∀ x ∈ o.operands.toList, ∀ ty, opnd T ty s x = opnd T ty s' x := by
    intro x hx ty
    cases x with
    | tmp t => exact hs _ hx t rfl
    | _ => rfl
  cases o with
  | load t p => simp only [evOpG, key p (by simp [Op.operands]), old]
  | store t p x => simp only [evOpG, key p (by simp [Op.operands]), key x (by simp [Op.operands]), old]
  | indexAddr t x i => simp only [evOpG, key x (by simp [Op.operands]), key i (by simp [Op.operands]), old]
  | buildSlice t n ps =>
    have e1 : ps.toList.map (fun p => (p.1, opnd T 0 s p.2)) = ps.toList.map (fun p => (p.1, opnd T 0 s' p.2)) := by
      refine List.map_congr_left fun p hp => ?_
      rw [key p.2 (by simp only [Op.operands]; simp; exact ⟨_, by simpa using hp⟩)]
    simp only [evOpG, e1, old]
  | call c =>
    have e1 : argsOf T s c = argsOf T s' c := by
      unfold argsOf
      refine List.map_congr_left fun p hp => key p.1 ?_ _
      have : p.1 ∈ c.args.toList := by
        have := List.mem_zipIdx' hp
        rw [this.2]; exact List.getElem_mem _
      simp only [Op.operands, Call.operands]
      first
        | (simp; exact .inr (by simpa using this))
        | (split <;> simp <;> first | exact .inr (by simpa using this) | exact (by simpa using this))
    simp only [evOpG, e1, old]
  | _ => exact old

theorem evOpZ_congr (D : Den) (T : Tab) (o : Op) (ty : Nat) (h : AHeap) (nx : Nat) (K : AV → Ups → Nat → Prop) (hs : ∀ x ∈ o.operands.toList, ∀ t, x = .tmp t → s t = s' t) :
    evOpZ D T o ty s h nx K = evOpZ D T o ty s' h nx K := by
  have old := evOpG_congr D T o ty h nx K hs
  have key : ∀ x ∈ o.operands.toList, ∀ ty, opnd T ty s x = opnd T ty s' x := by
    intro x hx ty
    cases x with
    | tmp t => exact hs _ hx t rfl
    | _ => rfl
  cases o with
  | convert u v x => simp only [evOpZ, key x (by simp [Op.operands]), old]
  | slice t x lo hi mx =>
    have e1 : lo.map (opnd T 0 s) = lo.map (opnd T 0 s') := by cases lo with | none => rfl | some y => simp [key y (by simp [Op.operands])]
    have e2 : hi.map (opnd T 0 s) = hi.map (opnd T 0 s') := by cases hi with | none => rfl | some y => simp [key y (by simp [Op.operands])]
    have e3 : mx.map (opnd T 0 s) = mx.map (opnd T 0 s') := by cases mx with | none => rfl | some y => simp [key y (by simp [Op.operands])]
    simp only [evOpZ, key x (by simp [Op.operands]), e1, e2, e3, old]
  | call c =>
    have e1 : argsOf T s c = argsOf T s' c := by
      unfold argsOf
      refine List.map_congr_left fun p hp => key p.1 ?_ _
      have : p.1 ∈ c.args.toList := by
        have := List.mem_zipIdx' hp
        rw [this.2]; exact List.getElem_mem _
      simp only [Op.operands, Call.operands]
      first
        | (simp; exact .inr (by simpa using this))
        | (split <;> simp <;> first | exact .inr (by simpa using this) | exact (by simpa using this))
    simp only [evOpZ, e1, old]
  | _ => exact old

theorem only_in {b : Nat} (hb : b ∈ R) : only R h b = h b := by
  have : R.contains b = true := by simpa using hb
  simp only [only, this, cond_true]
theorem only_out {b : Nat} (hb : b ∉ R) : only R h b = .none := by
  have : R.contains b = false := by simpa using hb
  simp only [only, this, cond_false]

/-- What a cell leads to is all that counts. -/
theorem VLc.of_view {x : AV} {v : Value} (hv : VLc T S w h ρ x v) (hb : ∀ b ∈ leads1 x, vw (h' b) = vw (h b) ∧ ρ' b = ρ b) : VLc T S w h' ρ' x v := by
  cases x with
  | ref b => obtain ⟨e1, e2⟩ := hb b (by simp [leads1]); simp only [VLc, e1, e2] at hv ⊢; exact hv
  | sub b i n => obtain ⟨e1, e2⟩ := hb b (by simp [leads1]); simp only [VLc, e1, e2] at hv ⊢; exact hv
  | fsub b n => obtain ⟨e1, e2⟩ := hb b (by simp [leads1]); simp only [VLc, e1, e2] at hv ⊢; exact hv
  | ptr b i off => obtain ⟨e1, e2⟩ := hb b (by simp [leads1]); simp only [VLc, e1, e2] at hv ⊢; exact hv
  | mp b => obtain ⟨e1, e2⟩ := hb b (by simp [leads1]); simp only [VLc, e1, e2] at hv ⊢; exact hv
  | gref b i => obtain ⟨e1, e2⟩ := hb b (by simp [leads1]); simp only [VLc, e1, e2] at hv ⊢; exact hv
  | gptr b i j off => obtain ⟨e1, e2⟩ := hb b (by simp [leads1]); simp only [VLc, e1, e2] at hv ⊢; exact hv
  | _ => exact hv

theorem VLv.of_view {x : AV} {v : Value} (hv : VLv T S w h ρ x v) (hb : ∀ b ∈ leads2 x, vw (h' b) = vw (h b) ∧ ρ' b = ρ b) : VLv T S w h' ρ' x v := by
  cases x with
  | agg cs =>
    obtain ⟨vs, rfl, hl, hc⟩ := hv
    exact ⟨vs, rfl, hl, fun j c u a b => ⟨(hc j c u a b).1.of_view fun k hk => hb k (List.mem_flatMap.2 ⟨c, List.mem_of_getElem? a, hk⟩), (hc j c u a b).2⟩⟩
  | fn f caps =>
    obtain ⟨vs, rfl, hl, hc⟩ := hv
    exact ⟨vs, rfl, hl, fun j c u a b => (hc j c u a b).of_view fun k hk => hb k (List.mem_flatMap.2 ⟨c, List.mem_of_getElem? a, hk⟩)⟩
  | ref b => exact VLc.of_view (T := T) (S := S) (w := w) (x := .ref b) hv hb
  | sub b i n => exact VLc.of_view (T := T) (S := S) (w := w) (x := .sub b i n) hv hb
  | fsub b n => exact VLc.of_view (T := T) (S := S) (w := w) (x := .fsub b n) hv hb
  | ptr b i off => exact VLc.of_view (T := T) (S := S) (w := w) (x := .ptr b i off) hv hb
  | mp b => exact VLc.of_view (T := T) (S := S) (w := w) (x := .mp b) hv hb
  | gref b i => exact VLc.of_view (T := T) (S := S) (w := w) (x := .gref b i) hv hb
  | gptr b i j off => exact VLc.of_view (T := T) (S := S) (w := w) (x := .gptr b i j off) hv hb
  | _ => exact hv

theorem VLt.of_view {x : AV} {v : Value} (hv : VLt T S w h ρ x v) (hb : ∀ b ∈ leads3 x, vw (h' b) = vw (h b) ∧ ρ' b = ρ b) : VLt T S w h' ρ' x v := by
  cases x with
  | tup xs =>
    obtain ⟨vs, rfl, hl, hc⟩ := hv
    exact ⟨vs, rfl, hl, fun j c u a b => (hc j c u a b).of_view fun k hk => hb k (List.mem_flatMap.2 ⟨c, List.mem_of_getElem? a, hk⟩)⟩
  | agg cs => exact VLv.of_view (T := T) (S := S) (w := w) (x := .agg cs) hv hb
  | fn f caps => exact VLv.of_view (T := T) (S := S) (w := w) (x := .fn f caps) hv hb
  | ref b => exact VLc.of_view (T := T) (S := S) (w := w) (x := .ref b) hv hb
  | sub b i n => exact VLc.of_view (T := T) (S := S) (w := w) (x := .sub b i n) hv hb
  | fsub b n => exact VLc.of_view (T := T) (S := S) (w := w) (x := .fsub b n) hv hb
  | ptr b i off => exact VLc.of_view (T := T) (S := S) (w := w) (x := .ptr b i off) hv hb
  | mp b => exact VLc.of_view (T := T) (S := S) (w := w) (x := .mp b) hv hb
  | gref b i => exact VLc.of_view (T := T) (S := S) (w := w) (x := .gref b i) hv hb
  | gptr b i j off => exact VLc.of_view (T := T) (S := S) (w := w) (x := .gptr b i j off) hv hb
  | _ => exact hv

theorem closed_of (hc : closedB h R = true) {b c : Nat} (hb : b ∈ R) (h1 : c ∈ leadsB (h b)) : c ∈ R := by
  have := List.all_eq_true.1 (List.all_eq_true.1 hc b hb) c h1
  simpa using this

/-- Some blocks alone, under their own numbers. -/
theorem HR.only (H : HR T Z S h ρ w) (hc : closedB h R = true) : HR T ⟨w, fun blk => blk < w.heap.size ∧ ∀ b ∈ R, isLive (h b) = true → blk ∉ realL (ρ b), S⟩ S (only R h) ρ w := by
  have inv : ∀ b, isLive (Ev.only R h b) = true → b ∈ R ∧ isLive (h b) = true := by
    intro b hb
    by_cases h1 : b ∈ R
    · rw [only_in h1] at hb; exact ⟨h1, hb⟩
    · rw [only_out h1] at hb; cases hb
  refine ⟨fun b => ?_, fun b blk hb hr => ?_, fun b c blk hne hb hc hr => H.apart b c blk hne (inv b hb).2 (inv c hc).2 hr, H.sS, fun blk hb => .inl hb, fun _ _ => rfl, Nat.le_refl _, rfl, rfl, rfl, fun blk hb => hb.1⟩
  · by_cases h1 : b ∈ R
    · have hv : ∀ c ∈ leadsB (h b), vw (Ev.only R h c) = vw (h c) ∧ ρ c = ρ c := fun c hc' => ⟨by rw [only_in (closed_of hc h1 hc')], rfl⟩
      have h0 := H.hb b
      unfold HB at h0 ⊢
      rw [only_in h1]
      cases hx : h b with
      | var x =>
        rw [hx] at h0 hv
        obtain ⟨blk, o, r1, r2, r3⟩ := h0
        refine ⟨blk, o, r1, fun j c hj => ?_, r3⟩
        obtain ⟨u, u1, u2, u3⟩ := r2 j c hj
        exact ⟨u, u1, u2, u3.of_view fun k hk => hv k (List.mem_flatMap.2 ⟨c, List.mem_of_getElem? hj, hk⟩)⟩
      | none => trivial
      | dead => trivial
      | fv x => rw [hx] at h0; exact h0
      | row e es => rw [hx] at h0; exact h0
      | fz e es => rw [hx] at h0; exact h0
      | map es => rw [hx] at h0; exact h0
      | rowc e es c => rw [hx] at h0; exact h0
      | grid e e' gs => rw [hx] at h0; exact h0
      | fzg e es => rw [hx] at h0; exact h0
    · unfold HB; rw [only_out h1]; trivial
  · obtain ⟨h1, h2⟩ := inv b hb
    exact ⟨(H.own b blk h2 hr).1, (H.own b blk h2 hr).2.1, fun hB => hB.2 b h1 h2 hr⟩

theorem happ_congr {us : Ups} : ∀ {h h' : AHeap} {b : Nat}, (h b = h' b ∨ b ∈ us.map (·.1)) → happ h us b = happ h' us b := by
  induction us with
  | nil =>
    intro h h' b hb
    rcases hb with hb | hb
    · exact hb
    · simp at hb
  | cons p us ih =>
    intro h h' b hb
    simp only [happ]
    refine ih ?_
    by_cases h1 : b = p.1
    · subst h1; left; rw [hset_same, hset_same]
    · rcases hb with hb | hb
      · left; rw [hset_ne _ _ h1, hset_ne _ _ h1]; exact hb
      · right
        simp only [List.map_cons, List.mem_cons] at hb
        exact hb.resolve_left h1

/-- What was done to some blocks, seen from all. -/
theorem HR.frame (H : HR T Z S h ρ w) {us : Ups} (hk : ∀ p ∈ us, p.1 ∈ R ∨ h p.1 = .none)
    (H' : HR T ⟨w, fun blk => blk < w.heap.size ∧ ∀ b ∈ R, isLive (h b) = true → blk ∉ realL (ρ b), S⟩ S' (happ (Ev.only R h) us) ρ' w') (G' : Goes T S w (Ev.only R h) ρ S' w' (happ (Ev.only R h) us) ρ') :
    ∃ ρ2, HR T Z S' (happ h us) ρ2 w' ∧ Goes T S w h ρ S' w' (happ h us) ρ2 ∧ ∀ v u, VLt T S' w' (happ (Ev.only R h) us) ρ' v u → VLt T S' w' (happ h us) ρ2 v u := by
  classical
  let U : Nat → Prop := fun b => b ∈ R ∨ b ∈ us.map (·.1)
  let ρ2 : Rho := fun b => if U b then ρ' b else ρ b
  have inU : ∀ b, U b → happ h us b = happ (Ev.only R h) us b ∧ ρ2 b = ρ' b := by
    intro b hb
    refine ⟨happ_congr (hb.imp (fun h1 => (only_in h1).symm) id), if_pos hb⟩
  have outU : ∀ b, ¬ U b → happ h us b = h b ∧ ρ2 b = ρ b ∧ happ (Ev.only R h) us b = .none := by
    intro b hb
    have h1 : ∀ p ∈ us, p.1 ≠ b := fun p hp e => hb (.inr (List.mem_map.2 ⟨p, hp, e⟩))
    exact ⟨happ_none h1, if_neg hb, by rw [happ_none h1, only_out fun h2 => hb (.inl h2)]⟩
  have G1 : Goes T S' w' (happ (Ev.only R h) us) ρ' S' w' (happ h us) ρ2 := by
    refine ⟨fun _ h => h, fun _ _ => rfl, fun b => ?_⟩
    by_cases hb : U b
    · rw [(inU b hb).1, (inU b hb).2]; exact BSt.refl ..
    · left; rw [(outU b hb).2.2]; rfl
  have G2 : Goes T S w h ρ S' w' (happ h us) ρ2 := by
    refine ⟨G'.s, G'.w, fun b => ?_⟩
    by_cases hb : U b
    · rw [(inU b hb).1, (inU b hb).2]
      by_cases h1 : b ∈ R
      · have := G'.b b; rw [only_in h1] at this; exact this
      · left
        rcases hb with hb | hb
        · exact absurd hb h1
        · obtain ⟨p, hp, rfl⟩ := List.mem_map.1 hb
          rw [(hk p hp).resolve_left h1]; rfl
    · rw [(outU b hb).1, (outU b hb).2.1]; exact BSt.refl ..
  have zB : ∀ blk, Z.B blk → blk < w.heap.size ∧ ∀ b ∈ R, isLive (h b) = true → blk ∉ realL (ρ b) := fun blk hz =>
    ⟨Nat.lt_of_lt_of_le (H.zB blk hz) H.big, fun b _ hl hr => (H.own b blk hl hr).2.2 hz⟩
  have far : ∀ b blk, ¬ U b → isLive (h b) = true → blk ∈ realL (ρ b) → blk < w.heap.size ∧ ∀ c ∈ R, isLive (h c) = true → blk ∉ realL (ρ c) := fun b blk hb hl hr =>
    ⟨(H.own b blk hl hr).1, fun c hc hlc => H.apart b c blk (fun e => hb (.inl (e ▸ hc))) hl hlc hr⟩
  refine ⟨ρ2, ⟨fun b => ?_, fun b blk hb hr => ?_, fun b c blk hne hb hc hr hr' => ?_, H'.sS, fun blk hs => ?_, fun blk hz => ?_, Nat.le_trans H.big H'.big, H'.os.trans H.os, H'.tape.trans H.tape, H'.output.trans H.output, H.zB⟩, G2, fun v u hv => G1.vlt hv⟩
  · by_cases hb : U b
    · exact (H'.hb b).keep G1 (inU b hb).1 (inU b hb).2 fun _ _ _ => rfl
    · exact (H.hb b).keep G2 (outU b hb).1 (outU b hb).2.1 fun blk hl hr => H'.prot blk (far b blk hb hl hr)
  · by_cases hu : U b
    · rw [(inU b hu).1] at hb; rw [(inU b hu).2] at hr
      have := H'.own b blk hb hr
      exact ⟨this.1, this.2.1, fun hz => this.2.2 (zB blk hz)⟩
    · rw [(outU b hu).1] at hb; rw [(outU b hu).2.1] at hr
      have h5 := H.own b blk hb hr
      refine ⟨Nat.lt_of_lt_of_le h5.1 H'.big, fun hs => ?_, h5.2.2⟩
      rcases H'.sub blk hs with h6 | h6
      · exact h5.2.1 h6
      · exact h6 (far b blk hu hb hr)
  · by_cases hu : U b <;> by_cases hu' : U c
    · rw [(inU b hu).1] at hb; rw [(inU b hu).2] at hr
      rw [(inU c hu').1] at hc; rw [(inU c hu').2] at hr'
      exact H'.apart b c blk hne hb hc hr hr'
    · rw [(inU b hu).1] at hb; rw [(inU b hu).2] at hr
      rw [(outU c hu').1] at hc; rw [(outU c hu').2.1] at hr'
      exact (H'.own b blk hb hr).2.2 (far c blk hu' hc hr')
    · rw [(outU b hu).1] at hb; rw [(outU b hu).2.1] at hr
      rw [(inU c hu').1] at hc; rw [(inU c hu').2] at hr'
      exact (H'.own c blk hc hr').2.2 (far b blk hu hb hr)
    · rw [(outU b hu).1] at hb; rw [(outU b hu).2.1] at hr
      rw [(outU c hu').1] at hc; rw [(outU c hu').2.1] at hr'
      exact H.apart b c blk hne hb hc hr hr'
  · rcases H'.sub blk hs with h6 | h6
    · exact H.sub blk h6
    · exact .inr fun hz => h6 (zB blk hz)
  · rw [H'.prot blk (zB blk hz)]; exact H.prot blk hz

end
end Go.Ev
