/- More operations on slices: a row's other name, windows, capacities. -/
import Derived.Test.YtdnelcadmoeeiaaGreatEvStep
import Derived.Test.YtdnelcadmoeeiaaGreatEvDet
set_option linter.unusedVariables false
set_option linter.unusedSimpArgs false
namespace Go.Ev

section
variable {P : Program} {T : Tab} {Z : Base} {S : Nat → Prop} {w : World} {h : AHeap} {ρ : Rho} {K : AV → Ups → Nat → Prop} {nx : Nat} {N : Value → World → Prop} {Q : AV → Prop}

/-- A block told in other words. -/
theorem HR.retag (H : HR T Z S h ρ w) {b : Nat} {B : Blk} (hl : isLive (h b) = true) (hv : vw B = vw (h b)) (hB : Goes T S w h ρ S w (hset h b B) ρ → HB T S w (hset h b B) ρ b) :
    HR T Z S (hset h b B) ρ w ∧ Goes T S w h ρ S w (hset h b B) ρ := by
  refine H.upd (fun c => c = b) (r := none) ⟨rfl, rfl, rfl, Nat.le_refl _, fun _ _ _ => rfl⟩ (fun k e => by cases e) (fun c hc => ⟨hset_ne _ _ hc, rfl⟩) (fun c hc => ?_) (fun _ h => h) (fun _ h => .inl h) (fun go c hc => ?_) (fun c k hc hl' hk => ?_) (fun c d k hc hd hne => absurd (hc.trans hd.symm) hne)
  · subst hc; exact BSt.same ⟨by rw [hset_same, hv], rfl⟩
  · subst hc; exact hB go
  · subst hc; exact ⟨.inr ⟨c, rfl, hl, hk⟩, (H.own c k hl hk).2.1⟩

theorem heap_freeze (w : World) (a : Addr) (n k : Nat) : (w.freeze a n).heap[k]? = w.heap[k]? ∨ ∃ c e r r', w.heap[k]? = some (.cells c e r) ∧ (w.freeze a n).heap[k]? = some (.cells c e r') ∧ k = a.block := by
  unfold World.freeze
  split
  · exact .inl rfl
  · simp only [Array.getElem?_modify]
    split
    · rename_i hk
      cases hw : w.heap[k]? with
      | none => exact .inl rfl
      | some o =>
        cases o <;> first | (exact .inl rfl) | (exact .inr ⟨_, _, _, _, rfl, rfl, hk.symm⟩)
    · exact .inl rfl
theorem cell?_freeze (w : World) (a : Addr) (n : Nat) (x : Addr) : (w.freeze a n).cell? x = w.cell? x := by
  rcases heap_freeze w a n x.block with h | ⟨c, e, r, r', h1, h2, _⟩
  · simp only [World.cell?, h]
  · simp only [World.cell?, h1, h2]
theorem freeze_grown (w : World) (a : Addr) (n : Nat) : w.grownBy (w.freeze a n) (some a.block) := by
  refine ⟨?_, ?_, ?_, ?_, fun k hk hne => ?_⟩
  · unfold World.freeze; split <;> rfl
  · unfold World.freeze; split <;> rfl
  · unfold World.freeze; split <;> rfl
  · unfold World.freeze; split <;> simp
  · rcases heap_freeze w a n k with h | ⟨_, _, _, _, _, _, h⟩
    · exact h
    · subst h; exact absurd rfl hne

theorem convSS_ok (hT : TabOk P T) (H : HR T Z S h ρ w) (hn : Nexts T Z S w h ρ K N) {t e : Nat} (hk : (T t).k = .slice e) {v : AV} {u : Value} (hv : VLt T S w h ρ v u)
    (hr : convSS T e v h nx K) : Gives P (convert t t u) w N := by
  unfold convSS at hr
  cases he : (T e).k with
  | int k =>
    rw [he] at hr
    cases k with
    | u8 =>
      cases v with
      | ref b =>
        simp only at hr
        cases hb : h b with
        | row e' es =>
          rw [hb] at hr
          simp only at hr
          cases hee : Nat.beq e e' with
          | false => rw [hee] at hr; exact hr.p.elim
          | true =>
            rw [hee] at hr
            obtain rfl := Nat.eq_of_beq_eq_true hee
            have hpos := hr.c
            have hK := hr.p
            have hv' : VLc T S w h ρ (.ref b) u := hv
            simp only [VLc, hb, vw] at hv'
            obtain ⟨oa, cap, r1, rfl⟩ := hv'
            have hcap := H.rowCap hb r1
            have h0 := H.hb b
            unfold HB at h0
            rw [hb] at h0
            obtain ⟨oa2, cap2, s1, s2⟩ := h0
            rw [r1] at s1; cases s1
            obtain ⟨p, rfl⟩ : ∃ p, oa = some p := by
              cases oa with
              | some p => exact ⟨p, rfl⟩
              | none => have := s2.2.1 rfl; omega
            have hrun : ∃ w', w.grownBy w' (some p.1) ∧ (∀ x, w'.cell? x = w.cell? x) ∧ (convert t t (.slice (some (adr p)) es.length cap)).run P w = .ok (.slice (some (adr p)) es.length cap) w' := by
              have e1 : (convert t t (.slice (some (adr p)) es.length cap)).run P w = (do markStringish (adr p); pure (Value.slice (some (adr p)) es.length cap) : Sem Value).run P w := by
                simp [convert, run_underlying (hT.slice hk).1, run_underlying (hT.int he)]
              rw [e1]
              simp only [markStringish, Sem.run_bind]
              have e2 : (shape (adr p).block).run P w = .ok (w.shape? (adr p).block) w := rfl
              rw [e2]
              simp only [Result.andThen_ok]
              cases w.shape? (adr p).block with
              | none => exact ⟨w, ⟨rfl, rfl, rfl, Nat.le_refl _, fun _ _ _ => rfl⟩, fun _ => rfl, rfl⟩
              | some q =>
                obtain ⟨q1, q2⟩ := q
                simp only [run_freeze, Result.andThen_ok, Sem.run_pure]
                exact ⟨_, freeze_grown w _ _, cell?_freeze w _ _, rfl⟩
            obtain ⟨w', g, hc, hrun⟩ := hrun
            have hreal : p.1 ∈ realL (ρ b) := by rw [r1]; exact mem_row (by omega)
            let S' : Nat → Prop := fun k => S k ∨ k = p.1
            have hall : ∀ c v, VF T S w c v → VF T S' w' c v := by
              intro c v hcv
              refine hcv.mono (fun _ h => .inl h) fun k hk => g.block k (H.sS k hk) fun e => ?_
              cases e
              exact (H.own b p.1 (by rw [hb]; rfl) hreal).2.1 hk
            have row' : RowAt T S' w' e es (some p) cap → VF T S' w' (.lst e es) (.slice (some (adr p)) es.length cap) := fun h =>
              RowAt.vf h (fun k hk => by
                have : k ∈ realL (.row (some p) cap) := hk
                obtain ⟨q, e1, _, rfl⟩ := realL_row this
                cases e1; exact .inr rfl) (fun c u h => h)
            -- (of what may not be written nothing is asked of what nobody writes)
            have hvf : VF T S' w' (.lst e es) (.slice (some (adr p)) es.length cap) := by
              have h1 : VF T (fun k => S k ∨ k = p.1) w (.lst e es) (.slice (some (adr p)) es.length cap) :=
                RowAt.vf s2 (fun k hk => by
                  have : k ∈ realL (.row (some p) cap) := hk
                  obtain ⟨q, e1, _, rfl⟩ := realL_row this
                  cases e1; exact .inr rfl) (fun c u h => h.mono (fun _ h => .inl h) fun _ _ => rfl)
              generalize hx : AV.lst e es = x at h1
              generalize hy : Value.slice (some (adr p)) es.length cap = y at h1
              cases h1 with
              | nil e0 oa0 cap0 => exact .nil _ _ _
              | lst e0 es0 blk off cap0 gg hS hcap0 hz hcell h1 hvs =>
                refine .lst e0 es0 blk off cap0 gg hS hcap0 hz (fun i x j c a b => (hc _).trans (hcell i x j c a b)) h1 fun i x j c a b => ?_
                cases hx
                have h3 := s2.2.2.2.2 p rfl (by omega)
                obtain ⟨u3, u4, _, u5⟩ := h3.1 i x a j c b
                have h5 := hcell i x j c a b
                simp only [Value.slice.injEq, Option.some.injEq, adr, Addr.mk.injEq] at hy
                obtain ⟨⟨rfl, rfl, _⟩, _, _⟩ := hy
                rw [show p.2 + i * (T e).size + j = p.2 + (i * (T e).size + j) by omega] at u4
                rw [u4] at h5
                cases h5
                exact hall _ _ u5
              | und => cases hx
              | skp => cases hx
              | int => cases hx
              | bool => cases hx
              | str => cases hx
              | npt => cases hx
              | nmp => cases hx
              | nsl => cases hx
              | agg => cases hx
              | eptr => cases hx
              | fn => cases hx
            obtain ⟨H2, G2⟩ := H.upd (S' := S') (h' := hset h b (.fz e es)) (ρ' := ρ) (fun c => c = b) g (fun k hk => ⟨b, rfl, by rw [hb]; rfl, by cases hk; exact hreal⟩) (fun c hc => ⟨hset_ne _ _ hc, rfl⟩)
              (fun c hc => by subst hc; exact BSt.same ⟨by rw [hset_same, hb]; rfl, rfl⟩) (fun _ h => .inl h)
              (fun k hk => hk.elim .inl fun e => .inr (.inr ⟨b, rfl, by rw [hb]; rfl, by rw [e]; exact hreal⟩))
              (fun go c hc => by
                subst hc
                unfold HB
                rw [hset_same]
                exact ⟨_, _, r1, hvf⟩)
              (fun c k hc hl' hk => by subst hc; rw [hset_same] at hl'; cases hl') (fun c d k hc hd hne => absurd (hc.trans hd.symm) hne)
            exact ⟨_, _, hrun, hn _ _ _ _ w' S' ρ hK H2 G2 hvf⟩
        | _ => rw [hb] at hr; exact hr.p.elim
      | _ => exact hr.p.elim
    | _ => exact hr.p.elim
  | _ => rw [he] at hr; exact hr.p.elim

theorem run_sliceAt2 (hT : TabOk P T) {t e : Nat} (hk : (T t).k = .slice e) {oa : Option Addr} {n cap : Nat} {lo hi : Option Value} {l m : Int} (hl : IsInt 0 lo l) (hm : IsInt n hi m) (h0 : 0 ≤ l) (h1 : l ≤ m) (h2 : m ≤ cap) :
    (Instr.sliceAt t (.slice oa n cap) lo hi none).run P w = .ok (.slice (if cap = l.toNat then oa else oa.map (·.add (l.toNat * (T e).size))) (m.toNat - l.toNat) (cap - l.toNat)) w := by
  obtain ⟨hu, he, _⟩ := hT.slice hk
  have bound : ∀ (y : Nat) (k : IntKind) (i : Int) (c : BoundsCode), 0 ≤ i → i ≤ y → (Instr.sliceBound (.int k i) y c).run P w = .ok i.toNat w := by
    intro y k i c a b
    simp [Instr.sliceBound, asIntOf, a, b]
  have bounds : (Instr.sliceBounds true n cap lo hi none).run P w = .ok (l.toNat, m.toNat, cap) w := by
    unfold Instr.sliceBounds
    cases lo with
    | none =>
      simp only [IsInt] at hl
      cases hi with
      | none => simp only [IsInt] at hm; subst hl hm; simp
      | some v =>
        obtain ⟨k, rfl⟩ := hm
        subst hl
        simp [bound cap k m _ (by omega) (by omega)]
    | some v =>
      obtain ⟨k, rfl⟩ := hl
      cases hi with
      | none => simp only [IsInt] at hm; subst hm; simp [bound n k l _ h0 h1]
      | some v =>
        obtain ⟨k2, rfl⟩ := hm
        simp [bound cap k2 m _ (by omega) (by omega), bound m.toNat k l _ h0 (by omega)]
  simp only [Instr.sliceAt, Sem.run_bind, run_underlying hu, Result.andThen_ok]
  simp only [Instr.slice, Sem.run_bind, run_underlying hu, Result.andThen_ok, bounds, hT.sizeOf w he, Sem.run_pure]

theorem sliceSub_ok (hT : TabOk P T) (H : HR T Z S h ρ w) {t e b i n : Nat} (hk : (T t).k = .slice e) {u : Value} {lo hi mx : Option AV} {vlo vhi vmx : Option Value} (hx : VLt T S w h ρ (.sub b i n) u)
    (hlo : lo.isSome = vlo.isSome) (hhi : hi.isSome = vhi.isSome) (hmx : mx.isSome = vmx.isSome)
    (vl : ∀ y v, lo = some y → vlo = some v → VLt T S w h ρ y v) (vh : ∀ y v, hi = some y → vhi = some v → VLt T S w h ρ y v)
    (hr : sliceSub T e b i n lo hi mx h Q) : ∃ v r, Q v ∧ (Instr.sliceAt t u vlo vhi vmx).run P w = .ok r w ∧ VLt T S w h ρ v r := by
  unfold sliceSub at hr
  have hx' : VLc T S w h ρ (.sub b i n) u := hx
  simp only [VLc] at hx'
  cases hb : h b with
  | row e' es =>
    simp only [hb] at hr hx'
    cases mx with
    | some _ => exact hr.p.elim
    | none =>
      cases vmx with
      | some _ => simp at hmx
      | none =>
        simp only at hr
        cases hs : Nat.beq (T e').size (T e).size with
        | false => rw [hs] at hr; exact hr.p.elim
        | true =>
          rw [hs] at hr
          have hs := Nat.eq_of_beq_eq_true hs
          cases hil : intOr 0 lo with
          | none => rw [hil] at hr; exact hr.p.elim
          | some l =>
            rw [hil] at hr
            cases him : intOr n hi with
            | none => rw [him] at hr; exact hr.p.elim
            | some m =>
              rw [him] at hr
              have il := intOr_ok hlo vl hil
              have im := intOr_ok hhi vh him
              simp only at hr
              simp only [vw] at hx'
              obtain ⟨oa, cap, oa', r1, r2, rfl, r3⟩ := hx'
              have hcap := H.rowCap hb r1
              have l1 := hr.lo; have l2 := hr.mid; have l3 := hr.hi
              refine ⟨_, _, hr.p, run_sliceAt2 hT hk il im l1 l2 (by omega), ?_⟩
              show VLc T S w h ρ (.sub b (i + l.toNat) (m.toNat - l.toNat)) _
              simp only [VLc, hb, vw]
              refine ⟨oa, cap, _, r1, by omega, by rw [Nat.sub_sub], fun hn => ?_⟩
              obtain ⟨p, rfl, rfl⟩ := r3 (by omega)
              refine ⟨p, rfl, ?_⟩
              rw [if_neg (by omega), hs]
              show some ((Addr.mk p.1 (p.2 + i * (T e).size) none).add _) = _
              rw [add_lit, Nat.add_mul]; congr 2; omega
  | _ => simp only [hb] at hr; exact hr.p.elim

theorem slice3_ok (hT : TabOk P T) (H : HR T Z S h ρ w) {t e e' b : Nat} {es : List AV} (hk : (T t).k = .slice e) (hb : h b = .row e' es) {u vl vm : Value} {lo mx : AV} {hi : Option AV} {vhi : Option Value} (hx : VLt T S w h ρ (.ref b) u)
    (hhi : hi.isSome = vhi.isSome) (il : VLt T S w h ρ lo vl) (vh : ∀ y v, hi = some y → vhi = some v → VLt T S w h ρ y v) (im : VLt T S w h ρ mx vm)
    (hr : slice3 T e e' es lo hi mx Q) : ∃ v r, Q v ∧ (Instr.sliceAt t u (some vl) vhi (some vm)).run P w = .ok r w ∧ VLt T S w h ρ v r := by
  obtain ⟨hu, he, _⟩ := hT.slice hk
  unfold slice3 at hr
  cases hs : Nat.beq (T e').size (T e).size with
  | false => rw [hs] at hr; exact hr.p.elim
  | true =>
    rw [hs] at hr
    cases lo with
    | int k l =>
      cases hi with
      | none => exact hr.p.elim
      | some y =>
        cases vhi with
        | none => simp at hhi
        | some vy =>
          cases y with
          | int k2 m =>
            cases mx with
            | int k3 x =>
              obtain rfl := vl_int il
              obtain rfl := vl_int im
              obtain rfl := vl_int (vh _ _ rfl rfl)
              simp only at hr
              have l1 := hr.lo; have l2 := hr.mid; have l3 := hr.hi
              have hK := hr.p.p
              have l4 := hr.p.c
              have hx' : VLc T S w h ρ (.ref b) u := hx
              simp only [VLc, hb, vw] at hx'
              obtain ⟨oa, cap, r1, rfl⟩ := hx'
              have hcap := H.rowCap hb r1
              refine ⟨_, .slice (if x.toNat = l.toNat then oa.map adr else (oa.map adr).map (·.add (l.toNat * (T e).size))) (m.toNat - l.toNat) (x.toNat - l.toNat), hK, ?_, VF.und _⟩
              have b1 : (Instr.sliceBound (.int k3 x) cap .slice3Acap).run P w = .ok x.toNat w := by
                have h1 : 0 ≤ x := by omega
                have h2 : x ≤ (cap : Int) := by omega
                simp [Instr.sliceBound, asIntOf, h1, h2]
              have b2 : (Instr.sliceBound (.int k2 m) x.toNat .slice3B).run P w = .ok m.toNat w := by
                have h1 : 0 ≤ m := by omega
                have e1 : (x.toNat : Int) = x := Int.toNat_of_nonneg (by omega)
                simp only [Instr.sliceBound, asIntOf, Sem.run_bind, Sem.run_pure, Result.andThen_ok, e1, h1, l3, and_self, if_true]
              have b3 : (Instr.sliceBound (.int k l) m.toNat .slice3C).run P w = .ok l.toNat w := by
                have e1 : (m.toNat : Int) = m := Int.toNat_of_nonneg (by omega)
                simp only [Instr.sliceBound, asIntOf, Sem.run_bind, Sem.run_pure, Result.andThen_ok, e1, l1, l2, and_self, if_true]
              have bounds : (Instr.sliceBounds true es.length cap (some (.int k l)) (some (.int k2 m)) (some (.int k3 x))).run P w = .ok (l.toNat, m.toNat, x.toNat) w := by
                simp only [Instr.sliceBounds, if_true, Option.isSome_some, Sem.run_bind, b1, Result.andThen_ok, b2, b3, Sem.run_pure]
              simp only [Instr.sliceAt, Sem.run_bind, run_underlying hu, Result.andThen_ok]
              simp only [Instr.slice, Sem.run_bind, run_underlying hu, Result.andThen_ok, bounds, hT.sizeOf w he, Sem.run_pure]
            | _ => exact hr.p.elim
          | _ => exact hr.p.elim
    | _ => cases hi <;> exact hr.p.elim

theorem capV_ok (hT : TabOk P T) (H : HR T Z S h ρ w) (hn : Nexts T Z S w h ρ K N) {t ty b : Nat} {u : Value} (hx : VLt T S w h ρ (.ref b) u)
    (hr : capV T t b h nx K) : Gives P (Builtin.cap_ #[t] ty #[u]) w N := by
  unfold capV at hr
  cases hk : (T t).k with
  | slice e0 =>
    rw [hk] at hr
    cases hb : h b with
    | row e es =>
      rw [hb] at hr
      simp only at hr
      have hx' : VLc T S w h ρ (.ref b) u := hx
      simp only [VLc, hb, vw] at hx'
      obtain ⟨oa, cap, r1, rfl⟩ := hx'
      have hcap := H.rowCap hb r1
      have h0 := H.hb b
      unfold HB at h0
      rw [hb] at h0
      obtain ⟨oa2, cap2, s1, s2⟩ := h0
      rw [r1] at s1; cases s1
      obtain ⟨H2, G2⟩ := H.retag (b := b) (B := .rowc e es cap) (by rw [hb]; rfl) (by rw [hb]; rfl) (fun go => by
        unfold HB
        rw [hset_same]
        exact ⟨oa, r1, RowAt.keep s2 go fun _ _ _ => rfl⟩)
      refine ⟨.int .i64 cap, w, ?_, hn _ _ _ _ w S ρ (hr.p cap hcap) H2 G2 (VF.int _ _)⟩
      simp [Builtin.cap_, run_underlying (hT.slice hk).1, goInt]
    | _ => rw [hb] at hr; exact hr.p.elim
  | _ => rw [hk] at hr; exact hr.p.elim

theorem add_zero (a : Addr) : a.add 0 = a := by simp [Addr.add]
theorem junk_len (hT : TabOk P T) {e : Nat} (hz : zOk (T e).k = true) (w : World) : (cells (junkE T e)).length = (T e).size ∧ ∀ c ∈ cells (junkE T e), c = .und := by
  have hk : kOk (T e).k = true := by cases hq : (T e).k <;> simp [zOk, kOk, hq] at hz ⊢
  obtain ⟨z, h1, h2, _⟩ := zero_ok (S := fun _ => False) (w := w) (h := fun _ => .none) (ρ := fun _ => .no) hT hz
  obtain ⟨z', h3, h4, _⟩ := hT.zeroValue w hk
  rw [h1] at h3; cases h3
  have e1 : (cells (T e).zero).length = (T e).size := h2.symm.trans h4
  cases hq : (T e).zero with
  | agg cs =>
    rw [hq] at e1
    simp only [junkE, hq, cells, List.length_map, List.mem_map]
    exact ⟨e1, fun c ⟨_, _, hc⟩ => hc.symm⟩
  | _ =>
    all_goals
      rw [hq] at e1
      simp only [junkE, hq, cells, List.mem_singleton] at e1 ⊢
      exact ⟨e1, fun c hc => hc⟩

theorem sliceC_ok (hT : TabOk P T) (H : HR T Z S h ρ w) (fr : Fr h nx K) (hn : Nexts T Z S w h ρ K N) {t e e' b c : Nat} {es : List AV} (hk : (T t).k = .slice e) (hb : h b = .rowc e' es c) {u : Value} {lo hi mx : Option AV} {vlo vhi vmx : Option Value} (hx : VLt T S w h ρ (.ref b) u)
    (hlo : lo.isSome = vlo.isSome) (hhi : hi.isSome = vhi.isSome) (hmx : mx.isSome = vmx.isSome) (vh : ∀ y v, hi = some y → vhi = some v → VLt T S w h ρ y v)
    (hr : sliceC T e b e' es c lo hi mx nx K) : Gives P (Instr.sliceAt t u vlo vhi vmx) w N := by
  unfold sliceC at hr
  cases hs : Nat.beq e' e && zOk (T e).k with
  | false => rw [hs] at hr; exact hr.p.elim
  | true =>
    rw [hs] at hr
    simp only [Bool.and_eq_true] at hs
    obtain rfl := Nat.eq_of_beq_eq_true hs.1
    cases lo with
    | some _ => exact hr.p.elim
    | none =>
      cases vlo with
      | some _ => simp at hlo
      | none =>
      cases hi with
      | none => exact hr.p.elim
      | some y =>
        cases vhi with
        | none => simp at hhi
        | some vy =>
        cases mx with
        | some _ => cases y <;> exact hr.p.elim
        | none =>
          cases vmx with
          | some _ => simp at hmx
          | none =>
          cases y with
          | int k m =>
            simp only at hr
            obtain rfl := vl_int (vh _ _ rfl rfl)
            have hx' : VLc T S w h ρ (.ref b) u := hx
            simp only [VLc, hb, vw] at hx'
            obtain ⟨oa, cap, r1, rfl⟩ := hx'
            have h0 := H.hb b
            unfold HB at h0
            rw [hb] at h0
            obtain ⟨oa2, s1, s2⟩ := h0
            rw [r1] at s1; cases s1
            have il : IsInt 0 none 0 := rfl
            have im : IsInt es.length (some (.int k m)) m := ⟨k, rfl⟩
            have hoa : ∀ (x : Nat), (if x = (0 : Int).toNat then oa.map adr else (oa.map adr).map (·.add ((0 : Int).toNat * (T e').size))) = oa.map adr := by
              intro x
              have : (oa.map adr).map (·.add ((0 : Int).toNat * (T e').size)) = oa.map adr := by
                cases oa with
                | none => rfl
                | some p => simp [add_zero]
              rw [this, ite_self]
            obtain ⟨ext, hr⟩ := hr.p
            cases ext with
            | false =>
              have l1 := hr.lo; have l2 := hr.mid; have l3 := hr.hi
              have run := run_sliceAt2 (P := P) (w := w) (oa := oa.map adr) (cap := c) hT hk il im l1 l2 (by have := s2.1; omega)
              refine Gives.pure hn H hr.p run ?_
              show VLc T S w h ρ (.sub b 0 m.toNat) _
              simp only [VLc, hb, vw]
              refine ⟨oa, c, _, r1, by omega, rfl, fun hc => ?_⟩
              rw [hoa]
              cases oa with
              | none => have := s2.2.1 rfl; omega
              | some p => exact ⟨p, rfl, by simp [adr]⟩
            | true =>
              have l1 := hr.lo; have l2 := hr.mid; have l3 := hr.hi
              have run := run_sliceAt2 (P := P) (w := w) (oa := oa.map adr) (n := es.length) (cap := c) hT hk il im (by omega) (by omega) (by omega)
              rw [hoa] at run
              have hK := hr.p
              have hnx : h nx = .none := fr _ _ _ hK nx (Nat.le_refl _) (by omega)
              have hne : b ≠ nx := fun e => by subst e; rw [hb] at hnx; cases hnx
              obtain ⟨j1, j2⟩ := junk_len hT hs.2 w
              let h' := happ h [(b, .dead), (nx, .row e' (es ++ List.replicate (m.toNat - (es.length : Int).toNat) (junkE T e')))]
              have hbb : h' b = .dead := by
                show hset (hset h b .dead) nx _ b = _
                rw [hset_ne _ _ hne, hset_same]
              have hbn : h' nx = .row e' (es ++ List.replicate (m.toNat - (es.length : Int).toNat) (junkE T e')) := hset_same _ _ _
              have hlen : (es ++ List.replicate (m.toNat - (es.length : Int).toNat) (junkE T e')).length = m.toNat := by simp; omega
              obtain ⟨H2, G2⟩ := H.upd (S' := S) (h' := h') (ρ' := rset ρ nx (.row oa c)) (fun d => d = b ∨ d = nx) (r := none) ⟨rfl, rfl, rfl, Nat.le_refl _, fun _ _ _ => rfl⟩ (fun k e => by cases e)
                (fun d hd => ⟨(hset_ne _ _ (fun e => hd (.inr e))).trans (hset_ne _ _ (fun e => hd (.inl e))), rset_ne _ _ (fun e => hd (.inr e))⟩)
                (fun d hd => by
                  rcases hd with rfl | rfl
                  · exact .inr (.inl (by rw [hbb]; rfl))
                  · exact .inl (by rw [hnx]; rfl))
                (fun _ h => h) (fun _ h => .inl h)
                (fun go d hd => by
                  rcases hd with rfl | rfl
                  · unfold HB; rw [hbb]; trivial
                  · unfold HB
                    rw [hbn, rset_same]
                    refine ⟨oa, c, rfl, by rw [hlen]; omega, s2.2.1, fun x hx => ?_, s2.2.2.2.1, fun p hp hc => ?_⟩
                    · rcases List.mem_append.1 hx with hx | hx
                      · exact s2.2.2.1 x hx
                      · obtain rfl := List.eq_of_mem_replicate hx; exact j1
                    · obtain ⟨t1, t2⟩ := s2.2.2.2.2 p hp hc
                      refine ⟨fun i x hx => ?_, t2⟩
                      by_cases hi : i < es.length
                      · rw [List.getElem?_append_left hi] at hx
                        exact (t1 i x hx).mono rfl fun c v hv => hv.mono go.s go.w
                      · have hil := (List.getElem?_eq_some_iff.1 hx).1
                        rw [List.getElem?_append_right (by omega)] at hx
                        obtain rfl := List.eq_of_mem_replicate (List.mem_of_getElem? hx)
                        intro j c hj
                        have hjl := (List.getElem?_eq_some_iff.1 hj).1
                        obtain rfl := j2 c (List.mem_of_getElem? hj)
                        rw [j1] at hjl
                        rw [hlen] at hil
                        have := idx_lt (z := (T e').size) (show i < c by omega) hjl
                        obtain ⟨u, u1, u2⟩ := (t2 (i * (T e').size + j) this).1
                        exact ⟨u, by rw [← u1]; congr 2; omega, u2, VF.und _⟩)
                (fun d k hd hl hk' => by
                  rcases hd with rfl | rfl
                  · rw [hbb] at hl; cases hl
                  · rw [rset_same] at hk'
                    have hk2 : k ∈ realL (ρ b) := by rw [r1]; exact hk'
                    exact ⟨.inr ⟨b, .inl rfl, by rw [hb]; rfl, hk2⟩, (H.own b k (by rw [hb]; rfl) hk2).2.1⟩)
                (fun d d' k hd hd' hne' hl hl' => by
                  rcases hd with rfl | rfl
                  · rw [hbb] at hl; cases hl
                  · rcases hd' with rfl | rfl
                    · rw [hbb] at hl'; cases hl'
                    · exact absurd rfl hne')
              refine ⟨_, w, run, hn _ _ _ _ w S _ hK H2 G2 ?_⟩
              show VLc T S w h' (rset ρ nx (.row oa c)) (.ref nx) _
              simp only [VLc, hbn, vw]
              exact ⟨oa, c, rset_same _ _ _, by rw [hlen]; simp⟩
          | _ => exact hr.p.elim

theorem eqNil_ok (hT : TabOk P T) (H : HR T Z S h ρ w) {t e e2 : Nat} (hk : (T t).k = .slice e) {x : AV} {u v : Value} (hx : VLt T S w h ρ x u) (hv : VLt T S w h ρ (.nsl e2) v) {Q : Bool → Prop}
    (hr : eqNil h x Q) : ∃ b, Q b ∧ (Op.equal t u v).run P w = .ok b w := by
  obtain rfl := vl_nsl hv
  have hu := (hT.slice hk).1
  have run : ∀ (oa : Option Addr) (n cap : Nat), (Op.equal t (.slice oa n cap) (.slice none 0 0)).run P w = .ok oa.isNone w := by
    intro oa n cap
    have key : ∀ d, (Op.equalIn (d + 1) t (.slice oa n cap) (.slice none 0 0)).run P w = .ok oa.isNone w := fun d => by
      cases oa <;> simp [Op.equalIn, run_underlying hu]
    exact key 9999
  cases x with
  | nsl e3 => obtain rfl := vl_nsl hx; exact ⟨true, hr, run _ _ _⟩
  | lst e3 es =>
    obtain ⟨oa, cap, rfl, _, hne⟩ := (show VF T S w (.lst e3 es) u from hx).lst_to
    refine ⟨_, hr.p _ fun hb => ?_, run _ _ _⟩
    cases es with
    | nil => rfl
    | cons y es =>
      obtain ⟨p, rfl, _⟩ := hne (by simp)
      cases hb
  | ref b =>
    have hx' : VLc T S w h ρ (.ref b) u := hx
    unfold eqNil at hr
    cases hb : h b with
    | row e3 es =>
      simp only [VLc, hb, vw] at hx' hr
      obtain ⟨oa, cap, r1, rfl⟩ := hx'
      refine ⟨_, hr.p _ fun hh => ?_, run _ _ _⟩
      have h0 := H.hb b
      unfold HB at h0
      rw [hb] at h0
      obtain ⟨oa2, cap2, s1, s2, s3, _⟩ := h0
      rw [r1] at s1; cases s1
      cases oa with
      | none => have := s3 rfl; exact List.eq_nil_of_length_eq_zero (by omega)
      | some p => cases hh
    | fz e3 es =>
      simp only [VLc, hb, vw] at hx' hr
      obtain ⟨oa, cap, r1, rfl⟩ := hx'
      refine ⟨_, hr.p _ fun hh => ?_, run _ _ _⟩
      obtain ⟨oa2, cap2, r2, hv⟩ := H.fz hb
      rw [r1] at r2; cases r2
      obtain ⟨oa3, cap3, e1, _, hne⟩ := hv.lst_to
      cases es with
      | nil => rfl
      | cons y es =>
        obtain ⟨p, e2, _⟩ := hne (by simp)
        simp only [Value.slice.injEq] at e1
        rw [← e1.1] at e2
        rw [e2] at hh; cases hh
    | _ => simp only [hb] at hr; exact hr.p.elim
  | _ => exact hr.p.elim

theorem splice_nil (es : List AV) (i : Nat) : es.take i ++ ([] ++ es.drop (i + 0)) = es := by simp

theorem append_none {e t u ty : Nat} {oa : Option Addr} {n cap c : Nat} {ob : Option Addr} (hT : TabOk P T) (ht : (T t).k = .slice e) {e2 : Nat} (hu : (T u).k = .slice e2)
    (h1 : (Builtin.firstCells (T e).size 0 (.slice ob 0 c)).run P w = .ok #[] w) (hfit : n + 0 ≤ cap) :
    (Builtin.append_ #[t, u] ty #[.slice oa n cap, .slice ob 0 c]).run P w = .ok (.slice oa (n + 0) cap) w := by
  rw [append_head (olds := []) (news := []) (c := c) hT ht hu h1 hfit]
  cases oa <;> rfl
theorem append_zeros (w : World) {e t u ty : Nat} {k0 : IntKind} {oa : Option Addr} {n cap : Nat} {k : Int} (hT : TabOk P T) (ht : (T t).k = .slice e) (hu : (T u).k = .int k0) {olds : List Value}
    (h0 : (Builtin.firstCells (T e).size n (.slice oa n cap)).run P w.drew = .ok olds.toArray w.drew)
    (hk : 0 ≤ k) (hfit : ¬ n + k.toNat ≤ cap) (hroom : n + k.toNat ≤ 4294967296) (hby : (T e).bytes ≤ 1024) (hzo : zOk (T e).k = true) :
    ∃ cap' rest news, n + k.toNat ≤ cap' ∧ rest.size = (cap' - (n + k.toNat)) * (T e).size ∧ (∀ u ∈ rest.toList, u.oneCell' = true) ∧ (∀ (S : Nat → Prop), Flat (VF T S w) (T e).size (List.replicate k.toNat (zeroE T e)) news) ∧
      (Builtin.append_ #[t, u] ty #[.slice oa n cap, .int .i64 k]).run P w =
      .ok (.slice (some ⟨w.heap.size, 0, none⟩) (n + k.toNat) cap') (w.drew.alloc (.cells ((olds ++ news).toArray ++ rest) e)) := by
  obtain ⟨a1, a2, a3⟩ := hT.slice ht
  have b1 := hT.int hu
  obtain ⟨i, z, i1, i2, i3, i4, i5, _⟩ := hT.info a2
  have hb : (n + k.toNat) * i.bytes ≤ 140737488355328 := by
    rw [i3]
    have := Nat.mul_le_mul hroom hby
    omega
  have hf := growslice_fits (need := n + k.toNat) (old := cap) (bytes := i.bytes) (by omega) hb
  have flat : ∀ S : Nat → Prop, Flat (VF T S w) (T e).size [zeroE T e] z.cells.toList := by
    intro S
    obtain ⟨z', z1, z2, z3⟩ := zeroE_ok (P := P) (S := S) (w := w) hT hzo
    have hzv : (zeroValue e).run P w = .ok z w := by simp [Go.zeroValue, typeInfo, i1, i4]
    rw [hzv] at z1; cases z1; exact z3
  refine ⟨grownCap w (n + k.toNat) cap e, Builtin.zeroCells z.cells (grownCap w (n + k.toNat) cap e - (n + k.toNat)), (List.replicate k.toNat z.cells.toList).flatten, grownCap_ge w _ _ _, by rw [size_zeroCells, i5, i2], ?_, fun S => (flat S).replicate _, ?_⟩
  · intro u hu
    rw [rep_zero] at hu
    simp only [List.mem_flatten] at hu
    obtain ⟨l, hl, hu⟩ := hu
    obtain rfl := List.eq_of_mem_replicate hl
    exact (flat fun _ => False).one u hu
  have hti : (typeInfo e).run P w = .ok i w := by simp [typeInfo, i1]
  have htd : (typeInfo e).run P w.drew = .ok i w.drew := by simp [typeInfo, i1]
  have hzv : (zeroValue e).run P w.drew = .ok z w.drew := by simp [Go.zeroValue, typeInfo, i1, i4]
  have hch : (choose (.appendCap (n + k.toNat) cap e)).run P w = .ok (grownCap w (n + k.toNat) cap e) w.drew := by
    rw [run_choose]
    simp only [Question.forced, Bool.false_eq_true, if_false]
    rfl
  have hwrap : IntKind.i64.wrap k = k := by
    rw [IntKind.wrap_i64]; omega
  have hl0 : ¬ k < 0 := by omega
  have hl1 : ¬ k * (i.bytes : Int) > 281474976710656 := by
    have h1 : k.toNat * i.bytes ≤ 140737488355328 := Nat.le_trans (Nat.mul_le_mul_right _ (by omega)) hb
    have h2 : k = (k.toNat : Int) := (Int.toNat_of_nonneg hk).symm
    rw [h2, ← Int.natCast_mul]; omega
  have hl1' : ¬ k * (i.bytes : Int) > 2 ^ 48 := by
    intro h; exact hl1 (by simpa using h)
  have happd : ∀ w', (if k.toNat * (T e).size = 0 then pure #[] else do pure (Builtin.zeroCells (← zeroValue e).cells k.toNat) : Sem (Array Value)).run P w' = .ok ((List.replicate k.toNat z.cells.toList).flatten).toArray w' := by
    intro w'
    have hzv' : (zeroValue e).run P w' = .ok z w' := by simp [Go.zeroValue, typeInfo, i1, i4]
    split
    · rename_i h
      have : k.toNat = 0 := by
        rcases Nat.mul_eq_zero.1 h with h | h
        · exact h
        · omega
      rw [this]; rfl
    · simp only [Sem.run_bind, hzv', Result.andThen_ok, Sem.run_pure, rep_zero]
  simp only [Builtin.append_, List.getElem?_toArray, List.getElem?_cons_zero, List.getElem?_cons_succ, Sem.run_bind, run_underlying a1, Result.andThen_ok, hT.sizeOf w a2, run_underlying b1, Sem.run_pure]
  simp only [if_true, asInt, asIntOf, Sem.run_bind, Sem.run_pure, Result.andThen_ok, hwrap, hl0, if_false, hti, hl1', Bool.not_true, Bool.false_eq_true, hfit]
  have c1 : ¬ (((n + k.toNat : Nat) : Int) > IntKind.i64.max ∧ (True ∨ i.bytes = 0)) := by
    simp only [IntKind.max, IntKind.signed, IntKind.bits]
    intro hh; have := hh.1; simp at this; omega
  rw [if_neg c1]
  simp only [Sem.run_bind, hti, Result.andThen_ok]
  rw [if_neg (by simpa using hf)]
  simp only [Sem.run_bind, hch, Result.andThen_ok, htd, run_askRoom, h0, happd, hzv, newRow, run_newObj, Sem.run_pure, List.append_toArray]
  have e0 : w.drew.heap = w.heap := rfl
  simp only [World.alloc, e0]

set_option maxHeartbeats 2000000 in
theorem appendSub_ok (hT : TabOk P T) (H : HR T Z S h ρ w) (fr : Fr h nx K) (hn : Nexts T Z S w h ρ K N) {t u ty b i n : Nat} {y : AV} {vx vy : Value} (hx : VLt T S w h ρ (.sub b i n) vx) (hy : VLt T S w h ρ y vy)
    (hr : appendSub T t u b i n y h nx K) : Gives P (Builtin.append_ #[t, u] ty #[vx, vy]) w N := by
  unfold appendSub at hr
  cases hk : (T t).k with
  | slice e =>
    rw [hk] at hr
    simp only at hr
    obtain ⟨hu, he, hz0⟩ := hT.slice hk
    have hx' : VLc T S w h ρ (.sub b i n) vx := hx
    simp only [VLc] at hx'
    cases hb : h b with
    | row e' es =>
      simp only [hb] at hr hx'
      cases hku : (T u).k with
      | slice e2 =>
        rw [hku] at hr
        simp only at hr
        cases hc : Nat.beq e e' && Nat.beq (T (elemT h y)).size (T e).size with
        | false => rw [hc] at hr; exact hr.p.elim
        | true =>
          rw [hc] at hr
          simp only [Bool.and_eq_true] at hc
          obtain rfl := Nat.eq_of_beq_eq_true hc.1
          have hsz := Nat.eq_of_beq_eq_true hc.2
          cases hys : elems h y with
          | none => rw [hys] at hr; exact hr.p.elim
          | some ys =>
            rw [hys] at hr
            have hfit := hr.c
            have hK := hr.p
            have hyc : VLc T S w h ρ y vy := by cases y <;> first | exact hy | (simp [elems] at hys)
            obtain ⟨ob, cb, news, rfl, fy, ky⟩ := elems_ok H hyc hys
            rw [hsz] at fy
            simp only [vw] at hx'
            obtain ⟨oa, cap, oa', r1, r2, rfl, r3⟩ := hx'
            have hcap := H.rowCap hb r1
            have head := append_head (ty := ty) (oa := oa') (n := n) (cap := cap - i) (c := cb) (olds := []) hT hk hku (run_first fy.len ky) (by omega)
            have goal : ∀ (w' : World) (es' : List AV), es'.length = es.length → VLt T S w' (happ h [(b, .row e es')]) ρ (.sub b i (n + ys.length)) (.slice oa' (n + ys.length) (cap - i)) := by
              intro w' es' hl
              show VLc T S w' (hset h b (.row e es')) ρ (.sub b i (n + ys.length)) _
              simp only [VLc, hset_same, vw]
              exact ⟨oa, cap, oa', r1, by rw [hl]; omega, rfl, r3⟩
            cases ys with
            | nil =>
              have hnews : news = [] := List.eq_nil_of_length_eq_zero (by have := fy.len; simpa using this)
              subst hnews
              have head := append_none (ty := ty) (oa := oa') (n := n) (cap := cap - i) (c := cb) hT hk hku (run_first (vs := []) (n := 0) (n' := 0) (by simp) ky) (by omega)
              refine ⟨_, w, head, ?_⟩
              have hes : es.take (i + n) ++ ([] ++ es.drop (i + n + 0)) = es := splice_nil es (i + n)
              have hh : happ h [(b, .row e es)] = h := by
                funext j
                by_cases hj : j = b
                · subst hj; rw [hb]; exact hset_same _ _ _
                · exact hset_ne _ _ hj
              simp only [List.length_nil] at hK
              rw [hes] at hK
              refine hn _ _ _ _ w S ρ hK ?_ ?_ ?_
              · rw [hh]; exact H
              · rw [hh]; exact Goes.refl ..
              · exact goal w es rfl
            | cons y0 ys =>
              obtain ⟨p, rfl, st, H2, G2⟩ := H.spliceRow (P := P) (i := i + n) hb r1 (by simp at hfit ⊢; omega) fy (by simp)
              obtain ⟨p', e1, rfl⟩ := r3 (by simp at hfit; omega)
              cases e1
              have hadd : (⟨p.1, p.2 + i * (T e).size, none⟩ : Addr).add (n * (T e).size) = ⟨p.1, p.2 + (i + n) * (T e).size, none⟩ := by
                rw [add_lit, Nat.add_mul, Nat.add_assoc]
              simp only [hadd, st, Result.andThen_ok] at head
              exact ⟨_, _, head, hn _ _ _ _ _ S ρ hK H2 G2 (goal _ _ (by simp at hfit ⊢; omega))⟩
      | _ => rw [hku] at hr; exact hr.p.elim
    | rowc e' es c =>
      simp only [hb] at hr hx'
      cases hku : (T u).k with
      | int k0 =>
        rw [hku] at hr
        cases y with
        | int k k1 =>
          cases k with
          | i64 =>
            cases i with
            | succ i => exact hr.p.elim
            | zero =>
              simp only at hr
              cases hc : Nat.beq e e' && Nat.ble (T e).bytes 1024 && zOk (T e).k with
              | false => rw [hc] at hr; exact hr.p.elim
              | true =>
                rw [hc] at hr
                simp only [Bool.and_eq_true] at hc
                obtain rfl := Nat.eq_of_beq_eq_true hc.1.1
                have hby := Nat.le_of_ble_eq_true hc.1.2
                have hk0 := hr.c
                have hfit := hr.p.c
                have hroom := hr.p.p.n
                have hK := hr.p.p.p
                obtain rfl := vl_int hy
                simp only [vw] at hx'
                obtain ⟨oa, cap, oa', r1, r2, rfl, r3⟩ := hx'
                have h0 := H.hb b
                unfold HB at h0
                rw [hb] at h0
                obtain ⟨oa2, s1, s2⟩ := h0
                rw [r1] at s1; cases s1
                have hv0 : vw (Blk.row e es) = vw (h b) := by rw [hb]; rfl
                obtain ⟨H1, G1⟩ := H.retag (b := b) (B := .row e es) (by rw [hb]; rfl) hv0 (fun go => by
                  unfold HB
                  rw [hset_same]
                  exact ⟨oa, c, r1, RowAt.keep s2 go fun _ _ _ => rfl⟩)
                obtain ⟨oa3, cap3, olds, q1, q2, fo, ko⟩ := H1.rowFlat (hset_same h b (.row e es))
                rw [r1] at q1; cases q1
                have ft := fo.take n
                have htn : (es.take n).length = n := by rw [List.length_take]; omega
                have hnx : h nx = .none := fr _ _ _ hK nx (Nat.le_refl _) (by omega)
                have hne : b ≠ nx := fun e => by subst e; rw [hb] at hnx; cases hnx
                have hk2 : olds.take (n * (T e).size) = [] ∨ ∃ a : Addr, oa' = some a ∧ ∀ (k : Nat) (u : Value), (olds.take (n * (T e).size))[k]? = some u → w.drew.cell? (a.add k) = some u := by
                  rcases Nat.eq_zero_or_pos n with rfl | hn0
                  · left; simp
                  · right
                    obtain ⟨p, rfl, rfl⟩ := r3 (by omega)
                    refine ⟨_, rfl, fun k u hk => ?_⟩
                    rw [List.getElem?_take] at hk
                    split at hk
                    · rcases ko with rfl | ⟨q, hq, _, hqk⟩
                      · simp at hk
                      · cases hq
                        rw [add_lit, Nat.zero_mul, Nat.add_zero]
                        exact hqk k u hk
                    · cases hk
                obtain ⟨cap', rest, news, g1, g2, g3, g4, g5⟩ := append_zeros (P := P) (ty := ty) w hT hk hku (run_first (w := w.drew) (n' := n) (cap := c - 0) (by rw [ft.len, htn]) hk2) hk0 (by omega) hroom hby hc.2
                have fall := (ft.mono (V' := VF T S w) fun c u h => h).append (g4 S)
                obtain ⟨H2, G2⟩ := H1.newRow (w1 := w.drew) (t := e) (rest := rest) (cap := cap') (nx := nx) (by rw [hset_ne _ _ (Ne.symm hne)]; exact hnx) hz0 fall (by simp [htn]; omega) (by
                  rw [fall.len, g2, List.length_append, htn, List.length_replicate, ← Nat.add_mul]; congr 1; omega) g3 rfl rfl rfl rfl
                refine ⟨_, _, g5, hn _ _ _ _ (w.drew.alloc (.cells ((olds.take (n * (T e).size) ++ news).toArray ++ rest) e)) S _ hK H2 (G1.trans G2) ?_⟩
                show VLc T S (w.drew.alloc (.cells ((olds.take (n * (T e).size) ++ news).toArray ++ rest) e)) (hset _ nx _) (rset ρ nx (.row (some (w.heap.size, 0)) cap')) (.ref nx) _
                simp only [VLc, hset_same, vw, List.length_append, htn, List.length_replicate]
                exact ⟨some (w.heap.size, 0), cap', rset_same _ _ _, rfl⟩
          | _ => exact hr.p.elim
        | _ => exact hr.p.elim
      | _ => rw [hku] at hr; exact hr.p.elim
    | _ => simp only [hb] at hr; exact hr.p.elim
  | _ => rw [hk] at hr; exact hr.p.elim

end
end Go.Ev
