/- Addresses, lengths, slices of slices, tuples. -/
import Derived.Test.YtbhjocgepgpnmaaEvOp7
set_option linter.unusedVariables false
set_option linter.unusedSimpArgs false
namespace Go.Ev

section
variable {P : Program} {T : Tab} {Z : Base} {S : Nat → Prop} {w : World} {h : AHeap} {ρ : Rho} {K : AV → Ups → Nat → Prop} {nx : Nat} {N : Value → World → Prop} {Q : AV → Prop}

theorem pickV_ok {c x y : AV} {uc ux uy : Value} (hc : VLt T S w h ρ c uc) (hx : VLt T S w h ρ x ux) (hy : VLt T S w h ρ y uy) (hr : pickV c x y Q) :
    ∃ v u, Q v ∧ (do pure (.value (if ← asBool uc then ux else uy)) : Sem Next).run P w = .ok (.value u) w ∧ VLt T S w h ρ v u := by
  unfold pickV at hr
  split at hr
  · rename_i b p q
    obtain rfl := vl_bool hc
    obtain rfl := vl_bool hx
    obtain rfl := vl_bool hy
    refine ⟨_, .bool (bif b then p else q), hr, ?_, vl_mkbool _⟩
    cases b <;> simp [asBool]
  · obtain rfl := vl_bool hc
    exact ⟨_, ux, hr, by simp [asBool], hx⟩
  · obtain rfl := vl_bool hc
    exact ⟨_, uy, hr, by simp [asBool], hy⟩
  · exact hr.p.elim

theorem unV_ok {op : UnOp} {x : AV} {u : Value} (hx : VLt T S w h ρ x u) (hr : unV op x Q) : ∃ v r, Q v ∧ (Op.unary op u).run P w = .ok r w ∧ VLt T S w h ρ v r := by
  unfold unV at hr
  split at hr
  · obtain rfl := vl_bool hx
    exact ⟨_, _, hr, by simp [Op.unary], vl_mkbool _⟩
  · obtain rfl := vl_int hx
    exact ⟨_, _, hr.p, by simp [Op.unary, Op.intArith], vl_mkint _ _⟩
  · obtain rfl := vl_int hx
    refine ⟨_, _, hr, ?_, vl_mkint _ _⟩
    simp only [Op.unary]
    rw [bitsOp_run _ _ _ _ (.inr (.inr (.inl rfl)))]; rfl
  · exact hr.p.elim

theorem fieldsOk_get : ∀ {fs : List (Nat × Nat)} {gs : List Field} {k : Nat} {f : Nat × Nat}, fieldsOk fs gs = true → fs[k]? = some f → ∃ g, gs[k]? = some g ∧ g.offset = f.1 ∧ g.type = f.2
  | [], gs, k, f, _, h => by simp at h
  | a :: fs, [], k, f, h, _ => by simp [fieldsOk] at h
  | a :: fs, g :: gs, k, f, h, hk => by
    simp only [fieldsOk, Bool.and_eq_true] at h
    cases k with
    | zero => simp at hk; subst hk; exact ⟨g, rfl, (Nat.eq_of_beq_eq_true h.1.1).symm, (Nat.eq_of_beq_eq_true h.1.2).symm⟩
    | succ k => obtain ⟨g', a, b⟩ := fieldsOk_get h.2 (by simpa using hk); exact ⟨g', by simpa using a, b⟩

theorem fieldAddrV_ok (hT : TabOk P T) {t f : Nat} {x : AV} {u : Value} (hx : VLt T S w h ρ x u) (hr : fieldAddrV T t x f h Q) :
    ∃ v r, Q v ∧ (Instr.fieldAt t u f).run P w = .ok r w ∧ VLt T S w h ρ v r := by
  unfold fieldAddrV at hr
  cases hf : fieldOff (T t) f with
  | none => rw [hf] at hr; exact hr.p.elim
  | some d =>
    rw [hf] at hr
    unfold fieldOff at hf
    cases hk : (T t).k with
    | struct fs =>
      rw [hk] at hf
      simp only at hf
      cases hg : fs[f]? with
      | none => rw [hg] at hf; cases hf
      | some p =>
        rw [hg] at hf; cases hf
        obtain ⟨gs, h1, h2, h3, _⟩ := hT.struct hk
        obtain ⟨g, g1, g2, g3⟩ := fieldsOk_get h2 hg
        have hfo := h3 p (List.mem_of_getElem? hg)
        simp only [fieldOk, Bool.and_eq_true] at hfo
        have hsz : 0 < (T p.2).size := blt_lt hfo.1.2
        have run : ∀ blk o, (Instr.fieldAt t (.pointer (some ⟨blk, o, none⟩)) f).run P w = .ok (.pointer (some ⟨blk, o + p.1, none⟩)) w := by
          intro blk o
          have hgs : gs[f]? = some g := by simpa using g1
          simp only [Instr.fieldAt, Sem.run_bind, run_underlying h1, Result.andThen_ok, hgs, Instr.sureAddr, Sem.run_pure, fieldPlace, g3, hT.sizeOf w hfo.1.1, Sem.run_ite]
          rw [if_neg (by omega), g2, Result.andThen_ok, add_lit]
        cases x with
        | ptr b i off =>
          have hx' : VLc T S w h ρ (.ptr b i off) u := hx
          simp only [VLc] at hx'
          simp only at hr
          cases hp : isPlace (h b) with
          | false => rw [hp] at hr; exact hr.p.elim
          | true =>
          rw [hp] at hr
          cases hv : vw (h b) with
          | no => rw [hv] at hx'; exact hx'.elim
          | dead => cases hb : h b <;> rw [hb] at hp hv <;> simp [isPlace, vw] at hp hv
          | map => cases hb : h b <;> rw [hb] at hp hv <;> simp [isPlace, vw] at hp hv
          | grid _ _ _ => cases hb : h b <;> rw [hb] at hp hv <;> simp [isPlace, vw] at hp hv
          | var =>
            rw [hv] at hx'
            obtain ⟨blk, o, r1, rfl⟩ := hx'
            refine ⟨_, _, hr, run _ _, ?_⟩
            show VLc T S w h ρ (.ptr b i (off + p.1)) _
            simp only [VLc, hv]
            exact ⟨blk, o, r1, by rw [Nat.add_assoc]⟩
          | row e n =>
            rw [hv] at hx'
            obtain ⟨q, cap, r1, r2, rfl⟩ := hx'
            refine ⟨_, _, hr, run _ _, ?_⟩
            show VLc T S w h ρ (.ptr b i (off + p.1)) _
            simp only [VLc, hv]
            exact ⟨q, cap, r1, r2, by congr 3; omega⟩
        | eptr y off =>
          obtain ⟨blk, o, rfl, hS, hc⟩ := VF.eptr_to (show VF T S w (.eptr y off) u from hx)
          refine ⟨_, _, hr, run _ _, ?_⟩
          have := VF.eptr_of (off := off + p.1) hS hc
          rw [← Nat.add_assoc] at this; exact this
        | _ => exact hr.p.elim
    | _ => rw [hk] at hf; cases hf

theorem part_of (hT : TabOk P T) {t : Nat} {cs : List AV} {vs : Array Value} {off : Nat} (hl : vs.size = cs.length)
    (hc : ∀ (j : Nat) (c : AV) (u : Value), cs[j]? = some c → vs[j]? = some u → VLc T S w h ρ c u ∧ u.oneCell' = true) (hr : readAt (T t) (.agg cs) off Q) :
    ∃ v r, Q v ∧ (part t vs off).run P w = .ok r w ∧ VLt T S w h ρ v r := by
  unfold readAt at hr
  cases hk : kOk (T t).k with
  | false => rw [hk] at hr; exact hr.p.elim
  | true =>
    rw [hk] at hr
    have hag := hT.isAgg w hk
    cases ha : (T t).agg with
    | true =>
      rw [ha] at hr
      simp only at hr
      cases hle : Nat.ble (off + (T t).size) (cells (.agg cs)).length with
      | false => rw [hle] at hr; exact hr.p.elim
      | true =>
        rw [hle] at hr
        have hlen : off + (T t).size ≤ cs.length := Nat.le_of_ble_eq_true hle
        refine ⟨_, .agg (vs.extract off (off + (T t).size)), hr, ?_, ⟨_, rfl, ?_, ?_⟩⟩
        · simp [part, hag, ha, hT.sizeOf w hk]
        · simp [cells]; omega
        · intro j c u h1 h2
          simp only [cells] at h1
          have hj : j < (T t).size := by
            have := (List.getElem?_eq_some_iff.1 h1).1; simp at this; omega
          rw [List.getElem?_take, if_pos hj, List.getElem?_drop] at h1
          rw [Array.getElem?_extract] at h2
          split at h2
          · exact hc (off + j) c u h1 h2
          · cases h2
    | false =>
      rw [ha] at hr
      simp only at hr
      cases hx : (cells (.agg cs))[off]? with
      | none => rw [hx] at hr; exact hr.p.elim
      | some c =>
        rw [hx] at hr
        have hx' : cs[off]? = some c := hx
        have hlt := (List.getElem?_eq_some_iff.1 hx').1
        have hv : vs[off]? = some vs[off] := Array.getElem?_eq_getElem (by omega)
        refine ⟨c, vs[off], force_iff.1 hr, part_scalar hT hk ha hv, vlv_vlt (vlc_vlv (hc off c _ hx' hv).1)⟩

theorem fieldV_ok (hT : TabOk P T) {t f : Nat} {x : AV} {u : Value} (hx : VLt T S w h ρ x u) (hr : fieldV T t x f Q) : ∃ v r, Q v ∧ (Instr.field t u f).run P w = .ok r w ∧ VLt T S w h ρ v r := by
  unfold fieldV at hr
  cases hk : (T t).k with
  | struct fs =>
    rw [hk] at hr
    simp only at hr
    cases hg : fs[f]? with
    | none => rw [hg] at hr; exact hr.p.elim
    | some p =>
      rw [hg] at hr
      cases x with
      | agg cs =>
        obtain ⟨vs, rfl, hl, hc⟩ := (show VLv T S w h ρ (.agg cs) u from hx)
        obtain ⟨gs, h1, h2, h3, _⟩ := hT.struct hk
        obtain ⟨g, g1, g2, g3⟩ := fieldsOk_get h2 hg
        obtain ⟨v, r, a1, a2, a3⟩ := part_of (P := P) hT hl hc hr
        refine ⟨v, r, a1, ?_, a3⟩
        have hgs : gs[f]? = some g := by simpa using g1
        simp only [Instr.field, Sem.run_bind, run_underlying h1, Result.andThen_ok, hgs, asAgg, Sem.run_pure, g2, g3]
        exact a2
      | _ => exact hr.p.elim
  | _ => rw [hk] at hr; exact hr.p.elim

theorem run_indexAtS (hT : TabOk P T) {t e : Nat} (hk : (T t).k = .slice e) {blk o len cap : Nat} {k : IntKind} {n : Int} (h0 : 0 ≤ n) (h1 : n < len) :
    (Instr.indexAt t (.slice (some ⟨blk, o, none⟩) len cap) (.int k n)).run P w = .ok (.pointer (some ⟨blk, o + n.toNat * (T e).size, none⟩)) w := by
  obtain ⟨hu, he, _⟩ := hT.slice hk
  simp only [Instr.indexAt, asIntOf, Sem.run_bind, Sem.run_pure, Result.andThen_ok, run_underlying hu]
  simp only [h0, h1, and_self, if_true, Sem.run_bind, hT.sizeOf w he, Result.andThen_ok, Sem.run_pure, add_lit]
theorem run_indexAtA (hT : TabOk P T) {t m e : Nat} (hk : (T t).k = .arr m e) {blk o : Nat} {k : IntKind} {n : Int} (h0 : 0 ≤ n) (h1 : n < m) :
    (Instr.indexAt t (.pointer (some ⟨blk, o, none⟩)) (.int k n)).run P w = .ok (.pointer (some ⟨blk, o + n.toNat * (T e).size, none⟩)) w := by
  obtain ⟨hu, he, _⟩ := hT.arr hk
  simp only [Instr.indexAt, asIntOf, Sem.run_bind, Sem.run_pure, Result.andThen_ok, run_underlying hu, Instr.sureAddr]
  simp only [h0, h1, and_self, if_true, Sem.run_bind, hT.sizeOf w he, Result.andThen_ok, Sem.run_pure, add_lit]

theorem indexV_lst (hT : TabOk P T) {t e e' : Nat} {es : List AV} {u : Value} {k : IntKind} {n : Int} (hk : (T t).k = .slice e) (hsz : (T e).size = (T e').size) (hx : VF T S w (.lst e' es) u)
    (hr : Idx es n fun x => Q (.eptr x 0)) : ∃ v r, Q v ∧ (Instr.indexAt t u (.int k n)).run P w = .ok r w ∧ VLt T S w h ρ v r := by
  obtain ⟨x, h0, hx1, hq⟩ := hr.p
  obtain ⟨oa, cap, rfl, _, hne⟩ := hx.lst_to
  have hlt := (List.getElem?_eq_some_iff.1 hx1).1
  obtain ⟨p, rfl, hS, _, hc⟩ := hne (fun e => by subst e; simp at hlt)
  refine ⟨_, _, hq, run_indexAtS hT hk h0 (by omega), ?_⟩
  have := VF.eptr_of (off := 0) hS (hc n.toNat x hx1)
  rw [hsz]; exact this

theorem indexV_ok (hT : TabOk P T) (H : HR T Z S h ρ w) {t : Nat} {x i : AV} {u ui : Value} (hx : VLt T S w h ρ x u) (hi : VLt T S w h ρ i ui) (hr : indexV T t x i h Q) :
    ∃ v r, Q v ∧ (Instr.indexAt t u ui).run P w = .ok r w ∧ VLt T S w h ρ v r := by
  unfold indexV at hr
  cases i with
  | int k n =>
    obtain rfl := vl_int hi
    simp only at hr
    cases hk : (T t).k with
    | slice e =>
      rw [hk] at hr
      simp only at hr
      cases x with
      | lst e' es =>
        simp only at hr
        cases hs : Nat.beq (T e).size (T e').size with
        | false => rw [hs] at hr; exact hr.p.elim
        | true => rw [hs] at hr; exact indexV_lst hT hk (Nat.eq_of_beq_eq_true hs) hx hr
      | ref b =>
        simp only at hr
        have hx' : VLc T S w h ρ (.ref b) u := hx
        simp only [VLc] at hx'
        cases hb : h b with
        | row e' es =>
          simp only [hb] at hr hx'
          simp only [vw] at hx'
          obtain ⟨oa, cap, r1, rfl⟩ := hx'
          cases hs : Nat.beq (T e).size (T e').size with
          | false => rw [hs] at hr; exact hr.p.elim
          | true =>
            rw [hs] at hr
            have hs := Nat.eq_of_beq_eq_true hs
            have l0 := hr.lo
            have l1 := hr.hi
            obtain ⟨oa2, cap2, vs, q1, q2, q3, q4⟩ := H.rowFlat hb
            rw [r1] at q1; cases q1
            have hoa : ∃ p, oa = some p := by
              cases oa with
              | some p => exact ⟨p, rfl⟩
              | none =>
                have h0 := H.hb b
                unfold HB at h0
                rw [hb] at h0
                obtain ⟨oa3, cap3, s1, s2, s3, _⟩ := h0
                rw [r1] at s1; cases s1
                have := s3 rfl; omega
            obtain ⟨p, rfl⟩ := hoa
            refine ⟨_, _, hr.p, run_indexAtS hT hk l0 (by omega), ?_⟩
            show VLc T S w h ρ (.ptr b n.toNat 0) _
            simp only [VLc, hb, vw]
            exact ⟨p, cap, r1, by omega, by rw [hs]; rfl⟩
        | fz e' es =>
          simp only [hb] at hr hx'
          simp only [vw] at hx'
          obtain ⟨oa, cap, r1, rfl⟩ := hx'
          cases hs : Nat.beq (T e).size (T e').size with
          | false => rw [hs] at hr; exact hr.p.elim
          | true =>
            rw [hs] at hr
            obtain ⟨oa2, cap2, q1, q2⟩ := H.fz hb
            rw [r1] at q1; cases q1
            exact indexV_lst hT hk (Nat.eq_of_beq_eq_true hs) q2 hr
        | _ => simp only [hb] at hr; exact hr.p.elim
      | sub b j m =>
        simp only at hr
        have hx' : VLc T S w h ρ (.sub b j m) u := hx
        simp only [VLc] at hx'
        cases hb : h b with
        | row e' es =>
          simp only [hb] at hr hx'
          simp only [vw] at hx'
          obtain ⟨oa, cap, oa', r1, r2, rfl, r3⟩ := hx'
          cases hs : Nat.beq (T e).size (T e').size with
          | false => rw [hs] at hr; exact hr.p.elim
          | true =>
            rw [hs] at hr
            have hs := Nat.eq_of_beq_eq_true hs
            have l0 := hr.lo
            have l1 := hr.hi
            have hcp := H.rowCap hb r1
            obtain ⟨p, rfl, rfl⟩ := r3 (by omega)
            refine ⟨_, _, hr.p, run_indexAtS hT hk l0 (by omega), ?_⟩
            show VLc T S w h ρ (.ptr b (j + n.toNat) 0) _
            simp only [VLc, hb, vw]
            exact ⟨p, cap, r1, by omega, by rw [hs, Nat.add_mul]; congr 3; omega⟩
        | _ => simp only [hb] at hr; exact hr.p.elim
      | _ => exact hr.p.elim
    | arr m e =>
      rw [hk] at hr
      simp only at hr
      cases x with
      | ptr b i off =>
        cases i with
        | succ i => exact hr.p.elim
        | zero =>
        cases off with
        | succ off => exact hr.p.elim
        | zero =>
        simp only at hr
        have hx' : VLc T S w h ρ (.ptr b 0 0) u := hx
        simp only [VLc] at hx'
        cases hb : h b with
        | row e' es =>
          simp only [hb] at hr hx'
          simp only [vw] at hx'
          obtain ⟨p, cap, r1, r2, rfl⟩ := hx'
          cases hs : Nat.beq (T e).size (T e').size && Nat.beq m es.length with
          | false => rw [hs] at hr; exact hr.p.elim
          | true =>
            rw [hs] at hr
            simp only [Bool.and_eq_true] at hs
            have hs1 := Nat.eq_of_beq_eq_true hs.1
            have hs2 := Nat.eq_of_beq_eq_true hs.2
            have l0 := hr.lo
            have l1 := hr.hi
            refine ⟨_, _, hr.p, by simpa using run_indexAtA (o := p.2) (blk := p.1) hT hk l0 l1, ?_⟩
            show VLc T S w h ρ (.ptr b n.toNat 0) _
            simp only [VLc, hb, vw]
            exact ⟨p, cap, r1, by omega, by rw [hs1]; rfl⟩
        | _ => simp only [hb] at hr; exact hr.p.elim
      | eptr y off =>
        simp only at hr
        obtain ⟨blk, o, rfl, hS, hc⟩ := VF.eptr_to (show VF T S w (.eptr y off) u from hx)
        refine ⟨_, _, hr.p, run_indexAtA hT hk hr.lo hr.hi, ?_⟩
        have := VF.eptr_of (off := off + n.toNat * (T e).size) hS hc
        rw [← Nat.add_assoc] at this; exact this
      | _ => exact hr.p.elim
    | _ => rw [hk] at hr; exact hr.p.elim
  | _ => exact hr.p.elim

theorem lenV_ok {x : AV} {u : Value} {n : Nat} (hx : VLt T S w h ρ x u) (hn : lenV h x = some n) (hne : (∀ s, x ≠ .str s) ∧ (∀ b, x ≠ .mp b) ∧ x ≠ .nmp) : ∃ oa cap, u = .slice oa n cap := by
  cases x with
  | lst e es => simp only [lenV, Option.some.injEq] at hn; subst hn; obtain ⟨oa, cap, r, _⟩ := (show VF T S w (.lst e es) u from hx).lst_to; exact ⟨oa, cap, r⟩
  | nsl e => simp only [lenV, Option.some.injEq] at hn; subst hn; exact ⟨none, 0, vl_nsl hx⟩
  | ref b =>
    have hx' : VLc T S w h ρ (.ref b) u := hx
    simp only [VLc] at hx'
    cases hb : h b <;> simp only [lenV, hb] at hn <;> first | cases hn; done | skip
    all_goals
      simp only [Option.some.injEq] at hn
      subst hn
      simp only [hb, vw] at hx'
      obtain ⟨oa, cap, _, r⟩ := hx'
      exact ⟨_, cap, r⟩
  | sub b i m =>
    have hx' : VLc T S w h ρ (.sub b i m) u := hx
    simp only [VLc] at hx'
    cases hb : h b <;> simp only [lenV, hb] at hn <;> first | cases hn; done | skip
    all_goals
      simp only [Option.some.injEq] at hn
      subst hn
      simp only [hb, vw] at hx'
      obtain ⟨oa, cap, oa', _, _, r, _⟩ := hx'
      exact ⟨_, _, r⟩
  | fsub b m =>
    have hx' : VLc T S w h ρ (.fsub b m) u := hx
    simp only [VLc] at hx'
    cases hb : h b <;> simp only [lenV, hb] at hn <;> first | cases hn; done | skip
    all_goals
      simp only [Option.some.injEq] at hn
      subst hn
      simp only [hb, vw] at hx'
      obtain ⟨oa, cap, _, _, r⟩ := hx'
      exact ⟨_, _, r⟩
  | str s => exact absurd rfl (hne.1 s)
  | mp b => exact absurd rfl (hne.2.1 b)
  | nmp => exact absurd rfl hne.2.2
  | _ => simp [lenV] at hn

theorem lengthV_ok (hT : TabOk P T) (H : HR T Z S h ρ w) {t ty : Nat} {x : AV} {u : Value} {ts : Array Nat} {us : Array Value} (h0 : ts[0]? = some t) (h1 : us[0]? = some u) (hx : VLt T S w h ρ x u) (hr : lengthV T t x h Q) :
    ∃ v r, Q v ∧ (Builtin.len_ ts ty us).run P w = .ok r w ∧ VLt T S w h ρ v r := by
  have open' : ∀ d, P.underlying t = some d → ∀ r, ((match d, u with
      | .string, .string s => pure (goInt s.size)
      | .array n _, _ => pure (goInt n)
      | .slice _, .slice _ n _ => pure (goInt n)
      | .map _ _, .map none => pure (goInt 0)
      | .map _ _, .map (some r) => do
        let .map entries _ ← getObj r | stuck "len: map expected"
        pure (goInt entries.size)
      | _, _ => stuck "" : Sem Value)).run P w = .ok r w → (Builtin.len_ ts ty us).run P w = .ok r w := by
    intro d hd r hrun
    unfold Builtin.len_
    simp only [h0, h1, Sem.run_bind, run_underlying hd, Result.andThen_ok]
    cases d <;> cases u <;> first | exact hrun | (simp only [run_stuck] at hrun; cases hrun; done) | skip
    rename_i o
    cases o <;> first | exact hrun | (simp only [run_stuck] at hrun; cases hrun)
  unfold lengthV at hr
  cases hk : (T t).k with
  | arr n e =>
    rw [hk] at hr
    exact ⟨_, _, hr, open' _ (hT.arr hk).1 _ rfl, vl_mkint _ _⟩
  | slice e =>
    rw [hk] at hr
    simp only at hr
    have main : ∀ n, lenV h x = some n → ((∀ s, x ≠ .str s) ∧ (∀ b, x ≠ .mp b) ∧ x ≠ .nmp) → Q (.int .i64 n) → ∃ v r, Q v ∧ (Builtin.len_ ts ty us).run P w = .ok r w ∧ VLt T S w h ρ v r := by
      intro n hn hne hq
      obtain ⟨oa, cap, rfl⟩ := lenV_ok hx hn hne
      exact ⟨_, _, hq, open' _ (hT.slice hk).1 _ rfl, vl_mkint _ _⟩
    cases x with
    | str s => exact hr.p.elim
    | mp b => exact hr.p.elim
    | nmp => exact hr.p.elim
    | _ =>
      all_goals
        simp only at hr
        split at hr
        · rename_i n hn; exact main n hn ⟨fun s => by simp, fun b => by simp, by simp⟩ hr
        · exact hr.p.elim
  | str =>
    rw [hk] at hr
    simp only at hr
    cases x with
    | str s => obtain rfl := vl_str hx; exact ⟨_, _, hr, open' _ (hT.str hk) _ rfl, vl_mkint _ _⟩
    | _ => exact hr.p.elim
  | map k e =>
    rw [hk] at hr
    simp only at hr
    cases x with
    | mp b =>
      simp only at hr
      have hx' : VLc T S w h ρ (.mp b) u := hx
      simp only [VLc] at hx'
      cases hb : h b with
      | map es =>
        simp only [hb] at hr hx'
        simp only [vw] at hx'
        obtain ⟨r, r1, rfl⟩ := hx'
        obtain ⟨r2, q1, rs, clock, q2, q3⟩ := H.map hb
        rw [r1] at q1; cases q1
        have hlen : ∀ {es : List (AV × AV)} {rs : List MapEntry}, MapRel T S w es rs → es.length = rs.length := by
          intro es
          induction es with
          | nil => intro rs h; cases rs with | nil => rfl | cons a b => exact h.elim
          | cons a es ih => intro rs h; cases rs with | nil => exact h.elim | cons b rs => obtain ⟨k, v⟩ := a; simp [ih h.2.2]
        refine ⟨_, goInt rs.size, hr, open' _ (hT.map hk).1 _ ?_, ?_⟩
        · simp [getObj, Sem.run, q2]
        · have := hlen q3.1
          simp at this
          rw [this]; exact vl_mkint _ _
      | _ => simp only [hb] at hr; exact hr.p.elim
    | nmp => obtain rfl := vl_nmp hx; exact ⟨_, _, hr, open' _ (hT.map hk).1 _ rfl, vl_mkint _ _⟩
    | _ => exact hr.p.elim
  | _ => rw [hk] at hr; exact hr.p.elim

theorem maxV_ok {l : List AV} {us : Array Value} {ts : Array Nat} {ty : Nat} (hl : us.size = l.length) (hv : ∀ (j : Nat) (c : AV) (u : Value), l[j]? = some c → us[j]? = some u → VLt T S w h ρ c u) (hr : maxV l Q) :
    ∃ v r, Q v ∧ (Builtin.max_ ts ty us).run P w = .ok r w ∧ VLt T S w h ρ v r := by
  unfold maxV at hr
  split at hr
  · rename_i k a k' b
    have e1 : us = #[.int k a, .int k' b] := by
      obtain ⟨l0⟩ := us
      match l0, hl with
      | [x, y], _ =>
        have := vl_int (hv 0 _ x rfl rfl)
        have := vl_int (hv 1 _ y rfl rfl)
        subst x y; rfl
    subst e1
    cases hk : Nat.beq (kIx k) (kIx k') with
    | false => rw [hk] at hr; exact hr.p.elim
    | true => rw [hk] at hr; exact ⟨_, _, hr, by simp [Builtin.max_, Builtin.max2], vl_mkint _ _⟩
  · rename_i k a k' b k'' d
    have e1 : us = #[.int k a, .int k' b, .int k'' d] := by
      obtain ⟨l0⟩ := us
      match l0, hl with
      | [x, y, z], _ =>
        have := vl_int (hv 0 _ x rfl rfl)
        have := vl_int (hv 1 _ y rfl rfl)
        have := vl_int (hv 2 _ z rfl rfl)
        subst x y z; rfl
    subst e1
    cases hk : Nat.beq (kIx k) (kIx k') && Nat.beq (kIx k) (kIx k'') with
    | false => rw [hk] at hr; exact hr.p.elim
    | true => rw [hk] at hr; exact ⟨_, _, hr, by simp [Builtin.max_, Builtin.max2], vl_mkint _ _⟩
  · exact hr.p.elim
theorem minV_ok {l : List AV} {us : Array Value} {ts : Array Nat} {ty : Nat} (hl : us.size = l.length) (hv : ∀ (j : Nat) (c : AV) (u : Value), l[j]? = some c → us[j]? = some u → VLt T S w h ρ c u) (hr : minV l Q) :
    ∃ v r, Q v ∧ (Builtin.min_ ts ty us).run P w = .ok r w ∧ VLt T S w h ρ v r := by
  unfold minV at hr
  split at hr
  · rename_i k a k' b
    have e1 : us = #[.int k a, .int k' b] := by
      obtain ⟨l0⟩ := us
      match l0, hl with
      | [x, y], _ =>
        have := vl_int (hv 0 _ x rfl rfl)
        have := vl_int (hv 1 _ y rfl rfl)
        subst x y; rfl
    subst e1
    cases hk : Nat.beq (kIx k) (kIx k') with
    | false => rw [hk] at hr; exact hr.p.elim
    | true => rw [hk] at hr; exact ⟨_, _, hr, by simp [Builtin.min_, Builtin.min2], vl_mkint _ _⟩
  · exact hr.p.elim

theorem extractV_ok {x : AV} {u : Value} {i : Nat} (hx : VLt T S w h ρ x u) (hr : extractV x i Q) : ∃ v r, Q v ∧ (Instr.extract u i).run P w = .ok r w ∧ VLt T S w h ρ v r := by
  unfold extractV at hr
  cases x with
  | tup xs =>
    obtain ⟨vs, rfl, hl, hc⟩ := hx
    simp only at hr
    cases hi : xs[i]? with
    | none => rw [hi] at hr; exact hr.p.elim
    | some c =>
      rw [hi] at hr
      have hlt := (List.getElem?_eq_some_iff.1 hi).1
      have hv : vs[i]? = some vs[i] := Array.getElem?_eq_getElem (by omega)
      exact ⟨c, vs[i], force_iff.1 hr, by simp [Instr.extract, hv], vlv_vlt (hc i c _ hi hv)⟩
  | _ => exact hr.p.elim

theorem moveV_ok (H : HR T Z S h ρ w) (fr : Fr h nx K) (hn : Nexts T Z S w h ρ K N) {x : AV} {u : Value} (hx : VLt T S w h ρ x u) (hr : moveV x nx K) : N u w := by
  unfold moveV at hr
  have hr := force_iff.1 hr
  cases x with
  | nsl e =>
    obtain rfl := vl_nsl hx
    obtain ⟨H1, G1⟩ := H.row0 (fr _ _ _ hr nx (Nat.le_refl _) (by omega)) e none
    refine hn _ _ _ _ _ S _ hr H1 G1 ?_
    show VLc T S w (hset h nx _) _ (.ref nx) _
    simp only [VLc, hset_same, vw]
    exact ⟨none, 0, rset_same _ _ _, rfl⟩
  | _ => exact hn.pure H hr hx

end
end Go.Ev
