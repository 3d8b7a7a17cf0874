/- Slices of slices; built values; conversions; what is made. -/
import Derived.Test.YtbhjocgepgpnmaaEvOp8
set_option linter.unusedVariables false
set_option linter.unusedSimpArgs false
namespace Go.Ev

section
variable {P : Program} {T : Tab} {Z : Base} {S : Nat → Prop} {w : World} {h : AHeap} {ρ : Rho} {K : AV → Ups → Nat → Prop} {nx : Nat} {N : Value → World → Prop} {Q : AV → Prop}

/-- A bound, or what stands where there is none. -/
def IsInt (d : Int) (o : Option Value) (n : Int) : Prop := match o with
  | .none => n = d
  | some v => ∃ k, v = .int k n
theorem intOr_ok {d n : Int} {o : Option AV} {ov : Option Value} (h1 : o.isSome = ov.isSome) (h2 : ∀ x v, o = some x → ov = some v → VLt T S w h ρ x v) (hr : intOr d o = some n) : IsInt d ov n := by
  cases o with
  | none => cases ov with
    | none => simp only [intOr, Option.some.injEq] at hr; exact hr.symm
    | some v => simp at h1
  | some x => cases ov with
    | none => simp at h1
    | some v =>
      cases x <;> simp only [intOr] at hr <;> first | cases hr; done | skip
      rename_i k m
      cases hr
      exact ⟨k, vl_int (h2 _ _ rfl rfl)⟩

theorem run_sliceAt (hT : TabOk P T) {t e : Nat} (hk : (T t).k = .slice e) {oa : Option Addr} {n cap : Nat} {lo hi : Option Value} {l m : Int} (hc : n ≤ cap) (hl : IsInt 0 lo l) (hm : IsInt n hi m) (h0 : 0 ≤ l) (h1 : l ≤ m) (h2 : m ≤ n) :
    (Instr.sliceAt t (.slice oa n cap) lo hi none).run P w = .ok (.slice (if cap = l.toNat then oa else oa.map (·.add (l.toNat * (T e).size))) (m.toNat - l.toNat) (cap - l.toNat)) w := by
  obtain ⟨hu, he, _⟩ := hT.slice hk
  have bound : ∀ (y : Nat) (k : IntKind) (i : Int) (c : BoundsCode), 0 ≤ i → i ≤ y → (Instr.sliceBound (.int k i) y c).run P w = .ok i.toNat w := by
    intro y k i c a b
    simp [Instr.sliceBound, asIntOf, a, b]
  have bounds : (Instr.sliceBounds true n cap lo hi none).run P w = .ok (l.toNat, m.toNat, cap) w := by
    unfold Instr.sliceBounds
    cases lo with
    | none =>
      simp only [IsInt] at hl
      cases hi with
      | none => simp only [IsInt] at hm; subst hl hm; simp
      | some v =>
        obtain ⟨k, rfl⟩ := hm
        subst hl
        simp [bound cap k m _ (by omega) (by omega)]
    | some v =>
      obtain ⟨k, rfl⟩ := hl
      cases hi with
      | none => simp only [IsInt] at hm; subst hm; simp [bound n k l _ h0 h1]
      | some v =>
        obtain ⟨k2, rfl⟩ := hm
        simp [bound cap k2 m _ (by omega) (by omega), bound m.toNat k l _ h0 (by omega)]
  simp only [Instr.sliceAt, Sem.run_bind, run_underlying hu, Result.andThen_ok]
  simp only [Instr.slice, Sem.run_bind, run_underlying hu, Result.andThen_ok, bounds, hT.sizeOf w he, Sem.run_pure]

theorem take_drop_eq (es : List AV) (l m : Nat) : (es.take m).drop l = (es.drop l).take (m - l) := by rw [List.drop_take]

theorem VF.cut {e : Nat} {es : List AV} {oa : Option Addr} {cap : Nat} {l m : Nat} {z : Nat} (H : VF T S w (.lst e es) (.slice oa es.length cap)) (hz : es ≠ [] → z = (T e).size) (hc : es.length ≤ cap) (h1 : l ≤ m) (h2 : m ≤ es.length) :
    VF T S w (.lst e ((es.take m).drop l)) (.slice (if cap = l then oa else oa.map (·.add (l * z))) (m - l) (cap - l)) := by
  rw [take_drop_eq]
  refine H.sub (i := l) (n := m - l) (by omega) (by omega) fun hn => ?_
  obtain ⟨_, _, e1, _, e2⟩ := H.lst_to
  have hne : es ≠ [] := fun e => by subst e; simp at h2; omega
  obtain ⟨p, e3, _⟩ := e2 hne
  cases e1
  refine ⟨p, e3, ?_⟩
  rw [if_neg (by omega), e3, hz hne]
  show some ((Addr.mk p.1 p.2 none).add _) = _
  rw [add_lit]

theorem lst_forms {e : Nat} {es : List AV} {lo hi : Option AV} {l m : Int} (hl : intOr 0 lo = some l) (hm : intOr es.length hi = some m) (h0 : 0 ≤ l) (h1 : l ≤ m) (h2 : m ≤ es.length)
    (hq : sliceL lo hi e es l.toNat m.toNat Q) : Q (.lst e ((es.take m.toNat).drop l.toNat)) := by
  have hm0 : hi = .none → es.take m.toNat = es := by
    intro hh; subst hh; simp only [intOr, Option.some.injEq] at hm; subst hm; simp
  have hl0 : lo = .none → l.toNat = 0 := by
    intro hh; subst hh; simp only [intOr, Option.some.injEq] at hl; subst hl; rfl
  cases lo with
  | none =>
    rw [hl0 rfl, List.drop_zero]
    cases hi with
    | none => rw [hm0 rfl]; exact hq
    | some v => exact hq
  | some v =>
    cases hi with
    | none => rw [hm0 rfl]; exact hq
    | some v => exact hq

theorem sliceV_ok (hT : TabOk P T) (H : HR T Z S h ρ w) {t e : Nat} (hk : (T t).k = .slice e) {x : AV} {u : Value} {lo hi mx : Option AV} {vlo vhi vmx : Option Value} (hx : VLt T S w h ρ x u)
    (hlo : lo.isSome = vlo.isSome) (hhi : hi.isSome = vhi.isSome) (hmx : mx.isSome = vmx.isSome)
    (vl : ∀ y v, lo = some y → vlo = some v → VLt T S w h ρ y v) (vh : ∀ y v, hi = some y → vhi = some v → VLt T S w h ρ y v) (vm : ∀ y v, mx = some y → vmx = some v → VLt T S w h ρ y v)
    (hr : sliceV T e x lo hi mx h Q) : ∃ v r, Q v ∧ (Instr.sliceAt t u vlo vhi vmx).run P w = .ok r w ∧ VLt T S w h ρ v r := by
  obtain ⟨hu, he, _⟩ := hT.slice hk
  unfold sliceV at hr
  cases mx with
  | some m0 =>
    cases vmx with
    | none => simp at hmx
    | some vm0 =>
      cases x with
      | ref b =>
        cases lo with
        | some l0 => exact hr.p.elim
        | none =>
          cases vlo with
          | some v => simp at hlo
          | none =>
          cases hi with
          | none => exact hr.p.elim
          | some h0 =>
            cases vhi with
            | none => simp at hhi
            | some vh0 =>
            cases h0 with
            | int k n =>
              cases m0 with
              | int k2 m =>
                obtain rfl := vl_int (vh _ _ rfl rfl)
                obtain rfl := vl_int (vm _ _ rfl rfl)
                simp only at hr
                have hx' : VLc T S w h ρ (.ref b) u := hx
                simp only [VLc] at hx'
                cases hb : h b with
                | row e' es =>
                  simp only [hb] at hr hx'
                  simp only [vw] at hx'
                  obtain ⟨oa, cap, r1, rfl⟩ := hx'
                  cases hs : Nat.beq (T e).size (T e').size with
                  | false => rw [hs] at hr; exact hr.p.elim
                  | true =>
                    rw [hs] at hr
                    have hmn := hr.c
                    subst hmn
                    have hcut := hr.p
                    have hl := hcut.lo
                    have hm := hcut.mid
                    have hh := hcut.hi
                    obtain ⟨oa2, cap2, vs, q1, q2, q3, q4⟩ := H.rowFlat hb
                    rw [r1] at q1; cases q1
                    refine ⟨_, .slice (if m.toNat = 0 then oa.map adr else (oa.map adr).map (·.add (0 * (T e).size))) (m.toNat - 0) (m.toNat - 0), hcut.p, ?_, ?_⟩
                    · simp only [Instr.sliceAt, Sem.run_bind, run_underlying hu, Result.andThen_ok]
                      have b1 : (Instr.sliceBound (.int k2 m) cap .slice3Acap).run P w = .ok m.toNat w := by
                        have : m ≤ (cap : Int) := by omega
                        simp [Instr.sliceBound, asIntOf, this, hm]
                      have b2 : (Instr.sliceBound (.int k m) m.toNat .slice3B).run P w = .ok m.toNat w := by
                        have : (m.toNat : Int) = m := Int.toNat_of_nonneg hm
                        simp only [Instr.sliceBound, asIntOf, Sem.run_bind, Sem.run_pure, Result.andThen_ok, this, hm, Int.le_refl, and_self, if_true]
                      have bounds : (Instr.sliceBounds true es.length cap none (some (.int k m)) (some (.int k2 m))).run P w = .ok (0, m.toNat, m.toNat) w := by
                        simp only [Instr.sliceBounds, if_true, Sem.run_bind, b1, Result.andThen_ok, b2, Sem.run_pure]
                      simp only [Instr.slice, Sem.run_bind, run_underlying hu, Result.andThen_ok, bounds, hT.sizeOf w he, Sem.run_pure]
                    · show VLc T S w h ρ (.fsub b m.toNat) _
                      simp only [VLc, hb, vw]
                      refine ⟨oa, cap, r1, by omega, ?_⟩
                      have h0 : ∀ a : Addr, a.add 0 = a := fun a => by simp [Addr.add]
                      cases oa <;> simp only [Nat.zero_mul, Option.map_some, Option.map_none, h0, ite_self, Nat.sub_zero]
                | _ => simp only [hb] at hr; exact hr.p.elim
              | _ => exact hr.p.elim
            | _ => exact hr.p.elim
      | _ => exact hr.p.elim
  | none =>
    cases vmx with
    | some v => simp at hmx
    | none =>
    simp only at hr
    cases hln : lenV h x with
    | none => rw [hln] at hr; exact hr.p.elim
    | some len =>
      rw [hln] at hr
      cases hs : Nat.beq (T (elemT h x)).size (T e).size with
      | false => rw [hs] at hr; exact hr.p.elim
      | true =>
        rw [hs] at hr
        have hs := Nat.eq_of_beq_eq_true hs
        simp only at hr
        cases hil : intOr 0 lo with
        | none => rw [hil] at hr; exact hr.p.elim
        | some l =>
          rw [hil] at hr
          cases him : intOr len hi with
          | none => rw [him] at hr; exact hr.p.elim
          | some m =>
            rw [him] at hr
            have il := intOr_ok hlo vl hil
            have im := intOr_ok hhi vh him
            cases x with
            | lst e' es =>
              simp only [lenV, Option.some.injEq] at hln
              subst hln
              simp only at hr
              have hv : VF T S w (.lst e' es) u := hx
              obtain ⟨oa, cap, rfl, hcap, hne⟩ := hv.lst_to
              have hcl : es.length ≤ cap := by
                by_cases hh : es = []
                · subst hh; simp
                · exact hcap hh
              refine ⟨_, _, lst_forms hil him hr.lo hr.mid hr.hi hr.p, run_sliceAt hT hk hcl il im hr.lo hr.mid hr.hi, ?_⟩
              have l1 := hr.lo; have l2 := hr.mid; have l3 := hr.hi
              exact hv.cut (fun _ => hs.symm) hcl (by omega) (by omega)
            | ref b =>
              have hx' : VLc T S w h ρ (.ref b) u := hx
              simp only [VLc] at hx'
              simp only at hr
              cases hb : h b with
              | fz e' es =>
                simp only [hb] at hr hx'
                simp only [lenV, hb, Option.some.injEq] at hln
                subst hln
                simp only [vw] at hx'
                obtain ⟨oa, cap, r1, rfl⟩ := hx'
                obtain ⟨oa2, cap2, r2, hv⟩ := H.fz hb
                rw [r1] at r2; cases r2
                obtain ⟨_, _, e1, hcap, _⟩ := hv.lst_to
                cases e1
                have hcl : es.length ≤ cap := by
                  by_cases hh : es = []
                  · subst hh; simp
                  · exact hcap hh
                simp only [elemT, hb] at hs
                refine ⟨_, _, lst_forms hil him hr.lo hr.mid hr.hi hr.p, run_sliceAt hT hk hcl il im hr.lo hr.mid hr.hi, ?_⟩
                have l1 := hr.lo; have l2 := hr.mid; have l3 := hr.hi
                exact hv.cut (fun _ => hs.symm) hcl (by omega) (by omega)
              | row e' es =>
                simp only [hb] at hr hx'
                simp only [lenV, hb, Option.some.injEq] at hln
                subst hln
                simp only [vw] at hx'
                obtain ⟨oa, cap, r1, rfl⟩ := hx'
                obtain ⟨oa2, cap2, vs, q1, q2, q3, q4⟩ := H.rowFlat hb
                rw [r1] at q1; cases q1
                simp only [elemT, hb] at hs
                have l1 := hr.lo; have l2 := hr.mid; have l3 := hr.hi
                refine ⟨_, _, hr.p, run_sliceAt hT hk q2 il im hr.lo hr.mid hr.hi, ?_⟩
                show VLc T S w h ρ (.sub b l.toNat (m.toNat - l.toNat)) _
                simp only [VLc, hb, vw]
                refine ⟨oa, cap, _, r1, by omega, rfl, fun hn => ?_⟩
                have hoa : ∃ p, oa = some p := by
                  cases oa with
                  | some p => exact ⟨p, rfl⟩
                  | none =>
                    have h0 := H.hb b
                    unfold HB at h0
                    rw [hb] at h0
                    obtain ⟨oa3, cap3, s1, s2, s3, _⟩ := h0
                    rw [r1] at s1; cases s1
                    have := s3 rfl; omega
                obtain ⟨p, rfl⟩ := hoa
                refine ⟨p, rfl, ?_⟩
                rw [if_neg (by omega), hs]
                show some ((Addr.mk p.1 p.2 none).add _) = _
                rw [add_lit]
              | _ => simp only [hb] at hr; exact hr.p.elim
            | sub b i n =>
              have hx' : VLc T S w h ρ (.sub b i n) u := hx
              simp only [VLc] at hx'
              simp only at hr
              cases hb : h b with
              | row e' es =>
                simp only [hb] at hr hx'
                simp only [lenV, hb, Option.some.injEq] at hln
                subst hln
                simp only [vw] at hx'
                obtain ⟨oa, cap, oa', r1, r2, rfl, r3⟩ := hx'
                obtain ⟨oa2, cap2, vs, q1, q2, q3, q4⟩ := H.rowFlat hb
                rw [r1] at q1; cases q1
                simp only [elemT, hb] at hs
                have l1 := hr.lo; have l2 := hr.mid; have l3 := hr.hi
                refine ⟨_, _, hr.p, run_sliceAt hT hk (by omega) il im hr.lo hr.mid hr.hi, ?_⟩
                show VLc T S w h ρ (.sub b (i + l.toNat) (m.toNat - l.toNat)) _
                simp only [VLc, hb, vw]
                refine ⟨oa, cap, _, r1, by omega, by rw [Nat.sub_sub], fun hn => ?_⟩
                obtain ⟨p, rfl, rfl⟩ := r3 (by omega)
                refine ⟨p, rfl, ?_⟩
                rw [if_neg (by omega), hs]
                show some ((Addr.mk p.1 (p.2 + i * (T e).size) none).add _) = _
                rw [add_lit, Nat.add_mul]; congr 2; omega
              | _ => simp only [hb] at hr; exact hr.p.elim
            | _ => exact hr.p.elim

/-- Building a struct. -/
theorem fill_ok {cs : List AV} {vs : Array Value} {place : Nat → Option (Nat × Nat)} {t : TI} (hp : ∀ i off, fieldOff t i = some off → ∃ sz, place i = some (off, sz)) :
    ∀ {ps : List (Nat × AV)} {qs : List (Nat × Value)} {cs cs' : List AV} {vs : Array Value}, vs.size = cs.length →
      (∀ (j : Nat) (c : AV) (u : Value), cs[j]? = some c → vs[j]? = some u → VLc T S w h ρ c u ∧ u.oneCell' = true) →
      ps.length = qs.length → (∀ (k : Nat) (p : Nat × AV) (q : Nat × Value), ps[k]? = some p → qs[k]? = some q → p.1 = q.1 ∧ VLv T S w h ρ p.2 q.2 ∧ (cells p.2).all isCell = true ∧ ∃ off, place p.1 = some (off, (cells p.2).length) ∧ off + (cells p.2).length ≤ cs.length) →
      fillParts t cs ps = some cs' → ∃ vs', Instr.fill place vs qs = some vs' ∧ vs'.size = cs'.length ∧
        (∀ (j : Nat) (c : AV) (u : Value), cs'[j]? = some c → vs'[j]? = some u → VLc T S w h ρ c u ∧ u.oneCell' = true) := by
  intro ps
  induction ps with
  | nil =>
    intro qs cs cs' vs hl hv hlen _ hf
    cases qs with
    | cons a b => simp at hlen
    | nil => simp only [fillParts, Option.some.injEq] at hf; subst hf; exact ⟨vs, rfl, hl, hv⟩
  | cons p ps ih =>
    intro qs cs cs' vs hl hv hlen hpq hf
    cases qs with
    | nil => simp at hlen
    | cons q qs =>
      obtain ⟨e1, e2, e3, off, e4, e5⟩ := hpq 0 p q rfl rfl
      obtain ⟨i, v⟩ := p
      obtain ⟨i', u⟩ := q
      simp only at e1 e2 e3 e4 e5
      subst e1
      simp only [fillParts] at hf
      cases ho : fieldOff t i with
      | none => rw [ho] at hf; cases hf
      | some off' =>
        rw [ho] at hf
        obtain ⟨sz, hs⟩ := hp i off' ho
        rw [e4] at hs; cases hs
        obtain ⟨c1, c2⟩ := vlv_cells e2 e3
        -- the cells, set one by one
        have key : ∀ (l : List Value) (k : Nat) (acc : Array Value), (l.zipIdx k).foldl (fun cs (c, j) => cs.setIfInBounds (off + j) c) acc = (l.zipIdx k).foldl (fun cs (c, j) => cs.setIfInBounds (off + j) c) acc := fun _ _ _ => rfl
        have size : ∀ (l : List (Value × Nat)) (acc : Array Value), (l.foldl (fun (cs : Array Value) (x : Value × Nat) => cs.setIfInBounds (off + x.2) x.1) acc).size = acc.size := by
          intro l
          induction l with
          | nil => intro acc; rfl
          | cons a l ih => intro acc; rw [List.foldl_cons, ih]; simp
        have get : ∀ (l : List Value) (k : Nat) (acc : Array Value) (j : Nat), ((l.zipIdx k).foldl (fun (cs : Array Value) (x : Value × Nat) => cs.setIfInBounds (off + x.2) x.1) acc)[j]? =
            if off + k ≤ j ∧ j < off + k + l.length ∧ j < acc.size then l[j - (off + k)]? else acc[j]? := by
          intro l
          induction l with
          | nil => intro k acc j; simp; intro a b; omega
          | cons a l ih =>
            intro k acc j
            rw [List.zipIdx_cons, List.foldl_cons, ih]
            simp only [Array.size_setIfInBounds, List.length_cons]
            by_cases h1 : j = off + k
            · subst h1
              rw [if_neg (by omega)]
              by_cases h2 : off + k < acc.size
              · rw [if_pos ⟨Nat.le_refl _, by omega, h2⟩]; simp [h2]
              · rw [if_neg (by omega)]; simp [h2]
            · by_cases h2 : off + k ≤ j ∧ j < off + k + (l.length + 1) ∧ j < acc.size
              · rw [if_pos (by omega), if_pos h2]
                rw [show j - (off + k) = (j - (off + (k + 1))) + 1 by omega]; simp
              · rw [if_neg (by omega), if_neg h2]
                rw [Array.getElem?_setIfInBounds_ne (by omega)]
        have hz : u.cells.zipIdx.foldl (fun cs (c, j) => cs.setIfInBounds (off + j) c) vs = (u.cells.toList.zipIdx 0).foldl (fun (cs : Array Value) (x : Value × Nat) => cs.setIfInBounds (off + x.2) x.1) vs := by
          rw [← Array.foldl_toList]; simp [Array.toList_zipIdx]
        have hstep : Instr.fill place vs ((i, u) :: qs) = Instr.fill place ((u.cells.toList.zipIdx 0).foldl (fun (cs : Array Value) (x : Value × Nat) => cs.setIfInBounds (off + x.2) x.1) vs) qs := by
          simp only [Instr.fill, e4]
          rw [if_neg (by rw [c1, hl]; simp; omega), hz]
        rw [hstep]
        have hsp := e5
        refine ih (by rw [size, splice_len hsp]; exact hl) ?_ (by simpa using hlen) (fun k p q hp' hq' => ?_) hf
        · intro j c x hj hx
          rw [splice_get hsp] at hj
          rw [get] at hx
          have hjl : j < vs.size := by
            rcases Nat.lt_or_ge j vs.size with h | h
            · exact h
            · rw [if_neg (by omega), Array.getElem?_eq_none h] at hx; cases hx
          simp only [Nat.add_zero, Array.length_toList] at hx
          by_cases hr : off ≤ j ∧ j < off + (cells v).length
          · rw [if_pos hr] at hj
            rw [if_pos ⟨hr.1, by rw [c1]; exact hr.2, hjl⟩] at hx
            exact c2 (j - off) c x hj (by simpa using hx)
          · rw [if_neg hr] at hj
            rw [if_neg (by rw [c1]; omega)] at hx
            exact hv j c x hj hx
        · obtain ⟨a1, a2, a3, off2, a4, a5⟩ := hpq (k + 1) p q (by simpa using hp') (by simpa using hq')
          exact ⟨a1, a2, a3, off2, a4, by rw [splice_len hsp]; exact a5⟩

end
end Go.Ev
