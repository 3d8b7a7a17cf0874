/- Maps. -/
import Derived.Test.YtbhjocgepgpnmaaEvOp13
import Derived.WideKeyRuns
import Derived.RangeFuncOwn
set_option linter.unusedVariables false
set_option linter.unusedSimpArgs false
namespace Go.Ev
variable {P : Program} {T : Tab} {Z : Base} {S : Nat → Prop} {h : AHeap} {ρ : Rho} {w : World} {K : AV → Ups → Nat → Prop} {N : Value → World → Prop} {nx : Nat} {Q : AV → Prop}

theorem kIx_inj {a b : IntKind} (h : Nat.beq (kIx a) (kIx b) = true) : a = b := by cases a <;> cases b <;> first | rfl | (simp [kIx] at h)

theorem keyCells_eq : ∀ {ks : List TK} {cs ds : List AV} {Q : Bool → Prop}, keyCells ks cs = true → keyCells ks ds = true → Q (eqKeys cs ds) → eqCells ks cs ds Q
  | [], [], [], Q, _, _, q => q
  | .int q :: ks, .int k a :: cs, .int k' b :: ds, Q, h1, h2, hq => by
    simp only [keyCells, Bool.and_eq_true] at h1 h2
    have e1 := kIx_inj h1.1
    have e2 := kIx_inj h2.1
    subst e1 e2
    simp only [eqCells, beq_self]
    exact keyCells_eq (Q := fun r => Q ((a == b) && r)) h1.2 h2.2 hq

/-- What a key is. -/
theorem key_cases (hT : TabOk P T) {t : Nat} {x : AV} {u : Value} (hx : keyOk T t x = true) (vx : VF T S w x u) :
    (∃ q a, (T t).k = .int q ∧ x = .int q a ∧ u = .int q a) ∨ ∃ fs cs us, (T t).k = .struct fs ∧ x = .agg cs ∧ u = .agg us ∧ flatEq T t = true ∧ keyCells (kindsOf T t) cs = true ∧ us.size = cs.length ∧
      ∀ (j : Nat) (c : AV) (v : Value), cs[j]? = some c → us[j]? = some v → VF T S w c v := by
  unfold keyOk at hx
  cases hk : (T t).k with
  | int q =>
    cases x with
    | int q' a =>
      rw [hk] at hx
      have := kIx_inj hx; subst this
      cases vx
      exact .inl ⟨q, a, rfl, rfl, rfl⟩
    | _ => rw [hk] at hx; simp at hx
  | struct fs =>
    cases x with
    | agg cs =>
      rw [hk] at hx
      simp only [Bool.and_eq_true] at hx
      cases vx with
      | agg _ us hl h1 hv => exact .inr ⟨fs, cs, us, rfl, rfl, rfl, hx.1, hx.2, hl, hv⟩
    | _ => rw [hk] at hx; simp at hx
  | _ => rw [hk] at hx; simp at hx

theorem key_equal (hT : TabOk P T) {t : Nat} {x y : AV} {u v : Value} (hx : keyOk T t x = true) (hy : keyOk T t y = true) (vx : VF T S w x u) (vy : VF T S w y v) :
    (Op.equal t u v).run P w = .ok (eqKey x y) w := by
  rcases key_cases hT hx vx with ⟨q, a, hk, rfl, rfl⟩ | ⟨fs, cs, us, hk, rfl, rfl, hf, kc, hl, hv⟩
  · rcases key_cases hT hy vy with ⟨q', b, hk', rfl, rfl⟩ | ⟨fs, cs, us, hk', _⟩
    · rw [hk] at hk'; cases hk'
      exact run_equalIn_int w 9999 t q q a b (hT.int hk)
    · rw [hk] at hk'; cases hk'
  · rcases key_cases hT hy vy with ⟨q', b, hk', _⟩ | ⟨fs', ds, vs, hk', rfl, rfl, _, kd, hl', hv'⟩
    · rw [hk] at hk'; cases hk'
    · rw [hk] at hk'; cases hk'
      have hq := keyCells_eq (Q := fun r => r = eqKeys cs ds) kc kd rfl
      have hf' := hf
      unfold flatEq at hf'
      unfold kindsOf at hq
      rw [hk] at hf' hq
      obtain ⟨gs, h1, h2, h3, h4, h5, h6⟩ := hT.struct hk
      simp only [Bool.and_eq_true] at hf'
      have rd : ∀ {cs : List AV} {xs : Array Value}, xs.size = cs.length → (∀ (j : Nat) (c : AV) (u : Value), cs[j]? = some c → xs[j]? = some u → VF T S w c u) → ∀ (j : Nat) (c : AV), cs[j]? = some c → ∃ u, xs[0 + j]? = some u ∧ VLc T S w (fun _ => .none) (fun _ => .no) c u := by
        intro cs xs hl hc j c hj
        have hlt := (List.getElem?_eq_some_iff.1 hj).1
        have : xs[j]? = some xs[j] := Array.getElem?_eq_getElem (by omega)
        exact ⟨xs[j], by simp, vf_vlc (hc j c _ hj this)⟩
      obtain ⟨r, r1, r2⟩ := eqFields_ok (xs := us) (ys := vs) hT 9998 h2 h5 (i := 0) hf'.1 (rd hl hv) (rd hl' hv') hq
      show (Op.equalIn 10000 t (.agg us) (.agg vs)).run P w = _
      rw [run_equalIn_struct w 9999 t us vs (fieldsOf_eq h1).1 h4, (fieldsOf_eq h1).2, r2, r1]
      rfl

theorem key_stays (hT : TabOk P T) {t : Nat} {x y : AV} {u v : Value} (hx : keyOk T t x = true) (hy : keyOk T t y = true) (vx : VF T S w x u) (vy : VF T S w y v) (he : eqKey x y = true) :
    (Instr.keyThatStays v u).run P w = .ok u w := by
  have : Instr.sameBits 10000 v u = true := by
    rcases key_cases hT hx vx with ⟨q, a, hk, rfl, rfl⟩ | ⟨fs, cs, us, hk, rfl, rfl, hf, kc, hl, hv⟩
    · rcases key_cases hT hy vy with ⟨q', b, hk', rfl, rfl⟩ | ⟨fs, cs, us, hk', _⟩
      · rw [hk] at hk'; cases hk'
        simp only [eqKey, beq_iff_eq] at he
        subst he
        simp [Instr.sameBits]
      · rw [hk] at hk'; cases hk'
    · rcases key_cases hT hy vy with ⟨q', b, hk', _⟩ | ⟨fs', ds, vs, hk', rfl, rfl, _, kd, hl', hv'⟩
      · rw [hk] at hk'; cases hk'
      · rw [hk] at hk'; cases hk'
        have key : ∀ (ks : List TK) (cs ds : List AV) (us vs : List Value), keyCells ks cs = true → keyCells ks ds = true → eqKeys cs ds = true → us.length = cs.length → vs.length = ds.length →
            (∀ (j : Nat) (c : AV) (v : Value), cs[j]? = some c → us[j]? = some v → VF T S w c v) → (∀ (j : Nat) (c : AV) (v : Value), ds[j]? = some c → vs[j]? = some v → VF T S w c v) →
            vs.length = us.length ∧ ((vs.zip us).all fun (x, y) => Instr.sameBits 9999 x y) = true := by
          intro ks
          induction ks with
          | nil =>
            intro cs ds us vs k1 k2 _ l1 l2 _ _
            cases cs <;> cases ds <;> simp [keyCells] at k1 k2
            simp at l1 l2; subst l1 l2; simp
          | cons q ks ih =>
            intro cs ds us vs k1 k2 he l1 l2 v1 v2
            cases q with
            | int q =>
              cases cs with
              | nil => simp [keyCells] at k1
              | cons c cs =>
                cases ds with
                | nil => simp [keyCells] at k2
                | cons d ds =>
                  cases c with
                  | int k a =>
                    cases d with
                    | int k' b =>
                      simp only [keyCells, Bool.and_eq_true] at k1 k2
                      have e1 := kIx_inj k1.1
                      have e2 := kIx_inj k2.1
                      subst e1 e2
                      cases us with
                      | nil => simp at l1
                      | cons u us =>
                        cases vs with
                        | nil => simp at l2
                        | cons v vs =>
                          simp only [eqKeys, Bool.and_eq_true, beq_iff_eq] at he
                          obtain ⟨rfl, he⟩ := he
                          have f1 := v1 0 _ u rfl rfl
                          have f2 := v2 0 _ v rfl rfl
                          cases f1; cases f2
                          obtain ⟨i1, i2⟩ := ih cs ds us vs k1.2 k2.2 he (by simpa using l1) (by simpa using l2) (fun j c v a b => v1 (j + 1) c v a b) (fun j c v a b => v2 (j + 1) c v a b)
                          refine ⟨by simp [i1], ?_⟩
                          simp only [List.zip_cons_cons, List.all_cons, i2, Bool.and_true]
                          simp [Instr.sameBits]
                    | _ => simp [keyCells] at k2
                  | _ => simp [keyCells] at k1
            | _ => simp [keyCells] at k1
        obtain ⟨k1, k2⟩ := key _ cs ds us.toList vs.toList kc kd he (by simpa using hl) (by simpa using hl') (fun j c v a b => hv j c v a (by simpa using b)) (fun j c v a b => hv' j c v a (by simpa using b))
        simp only [Array.length_toList] at k1
        show (vs.size == us.size && ((vs.toList.zip us.toList).all fun (x, y) => Instr.sameBits 9999 x y)) = true
        rw [k2, k1]; simp
  unfold Instr.keyThatStays
  rw [this]; rfl

theorem key_check (hT : TabOk P T) {t : Nat} {x : AV} {u : Value} (hx : keyOk T t x = true) (vx : VF T S w x u) (em : Bool) : (Instr.checkKey em 10000 t u).run P w = .ok () w := by
  rcases key_cases hT hx vx with ⟨q, a, hk, rfl, rfl⟩ | ⟨fs, cs, us, hk, rfl, rfl, hf, kc, hl, hv⟩
  · rw [show (10000 : Nat) = 9999 + 1 from rfl, Instr.checkKey]
    simp [run_underlying (hT.int hk)]
  · obtain ⟨gs, h1, h2, h3, h4, h5, h6⟩ := hT.struct hk
    unfold flatEq at hf
    unfold kindsOf at kc
    rw [hk] at hf kc
    simp only [Bool.and_eq_true] at hf
    have hf := hf.1
    rw [show (10000 : Nat) = 9999 + 1 from rfl, Instr.checkKey]
    simp only [Sem.run_bind, run_underlying h1, Result.andThen_ok]
    rw [← Array.forIn_toList]
    have key : ∀ (fs : List (Nat × Nat)) (gl : List Field) (cs : List AV) (i : Nat), fieldsOk fs gl = true → ((fs.zipIdx i).all fun p => Nat.beq p.1.1 p.2) = true → keyCells (fs.map fun f => (T f.2).k) cs = true →
        (∀ (j : Nat) (c : AV), cs[j]? = some c → ∃ u, us[i + j]? = some u ∧ VF T S w c u) → ∀ (body : Field → PUnit → Sem (ForInStep PUnit)), (∀ g (q : IntKind) (u : Value), P.underlying g.type = some (.int q) → us[g.offset]? = some u → (part g.type us g.offset).run P w = .ok u w → (body g ⟨⟩).run P w = .ok (.yield ⟨⟩) w) →
        (forIn gl PUnit.unit body).run P w = .ok ⟨⟩ w := by
      intro fs
      induction fs with
      | nil => intro gl cs i a _ _ _ body _; cases gl with | nil => simp | cons g gl => simp [fieldsOk] at a
      | cons f fs ih =>
        intro gl cs i a b c d body hb
        cases gl with
        | nil => simp
        | cons g gl =>
          simp only [fieldsOk, Bool.and_eq_true] at a
          obtain ⟨⟨a1, a2⟩, a3⟩ := a
          have a1 := Nat.eq_of_beq_eq_true a1
          have a2 := Nat.eq_of_beq_eq_true a2
          simp only [List.zipIdx_cons, List.all_cons, Bool.and_eq_true] at b
          have b1 := Nat.eq_of_beq_eq_true b.1
          cases hq : (T f.2).k with
          | int q =>
            rw [List.map_cons, hq] at c
            cases cs with
            | nil => simp [keyCells] at c
            | cons c0 cs =>
              cases c0 with
              | int k n =>
                simp only [keyCells, Bool.and_eq_true] at c
                obtain ⟨u, u1, u2⟩ := d 0 _ rfl
                have hu := hT.int hq
                have hoff : us[g.offset]? = some u := by rw [← a1, b1]; exact u1
                have hp : (part g.type us g.offset).run P w = .ok u w := by rw [← a2]; exact part_scalar hT (by rw [hq]; rfl) (by simp [TI.agg, hq]) hoff
                simp only [List.forIn_cons, Sem.run_bind, hb g q u (by rw [← a2]; exact hu) hoff hp, Result.andThen_ok]
                exact ih gl cs (i + 1) a3 b.2 c.2 (fun j c hj => by obtain ⟨u, e1, e2⟩ := d (j + 1) c hj; exact ⟨u, by rw [← e1]; congr 1; omega, e2⟩) body hb
              | _ => simp [keyCells] at c
          | _ => rw [List.map_cons, hq] at c; cases cs <;> simp [keyCells] at c
    refine Eq.trans (congrArg (fun r => Result.andThen r _) (key fs gs.toList cs 0 h2 hf kc (fun j c hj => ?_) _ (fun g q u e1 e2 e3 => ?_))) rfl
    · have hlt := (List.getElem?_eq_some_iff.1 hj).1
      have : us[j]? = some us[j] := Array.getElem?_eq_getElem (by omega)
      exact ⟨us[j], by simp, hv j c _ hj this⟩
    · by_cases hn : g.name = "_"
      · simp [hn]
      · simp only [hn, ne_eq, not_false_eq_true, if_true, Sem.run_bind, e3, Result.andThen_ok]
        rw [show (9999 : Nat) = 9998 + 1 from rfl, Instr.checkKey]
        simp [run_underlying e1]

/-- The first entry of a key. -/
def mix : List (AV × AV) → AV → List MapEntry → Nat → Option (Nat × Value)
  | (k, _) :: es, x, r :: rs, i => bif eqKey x k then some (i, r.val) else mix es x rs (i + 1)
  | _, _, _, _ => none

theorem key_find (hT : TabOk P T) {t : Nat} {x : AV} {u : Value} (hx : keyOk T t x = true) (vx : VF T S w x u) {es : List (AV × AV)} {rs : List MapEntry} (hm : MapRel T S w es rs) (ho : ∀ p ∈ es, keyOk T t p.1 = true) :
    (Instr.findKey t u rs).run P w = .ok (mix es x rs 0) w := by
  have ask : ∀ (es : List (AV × AV)) (rs : List MapEntry) (i : Nat), MapRel T S w es rs → (∀ p ∈ es, keyOk T t p.1 = true) → (Instr.findAsking t u rs i).run P w = .ok (mix es x rs i) w := by
    intro es
    induction es with
    | nil => intro rs i hm _; cases rs with | nil => rfl | cons r rs => exact hm.elim
    | cons e es ih =>
      intro rs i hm ho
      obtain ⟨k, v⟩ := e
      cases rs with
      | nil => exact hm.elim
      | cons r rs =>
        obtain ⟨m1, m2, m3⟩ := hm
        have he := key_equal hT hx (ho (k, v) (by simp)) vx m1
        unfold Instr.findAsking mix
        simp only [Sem.run_bind, he, Result.andThen_ok]
        cases eqKey x k with
        | true => rfl
        | false => exact ih rs (i + 1) m3 (fun p hp => ho p (by simp [hp]))
  rcases key_cases hT hx vx with ⟨q, a, hk, rfl, rfl⟩ | ⟨fs, cs, us, hk, rfl, rfl, hf, kc, hl, hv⟩
  · have hu := hT.int hk
    have now : ∀ (es : List (AV × AV)) (rs : List MapEntry) (i : Nat), MapRel T S w es rs → (∀ p ∈ es, keyOk T t p.1 = true) → Instr.findNow (.int q) (.int q a) rs i = some (mix es (.int q a) rs i) := by
      intro es
      induction es with
      | nil => intro rs i hm _; cases rs with | nil => rfl | cons r rs => exact hm.elim
      | cons e es ih =>
        intro rs i hm ho
        obtain ⟨k, v⟩ := e
        cases rs with
        | nil => exact hm.elim
        | cons r rs =>
          obtain ⟨m1, m2, m3⟩ := hm
          rcases key_cases hT (ho (k, v) (by simp)) m1 with ⟨q', b, hk', e1, e2⟩ | ⟨fs, cs, us, hk', _⟩
          · rw [hk] at hk'; cases hk'
            simp only at e1
            subst e1
            unfold Instr.findNow mix
            rw [e2]
            simp only [Instr.sameNow, if_true, eqKey]
            cases a == b with
            | true => rfl
            | false => exact ih rs (i + 1) m3 (fun p hp => ho p (by simp [hp]))
          · rw [hk] at hk'; cases hk'
    unfold Instr.findKey
    simp only [Sem.run_bind, run_underlying hu, Result.andThen_ok, now es rs 0 hm ho]
    rfl
  · obtain ⟨gs, h1, _⟩ := hT.struct hk
    rw [run_findKey_eq w (by rw [h1]) (.agg us) rs]
    exact ask es rs 0 hm ho

theorem mix_get : ∀ {es : List (AV × AV)} {x : AV} {rs : List MapEntry} {i : Nat}, MapRel T S w es rs →
    (mix es x rs i = none ∧ mget es x = none) ∨ ∃ j v r, mix es x rs i = some (j, r) ∧ mget es x = some v ∧ VF T S w v r
  | [], x, rs, i, h => by cases rs with | nil => exact .inl ⟨rfl, rfl⟩ | cons r rs => exact h.elim
  | (k, v) :: es, x, [], i, h => h.elim
  | (k, v) :: es, x, r :: rs, i, ⟨h1, h2, h3⟩ => by
    unfold mix mget
    cases eqKey x k with
    | true => exact .inr ⟨i, v, r.val, rfl, rfl, h2⟩
    | false => exact mix_get h3

theorem vl_mp {b : Nat} {u : Value} (a : VLt T S w h ρ (.mp b) u) : VLc T S w h ρ (.mp b) u := a

theorem mapZero (hT : TabOk P T) {e : Nat} (hz : zOk (T e).k = true) : ∃ z, (zeroValue e).run P w = .ok z w ∧ VF T S w (T e).zero z := by
  have hk : kOk (T e).k = true := by cases hq : (T e).k <;> simp [zOk, kOk, hq] at hz ⊢
  obtain ⟨z, h1, h2, h3⟩ := hT.zeroValue w hk
  refine ⟨z, h1, ?_⟩
  cases hq : (T e).k with
  | struct fs =>
    rw [hq] at h3
    cases hu : P.underlying e with
    | none => rw [hu] at h3; simp [kindOk] at h3
    | some d =>
      rw [hu] at h3
      cases d with
      | struct gs =>
        simp only [kindOk, Bool.and_eq_true] at h3
        exact zeroV_vf h3.1.1.2
      | _ => simp [kindOk] at h3
  | other => rw [hq] at hz; simp [zOk] at hz
  | arr n e' => rw [hq] at hz; simp [zOk] at hz
  | func => rw [hq] at hz; simp [zOk] at hz
  | _ =>
    all_goals
      rw [hq] at h3
      cases hu : P.underlying e with
      | none => rw [hu] at h3; simp [kindOk] at h3
      | some d =>
        rw [hu] at h3
        cases d <;> first
          | (simp [kindOk] at h3; done)
          | (simp only [kindOk, Bool.and_eq_true] at h3
             exact (zeroC_vf h3.2).1)

theorem lookupV_ok (hT : TabOk P T) (H : HR T Z S h ρ w) {t : Nat} {m k : AV} {um uk : Value} {ok : Bool} (hm : VLt T S w h ρ m um) (hk : VLt T S w h ρ k uk) (hr : lookupV T t m k ok h Q) :
    ∃ v r, Q v ∧ (Instr.lookup t um uk ok).run P w = .ok r w ∧ VLt T S w h ρ v r := by
  unfold lookupV at hr
  cases ht : (T t).k with
  | map kt e =>
    rw [ht] at hr
    simp only at hr
    cases hko : keyOk T kt k with
    | false => rw [hko] at hr; simp at hr; exact hr.p.elim
    | true =>
    cases hz : zOk (T e).k with
    | false => rw [hko, hz] at hr; simp at hr; exact hr.p.elim
    | true =>
    rw [hko, hz] at hr
    simp only [Bool.and_self] at hr
    have vk : VF T S w k uk := by
      unfold keyOk at hko
      cases k with
      | int q a => exact hk
      | agg cs =>
        obtain ⟨us, rfl, hl, hc⟩ := (show VLv T S w h ρ (.agg cs) uk from hk)
        cases hkk : (T kt).k with
        | struct fs =>
          rw [hkk] at hko
          simp only [Bool.and_eq_true] at hko
          have ints : ∀ (ks : List TK) (cs : List AV), keyCells ks cs = true → ∀ c ∈ cs, isFz c = true := by
            intro ks
            induction ks with
            | nil => intro cs h c hc; cases cs <;> simp [keyCells] at h; simp at hc
            | cons q ks ih =>
              intro cs h c hc
              cases q <;> cases cs <;> (try (simp [keyCells] at h; done))
              rename_i q c0 cs
              cases c0 <;> simp [keyCells] at h
              rcases List.mem_cons.1 hc with rfl | hc
              · rfl
              · exact ih _ h.2 c hc
          have := ints _ _ hko.2
          refine .agg cs us hl (fun j c u a b => (hc j c u a b).2) (fun j c u a b => isFz_vf (this c (List.mem_of_getElem? a)) (hc j c u a b).1)
        | _ => rw [hkk] at hko; simp at hko
      | _ => cases hkk : (T kt).k <;> rw [hkk] at hko <;> simp at hko
    obtain ⟨z, z1, z2⟩ := mapZero (S := S) (w := w) hT hz
    have hu := (hT.map ht).1
    cases m with
    | mp b =>
      have hm' : VLc T S w h ρ (.mp b) um := hm
      simp only [VLc] at hm'
      cases hb : h b with
      | map kt' es =>
        simp only [hb] at hr hm'
        simp only [vw] at hm'
        obtain ⟨r, r1, rfl⟩ := hm'
        cases hkt : Nat.beq kt kt' with
        | false => rw [hkt] at hr; exact hr.p.elim
        | true =>
        rw [hkt] at hr
        have := Nat.eq_of_beq_eq_true hkt; subst this
        obtain ⟨r2, q1, rs, clock, q2, q3, q4⟩ := H.map hb
        rw [r1] at q1; cases q1
        have hr := hr.p
        have hf := key_find hT hko vk q3 q4
        have hc := key_check hT hko vk rs.isEmpty
        have look : ∀ (v : Value) (b : Bool), (match mix es k rs.toList 0 with | some (_, v) => pure (v, true) | none => (do pure (← zeroValue e, false)) : Sem (Value × Bool)).run P w = .ok (v, b) w → (Instr.lookup t (.map (some r)) uk ok).run P w = .ok (if ok then .tuple #[v, .bool b] else v) w := by
          intro v b hv
          unfold Instr.lookup
          simp only [Sem.run_bind, run_underlying hu, Result.andThen_ok, show (getObj r).run P w = .ok (.map rs clock) w from by simp [getObj, Sem.run, q2], hc, hf, Sem.run_pure]
          cases hx : mix es k rs.toList 0 with
          | none =>
            rw [hx] at hv
            simp only [Sem.run_bind, z1, Result.andThen_ok, Sem.run_pure] at hv ⊢
            cases hv; rfl
          | some p =>
            rw [hx] at hv
            obtain ⟨j, v'⟩ := p
            simp only [Sem.run_pure, Result.andThen_ok] at hv ⊢
            cases hv; rfl
        have two : ∀ (a : AV) (v : Value) (b : Bool), VF T S w a v → VLt T S w h ρ (.tup [a, .bool b]) (.tuple #[v, .bool b]) := by
          intro a v b hv
          refine ⟨#[v, .bool b], rfl, rfl, fun j c u h1 h2 => ?_⟩
          match j, h1, h2 with
          | 0, h1, h2 => simp at h1 h2; subst h1 h2; exact vf_vlv hv
          | 1, h1, h2 => simp at h1 h2; subst h1 h2; exact vf_vlv (.bool b)
          | j + 2, h1, h2 => simp at h1
        rcases mix_get (x := k) (i := 0) q3 with ⟨e1, e2⟩ | ⟨j, v, u, e1, e2, e3⟩
        · rw [e2] at hr
          have lk := look z false (by rw [e1]; simp only [Sem.run_bind, z1, Result.andThen_ok, Sem.run_pure])
          cases ok with
          | true => exact ⟨_, _, hr, lk, two _ _ _ z2⟩
          | false => exact ⟨_, _, hr, lk, vf_vlt z2⟩
        · rw [e2] at hr
          have lk := look u true (by rw [e1]; rfl)
          cases ok with
          | true => exact ⟨_, _, hr, lk, two _ _ _ e3⟩
          | false => exact ⟨_, _, hr, lk, vf_vlt e3⟩
      | _ => simp only [hb] at hr; exact hr.p.elim
    | nmp =>
      obtain rfl := vl_nmp hm
      have hc := key_check hT hko vk true
      have hf := key_find hT hko vk (es := []) (rs := []) trivial (by simp)
      have two : ∀ (a : AV) (v : Value) (b : Bool), VF T S w a v → VLt T S w h ρ (.tup [a, .bool b]) (.tuple #[v, .bool b]) := by
        intro a v b hv
        refine ⟨#[v, .bool b], rfl, rfl, fun j c u h1 h2 => ?_⟩
        match j, h1, h2 with
        | 0, h1, h2 => simp at h1 h2; subst h1 h2; exact vf_vlv hv
        | 1, h1, h2 => simp at h1 h2; subst h1 h2; exact vf_vlv (.bool b)
        | j + 2, h1, h2 => simp at h1
      have lk : (Instr.lookup t (.map none) uk ok).run P w = .ok (if ok then .tuple #[z, .bool false] else z) w := by
        unfold Instr.lookup
        simp only [Sem.run_bind, run_underlying hu, Result.andThen_ok, Sem.run_pure]
        rw [show (Instr.checkKey (#[] : Array MapEntry).isEmpty 10000 kt uk).run P w = .ok () w from hc]
        simp only [Result.andThen_ok]
        rw [show (Instr.findKey kt uk (#[] : Array MapEntry).toList).run P w = .ok none w from hf]
        simp only [Result.andThen_ok, Sem.run_bind, z1, Sem.run_pure]
      cases ok with
      | true => exact ⟨_, _, hr, lk, two _ _ _ z2⟩
      | false => exact ⟨_, _, hr, lk, vf_vlt z2⟩
    | _ => exact hr.p.elim
  | _ => rw [ht] at hr; exact hr.p.elim

theorem mem_mset {es : List (AV × AV)} {x v : AV} : ∀ p ∈ mset es x v, p ∈ es ∨ p.1 = x := by
  induction es with
  | nil => intro p hp; simp [mset] at hp; subst hp; exact .inr rfl
  | cons e es ih =>
    obtain ⟨k, u⟩ := e
    intro p hp
    unfold mset at hp
    cases he : eqKey x k with
    | true =>
      rw [he] at hp
      rcases List.mem_cons.1 hp with rfl | hp
      · exact .inr rfl
      · exact .inl (by simp [hp])
    | false =>
      rw [he] at hp
      rcases List.mem_cons.1 hp with rfl | hp
      · exact .inl (by simp)
      · rcases ih p hp with h | h
        · exact .inl (by simp [h])
        · exact .inr h
theorem mem_mdel {es : List (AV × AV)} {x : AV} : ∀ p ∈ mdel es x, p ∈ es := by
  induction es with
  | nil => intro p hp; simp [mdel] at hp
  | cons e es ih =>
    obtain ⟨k, u⟩ := e
    intro p hp
    unfold mdel at hp
    cases he : eqKey x k with
    | true => rw [he] at hp; exact List.mem_cons_of_mem _ hp
    | false =>
      rw [he] at hp
      rcases List.mem_cons.1 hp with rfl | hp
      · simp
      · exact List.mem_cons_of_mem _ (ih p hp)

theorem mix_set {x v : AV} : ∀ {es : List (AV × AV)} {rs : List MapEntry} {i : Nat}, MapRel T S w es rs →
    (mix es x rs i = none ∧ ∀ r' : MapEntry, VF T S w x r'.key → VF T S w v r'.val → MapRel T S w (mset es x v) (rs ++ [r'])) ∨
    ∃ j u e kk, mix es x rs i = some (i + j, u) ∧ rs[j]? = some e ∧ (∃ q, (kk, q) ∈ es) ∧ VF T S w kk e.key ∧ eqKey x kk = true ∧
      ∀ f : MapEntry → MapEntry, VF T S w x (f e).key → VF T S w v (f e).val → MapRel T S w (mset es x v) (rs.modify j f)
  | [], rs, i, h => by cases rs with | nil => exact .inl ⟨rfl, fun r' h1 h2 => ⟨h1, h2, trivial⟩⟩ | cons r rs => exact h.elim
  | (k, u) :: es, [], i, h => h.elim
  | (k, u) :: es, r :: rs, i, ⟨h1, h2, h3⟩ => by
    unfold mix mset
    cases he : eqKey x k with
    | true =>
      refine .inr ⟨0, r.val, r, k, rfl, rfl, ⟨u, by simp⟩, h1, he, fun f f1 f2 => ?_⟩
      exact ⟨f1, f2, h3⟩
    | false =>
      rcases mix_set (i := i + 1) h3 with ⟨a, b⟩ | ⟨j, u', e, kk, a, b, ⟨q, c⟩, d1, d2, d3⟩
      · exact .inl ⟨a, fun r' r1 r2 => ⟨h1, h2, b r' r1 r2⟩⟩
      · refine .inr ⟨j + 1, u', e, kk, by rw [show i + (j + 1) = i + 1 + j by omega]; exact a, b, ⟨q, by simp [c]⟩, d1, d2, fun f f1 f2 => ?_⟩
        exact ⟨h1, h2, d3 f f1 f2⟩
theorem mix_del {x : AV} : ∀ {es : List (AV × AV)} {rs : List MapEntry} {i : Nat}, MapRel T S w es rs →
    (mix es x rs i = none ∧ MapRel T S w (mdel es x) rs) ∨
    ∃ j u, mix es x rs i = some (i + j, u) ∧ j < rs.length ∧ MapRel T S w (mdel es x) (rs.eraseIdx j)
  | [], rs, i, h => by cases rs with | nil => exact .inl ⟨rfl, trivial⟩ | cons r rs => exact h.elim
  | (k, u) :: es, [], i, h => h.elim
  | (k, u) :: es, r :: rs, i, ⟨h1, h2, h3⟩ => by
    unfold mix mdel
    cases he : eqKey x k with
    | true => exact .inr ⟨0, r.val, rfl, by simp, h3⟩
    | false =>
      rcases mix_del (i := i + 1) h3 with ⟨a, b⟩ | ⟨j, u', a, b, c⟩
      · exact .inl ⟨a, h1, h2, b⟩
      · exact .inr ⟨j + 1, u', by rw [show i + (j + 1) = i + 1 + j by omega]; exact a, by simp [b], h1, h2, c⟩

/-- A map's entries turn. -/
theorem HR.setMap (H : HR T Z S h ρ w) {b kt r : Nat} {es es' : List (AV × AV)} {rs rs' : Array MapEntry} {clock clock' : Nat} (hb : h b = .map kt es) (hr : ρ b = .map r) (hw : w.heap[r]? = some (.map rs clock))
    (hm : MapRel T S w es' rs'.toList) (ho : ∀ p ∈ es', keyOk T kt p.1 = true) :
    HR T Z S (hset h b (.map kt es')) ρ { w with heap := w.heap.setIfInBounds r (.map rs' clock') } ∧ Goes T S w h ρ S { w with heap := w.heap.setIfInBounds r (.map rs' clock') } (hset h b (.map kt es')) ρ := by
  have hlt := (Array.getElem?_eq_some_iff.1 hw).1
  refine H.upd (fun c => c = b) (r := some r) (grownBy_putObj' w r (.map rs' clock')) (fun k hk => ⟨b, rfl, by rw [hb]; rfl, by rw [hr]; cases hk; simp [realL]⟩) (fun c hc => ⟨hset_ne _ _ hc, rfl⟩)
    (fun c hc => ?_) (fun _ h => h) (fun _ h => .inl h) (fun go c hc => ?_) (fun c k hc hl' hk => ?_) (fun c d k hc hd' hne => absurd (hc.trans hd'.symm) hne)
  · subst hc; exact BSt.same ⟨by rw [hset_same, hb]; rfl, rfl⟩
  · subst hc
    unfold HB
    rw [hset_same]
    refine ⟨r, hr, rs', clock', ?_, hm.mono fun c v hv => hv.mono go.s go.w, ho⟩
    simp [hlt]
  · subst hc
    exact ⟨.inr ⟨c, rfl, by rw [hb]; rfl, hk⟩, (H.own c k (by rw [hb]; rfl) hk).2.1⟩

theorem key_vf {kt : Nat} {k : AV} {uk : Value} (hko : keyOk T kt k = true) (hk : VLt T S w h ρ k uk) : VF T S w k uk := by
  unfold keyOk at hko
  cases k with
  | int q a => exact hk
  | agg cs =>
    obtain ⟨us, rfl, hl, hc⟩ := (show VLv T S w h ρ (.agg cs) uk from hk)
    cases hkk : (T kt).k with
    | struct fs =>
      rw [hkk] at hko
      simp only [Bool.and_eq_true] at hko
      have ints : ∀ (ks : List TK) (cs : List AV), keyCells ks cs = true → ∀ c ∈ cs, isFz c = true := by
        intro ks
        induction ks with
        | nil => intro cs h c hc; cases cs <;> simp [keyCells] at h; simp at hc
        | cons q ks ih =>
          intro cs h c hc
          cases q <;> cases cs <;> (try (simp [keyCells] at h; done))
          rename_i q c0 cs
          cases c0 <;> simp [keyCells] at h
          rcases List.mem_cons.1 hc with rfl | hc
          · rfl
          · exact ih _ h.2 c hc
      have := ints _ _ hko.2
      refine .agg cs us hl (fun j c u a b => (hc j c u a b).2) (fun j c u a b => isFz_vf (this c (List.mem_of_getElem? a)) (hc j c u a b).1)
    | _ => rw [hkk] at hko; simp at hko
  | _ => cases hkk : (T kt).k <;> rw [hkk] at hko <;> simp at hko

theorem updV_ok (hT : TabOk P T) (H : HR T Z S h ρ w) (hn : Nexts T Z S w h ρ K N) {t : Nat} {m k v : AV} {um uk uv : Value} (hm : VLt T S w h ρ m um) (hk : VLt T S w h ρ k uk) (hv : VLt T S w h ρ v uv)
    (hr : updV T t m k v h nx K) : ∃ w', (Instr.mapUpdate t um uk uv).run P w = .ok () w' ∧ N undef w' := by
  unfold updV at hr
  cases ht : (T t).k with
  | map kt e =>
    rw [ht] at hr
    simp only at hr
    cases hko : keyOk T kt k with
    | false => rw [hko] at hr; exact hr.p.elim
    | true =>
    rw [hko] at hr
    have vk := key_vf hko hk
    have hu := (hT.map ht).1
    cases m with
    | mp b =>
      have hm' : VLc T S w h ρ (.mp b) um := hm
      simp only [VLc] at hm'
      cases hb : h b with
      | map kt' es =>
        simp only [hb] at hr hm'
        simp only [vw] at hm'
        obtain ⟨r, r1, rfl⟩ := hm'
        cases hkt : Nat.beq kt kt' with
        | false => rw [hkt] at hr; exact hr.p.elim
        | true =>
        rw [hkt] at hr
        have := Nat.eq_of_beq_eq_true hkt; subst this
        obtain ⟨r2, q1, rs, clock, q2, q3, q4⟩ := H.map hb
        rw [r1] at q1; cases q1
        have main : VF T S w v uv → K .und [(b, .map kt (mset es k v))] nx → ∃ w', (Instr.mapUpdate t (.map (some r)) uk uv).run P w = .ok () w' ∧ N undef w' := by
          intro vv hK
          have ho : ∀ p ∈ mset es k v, keyOk T kt p.1 = true := fun p hp => by
            rcases mem_mset p hp with h | h
            · exact q4 p h
            · rw [h]; exact hko
          have hf := key_find hT hko vk q3 q4
          have hc := key_check hT hko vk false
          have go : ∀ (rs' : Array MapEntry) (clock' : Nat), MapRel T S w (mset es k v) rs'.toList → N undef { w with heap := w.heap.setIfInBounds r (.map rs' clock') } := by
            intro rs' clock' hm2
            obtain ⟨H2, G2⟩ := H.setMap (clock' := clock') hb r1 q2 hm2 ho
            exact hn _ _ _ undef _ S ρ hK H2 G2 (VF.und _)
          rcases mix_set (v := v) (x := k) (i := 0) q3 with ⟨e1, e2⟩ | ⟨j, u, e, kk, e1, e2, ⟨q, e3⟩, e4, e5, e6⟩
          · refine ⟨_, ?_, go (rs.push { key := uk, val := uv, born := clock }) (clock + 1) (by rw [Array.toList_push]; exact e2 _ vk vv)⟩
            unfold Instr.mapUpdate
            simp only [Sem.run_bind, run_underlying hu, Result.andThen_ok, show (getObj r).run P w = .ok (.map rs clock) w from by simp [getObj, Sem.run, q2], hc, hf, e1]
            simp [setObj, Sem.run, q2]
          · rw [Nat.zero_add] at e1
            have hst := key_stays hT hko (q4 _ e3) vk e4 e5
            refine ⟨_, ?_, go (rs.modify j fun e => { e with key := uk, val := uv }) clock (by rw [Array.toList_modify]; exact e6 _ vk vv)⟩
            have hkey : ((rs[j]?.map (·.key)).getD uk) = e.key := by
              rw [Array.getElem?_toList] at e2
              rw [e2]; rfl
            unfold Instr.mapUpdate
            simp only [Sem.run_bind, run_underlying hu, Result.andThen_ok, show (getObj r).run P w = .ok (.map rs clock) w from by simp [getObj, Sem.run, q2], hc, hf, e1, hkey, hst]
            simp [setObj, Sem.run, q2]
        cases hfz : isFz v with
        | true =>
          rw [hfz] at hr
          refine main (isFz_vf (h := h) (ρ := ρ) hfz ?_) hr
          cases v <;> first | exact hv | (simp [isFz] at hfz)
        | false =>
          rw [hfz] at hr
          cases v with
          | agg cs =>
            simp only at hr
            cases ha : cs.all isFz with
            | false => rw [ha] at hr; exact hr.p.elim
            | true =>
              rw [ha] at hr
              obtain ⟨us, rfl, hl, hc⟩ := (show VLv T S w h ρ (.agg cs) uv from hv)
              exact main (.agg cs us hl (fun j c u a b => (hc j c u a b).2) (fun j c u a b => isFz_vf (List.all_eq_true.1 ha c (List.mem_of_getElem? a)) (hc j c u a b).1)) hr
          | _ => exact hr.p.elim
      | _ => simp only [hb] at hr; exact hr.p.elim
    | _ => exact hr.p.elim
  | _ => rw [ht] at hr; exact hr.p.elim

theorem delV_ok (hT : TabOk P T) (H : HR T Z S h ρ w) (hn : Nexts T Z S w h ρ K N) {t ty : Nat} {ts : Array Nat} {us : Array Value} {m k : AV} {um uk : Value} (h0 : ts[0]? = some t) (h1 : us[0]? = some um) (h2 : us[1]? = some uk)
    (hm : VLt T S w h ρ m um) (hk : VLt T S w h ρ k uk) (hr : delV T t m k h nx K) : Gives P (Builtin.delete_ ts ty us) w N := by
  unfold delV at hr
  cases ht : (T t).k with
  | map kt e =>
    rw [ht] at hr
    simp only at hr
    cases hko : keyOk T kt k with
    | false => rw [hko] at hr; exact hr.p.elim
    | true =>
    rw [hko] at hr
    have vk := key_vf hko hk
    have hu := (hT.map ht).1
    cases m with
    | mp b =>
      have hm' : VLc T S w h ρ (.mp b) um := hm
      simp only [VLc] at hm'
      cases hb : h b with
      | map kt' es =>
        simp only [hb] at hr hm'
        simp only [vw] at hm'
        obtain ⟨r, r1, rfl⟩ := hm'
        cases hkt : Nat.beq kt kt' with
        | false => rw [hkt] at hr; exact hr.p.elim
        | true =>
        rw [hkt] at hr
        have := Nat.eq_of_beq_eq_true hkt; subst this
        obtain ⟨r2, q1, rs, clock, q2, q3, q4⟩ := H.map hb
        rw [r1] at q1; cases q1
        have ho : ∀ p ∈ mdel es k, keyOk T kt p.1 = true := fun p hp => q4 p (mem_mdel p hp)
        have hf := key_find hT hko vk q3 q4
        have hc := key_check hT hko vk rs.isEmpty
        have go : ∀ (rs' : Array MapEntry), MapRel T S w (mdel es k) rs'.toList → N (.tuple #[]) { w with heap := w.heap.setIfInBounds r (.map rs' clock) } := by
          intro rs' hm2
          obtain ⟨H2, G2⟩ := H.setMap (clock' := clock) hb r1 q2 hm2 ho
          exact hn _ _ _ _ _ S ρ hr H2 G2 ⟨#[], rfl, rfl, fun j c u a _ => by simp at a⟩
        rcases mix_del (x := k) (i := 0) q3 with ⟨e1, e2⟩ | ⟨j, u, e1, e2, e3⟩
        · refine ⟨_, _, ?_, go rs e2⟩
          unfold Builtin.delete_
          simp only [h0, h1, h2, Sem.run_bind, run_underlying hu, Result.andThen_ok, show (getObj r).run P w = .ok (.map rs clock) w from by simp [getObj, Sem.run, q2], hc, hf, e1]
          simp [setObj, Sem.run, q2]
        · rw [Nat.zero_add] at e1
          have hlt : j < rs.size := by simpa using e2
          refine ⟨_, _, ?_, go (rs.eraseIdxIfInBounds j) (by rw [Array.eraseIdxIfInBounds, dif_pos hlt, Array.toList_eraseIdx]; exact e3)⟩
          unfold Builtin.delete_
          simp only [h0, h1, h2, Sem.run_bind, run_underlying hu, Result.andThen_ok, show (getObj r).run P w = .ok (.map rs clock) w from by simp [getObj, Sem.run, q2], hc, hf, e1]
          simp [setObj, Sem.run, q2]
      | _ => simp only [hb] at hr; exact hr.p.elim
    | _ => exact hr.p.elim
  | _ => rw [ht] at hr; exact hr.p.elim

theorem mkmapV_ok (hT : TabOk P T) (H : HR T Z S h ρ w) (fr : Fr h nx K) (hn : Nexts T Z S w h ρ K N) {t : Nat} (hr : mkmapV T t nx K) : Gives P (Instr.makeMap t none) w N := by
  unfold mkmapV at hr
  cases ht : (T t).k with
  | map kt e =>
    rw [ht] at hr
    simp only at hr
    have hnx : h nx = .none := fr _ _ _ hr nx (Nat.le_refl _) (Nat.lt_succ_self _)
    obtain ⟨H2, G2⟩ := H.new1 hnx (alloc_grown w (.map #[] 0)) (.map kt []) (.map w.heap.size) (fun go => by
      unfold HB
      rw [hset_same, rset_same]
      exact ⟨_, rfl, #[], 0, by show (w.heap.push (.map #[] 0))[w.heap.size]? = _; simp, trivial, by simp⟩) (fun _ k hk => by simp [realL] at hk; subst hk; simp)
    refine ⟨.map (some w.heap.size), _, ?_, hn _ _ _ _ _ S _ hr H2 G2 ?_⟩
    · simp [Instr.makeMap]
    · show VLc T S (w.alloc (.map #[] 0)) (hset h nx (.map kt [])) (rset ρ nx (.map w.heap.size)) (.mp nx) _
      simp only [VLc, hset_same, vw]
      exact ⟨_, rset_same _ _ _, rfl⟩
  | _ => rw [ht] at hr; exact hr.p.elim

end Go.Ev
