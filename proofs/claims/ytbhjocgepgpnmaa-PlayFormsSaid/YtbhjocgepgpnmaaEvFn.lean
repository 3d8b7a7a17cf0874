/- From a body to what the function tells. -/
import Derived.Test.YtbhjocgepgpnmaaEvCode
set_option linter.unusedVariables false
set_option linter.unusedSimpArgs false
namespace Go.Ev

section
variable {P : Program} {T : Tab} {Z : Base} {S S' S'' : Nat → Prop} {w w' w'' : World} {h h' h'' : AHeap} {ρ ρ' ρ'' : Rho} {nx n N : Nat}
  {a : Act} {s : St}

/-- The results, one by one. -/
def resOf (tmps : Array Value) : ResultVar → Sem Value
  | .tmp t => pure (tmps.getD t undef)
  | .cell a t => do loadVar t (← asAddr (tmps.getD a undef))

theorem results_eq (fn : Func) (tmps : Array Value) {us : List Value} (h : (fn.results.toList.mapM (resOf tmps)).run P w = .ok us w) :
    (results fn tmps).run P w = .ok (match us with | [v] => v | vs => .tuple vs.toArray) w := by
  have e : fn.results.mapM (resOf tmps) = List.toArray <$> fn.results.toList.mapM (resOf tmps) := Array.mapM_eq_mapM_toList
  have e2 : results fn tmps = (do let vs ← fn.results.mapM (resOf tmps); pure (if h : vs.size = 1 then vs[0] else .tuple vs)) := rfl
  rw [e2, e]
  simp only [map_eq_pure_bind, Sem.run_bind, h, Result.andThen_ok, Sem.run_pure]
  cases us with
  | nil => rfl
  | cons v us =>
    cases us with
    | nil => rfl
    | cons v2 us => simp

theorem resV_ok (hT : TabOk P T) (I : Inv T Z S h ρ w s nx a) : ∀ {rs : List ResultVar} {K : List AV → Prop}, resV T s h rs K →
    ∃ vs us, K vs ∧ (rs.mapM (resOf a.tmps)).run P w = .ok us w ∧ us.length = vs.length ∧ ∀ (j : Nat) (c : AV) (u : Value), vs[j]? = some c → us[j]? = some u → VLt T S w h ρ c u
  | [], K, hr => ⟨[], [], hr, rfl, rfl, fun j c u hc => by simp at hc⟩
  | .tmp t :: rs, K, hr => by
    have hr := force_iff.1 (show force (s t) (fun v => resV T s h rs fun vs => K (v :: vs)) from hr)
    obtain ⟨vs, us, h1, h2, h3, h4⟩ := resV_ok hT I hr
    refine ⟨s t :: vs, a.tmps.getD t undef :: us, h1, ?_, by simp [h3], fun j c u hc hu => ?_⟩
    · rw [List.mapM_cons]
      simp only [Sem.run_bind, resOf, Sem.run_pure, Result.andThen_ok, h2]
    · cases j with
      | zero => simp only [List.getElem?_cons_zero, Option.some.injEq] at hc hu; subst hc hu; exact I.tm t
      | succ j => exact h4 j c u (by simpa using hc) (by simpa using hu)
  | .cell b t :: rs, K, hr => by
    rw [resV_cell] at hr
    have hb := I.tm b
    generalize hq : s b = q at hr hb
    cases q with
    | ptr k i off =>
      cases i with
      | succ i => exact hr.p.elim
      | zero =>
        simp only at hr
        cases hx : h k with
        | var x =>
          rw [hx] at hr
          simp only at hr
          have hb' : VLc T S w h ρ (.ptr k 0 off) (a.tmps.getD b undef) := hb
          simp only [VLc, hx, vw] at hb'
          obtain ⟨blk, o, r1, r2⟩ := hb'
          obtain ⟨blk2, o2, q1, q2, q3⟩ := I.H.var hx
          rw [r1] at q1; cases q1
          obtain ⟨v, u, k1, k2, k3⟩ := readAt_ok (P := P) hT q2 hr
          obtain ⟨vs, us, h1, h2, h3, h4⟩ := resV_ok hT I k1
          refine ⟨v :: vs, u :: us, h1, ?_, by simp [h3], fun j c z hc hz => ?_⟩
          · rw [List.mapM_cons]
            simp only [Sem.run_bind, resOf, r2, asAddr, Sem.run_pure, Result.andThen_ok, k2, h2]
          · cases j with
            | zero =>
              simp at hc hz; subst hc hz
              rcases k3 with ⟨cs, ws, rfl, rfl, l1, l2⟩ | ⟨l1, l2⟩
              · exact ⟨ws, rfl, l1, l2⟩
              · exact vlv_vlt (vlc_vlv l1)
            | succ j => exact h4 j c z (by simpa using hc) (by simpa using hz)
        | _ => rw [hx] at hr; exact hr.p.elim
    | _ => exact hr.p.elim

theorem nils2_ok (H : HR T Z S h ρ w) (free : ∀ b, nx ≤ b → h b = .none) {v : AV} {u : Value} (hv : VLt T S w h ρ v u) :
    ∃ ρ', HR T Z S (happ h (nils2 v nx).2.1) ρ' w ∧ Goes T S w h ρ S w (happ h (nils2 v nx).2.1) ρ' ∧ VLv T S w (happ h (nils2 v nx).2.1) ρ' (nils2 v nx).1 u ∧
      nx ≤ (nils2 v nx).2.2 ∧ ∀ p ∈ (nils2 v nx).2.1, nx ≤ p.1 ∧ p.1 < (nils2 v nx).2.2 := by
  have plain : VLv T S w h ρ v u → nils2 v nx = (v, [], nx) → ∃ ρ', HR T Z S (happ h (nils2 v nx).2.1) ρ' w ∧ Goes T S w h ρ S w (happ h (nils2 v nx).2.1) ρ' ∧ VLv T S w (happ h (nils2 v nx).2.1) ρ' (nils2 v nx).1 u ∧
      nx ≤ (nils2 v nx).2.2 ∧ ∀ p ∈ (nils2 v nx).2.1, nx ≤ p.1 ∧ p.1 < (nils2 v nx).2.2 := by
    intro hvv he
    rw [he]
    exact ⟨ρ, H, Goes.refl .., hvv, Nat.le_refl _, fun p hp => by simp at hp⟩
  cases v with
  | agg cs =>
    obtain ⟨vs, rfl, hl, hc⟩ := hv
    obtain ⟨ρ', H', G', e1, e2, e3, e4⟩ := nils_ok (cs := cs) (vs := vs.toList) (nx := nx) H (fun b hb _ => free b hb) (by simpa using hl) (fun j c u a b => (hc j c u a (by simpa using b)).1)
    refine ⟨ρ', H', G', ⟨vs, rfl, by rw [e1]; exact hl, fun j c u a b => ⟨e4 j c u a (by simpa using b), ?_⟩⟩, e2, e3⟩
    have hj : j < cs.length := by rw [← e1]; exact (List.getElem?_eq_some_iff.1 a).1
    exact (hc j _ u (List.getElem?_eq_getElem hj) b).2
  | nsl e =>
    obtain rfl := vl_nsl hv
    obtain ⟨H', G'⟩ := H.row0 (free nx (Nat.le_refl _)) e none
    refine ⟨_, H', G', ?_, Nat.le_succ _, fun p hp => by simp [nils2] at hp; subst hp; exact ⟨Nat.le_refl _, Nat.lt_succ_self _⟩⟩
    have goal : VLc T S w (hset h nx (.row e [])) (rset ρ nx (.row none 0)) (.ref nx) (.slice none 0 0) := by
      simp only [VLc, hset_same, vw]
      exact ⟨none, 0, rset_same _ _ _, rfl⟩
    exact goal
  | tup xs => exact ⟨ρ, H, Goes.refl .., VF.und u, Nat.le_refl _, fun p hp => by simp [nils2] at hp⟩
  | _ => exact plain hv rfl

theorem nilsT_ok : ∀ {vs : List AV} {us : List Value} {nx : Nat} {h : AHeap} {ρ : Rho}, HR T Z S h ρ w → (∀ b, nx ≤ b → h b = .none) → us.length = vs.length →
    (∀ (j : Nat) (c : AV) (u : Value), vs[j]? = some c → us[j]? = some u → VLt T S w h ρ c u) →
    ∃ ρ', HR T Z S (happ h (nilsT vs nx).2.1) ρ' w ∧ Goes T S w h ρ S w (happ h (nilsT vs nx).2.1) ρ' ∧ (nilsT vs nx).1.length = vs.length ∧
      ∀ (j : Nat) (c : AV) (u : Value), (nilsT vs nx).1[j]? = some c → us[j]? = some u → VLv T S w (happ h (nilsT vs nx).2.1) ρ' c u
  | [], us, nx, h, ρ, H, _, _, _ => ⟨ρ, H, Goes.refl .., rfl, fun j c u hc => by simp [nilsT] at hc⟩
  | v :: vs, [], nx, h, ρ, H, _, hl, _ => by simp at hl
  | v :: vs, u :: us, nx, h, ρ, H, free, hl, hv => by
    obtain ⟨ρ1, H1, G1, v1, n1, n2⟩ := nils2_ok H free (hv 0 v u rfl rfl)
    have free1 : ∀ b, (nils2 v nx).2.2 ≤ b → happ h (nils2 v nx).2.1 b = .none := by
      intro b hb
      rw [happ_none fun p hp e => ?_]
      · exact free b (Nat.le_trans n1 hb)
      · have := n2 p hp; omega
    obtain ⟨ρ2, H2, G2, l2, v2⟩ := nilsT_ok (vs := vs) (us := us) H1 free1 (by simpa using hl) (fun j c x a b => G1.vlt (hv (j + 1) c x (by simpa using a) (by simpa using b)))
    refine ⟨ρ2, ?_, ?_, by simp [nilsT, l2], fun j c x hc hx => ?_⟩
    · simp only [nilsT]; rw [happ_append]; exact H2
    · simp only [nilsT]; rw [happ_append]; exact G1.trans G2
    · simp only [nilsT] at hc ⊢
      rw [happ_append]
      cases j with
      | zero => simp at hc hx; subst hc hx; exact G2.vlv v1
      | succ j => exact v2 j c x (by simpa using hc) (by simpa using hx)

theorem noTup_ok {v : AV} {u : Value} (hv : VLt T S w h ρ v u) : VLv T S w h ρ (noTup v) u := by
  cases v with
  | tup xs => exact VF.und u
  | _ => exact hv
theorem fzM_ok : ∀ {vs : List AV} {m : List Bool} {us : List Value} {S : Nat → Prop} {h : AHeap}, HR T Z S h ρ w → (∀ b, nx ≤ b → h b = .none) → us.length = vs.length →
    (∀ (j : Nat) (c : AV) (u : Value), vs[j]? = some c → us[j]? = some u → VLt T S w h ρ c u) →
    ∃ S', HR T Z S' (fzM h m vs).2 ρ w ∧ Goes T S w h ρ S' w (fzM h m vs).2 ρ ∧ (fzM h m vs).1.length = vs.length ∧
      ∀ (j : Nat) (c : AV) (u : Value), (fzM h m vs).1[j]? = some c → us[j]? = some u → VLv T S' w (fzM h m vs).2 ρ c u
  | [], m, us, S, h, H, _, _, hv => ⟨S, H, Goes.refl .., rfl, fun j c u hc => by simp [fzM] at hc⟩
  | v :: vs, m, [], S, h, H, _, hl, hv => by simp at hl
  | v :: vs, m, u :: us, S, h, H, free, hl, hv => by
    unfold fzM
    cases hm : m.headD false with
    | true =>
      obtain ⟨S1, H1, G1, v1, f1⟩ := fz1_ok H free (hv 0 v u rfl rfl)
      obtain ⟨S2, H2, G2, l2, v2⟩ := fzM_ok (m := m.tail) (vs := vs) (us := us) H1 f1 (by simpa using hl) (fun j c x a b => G1.vlt (hv (j + 1) c x (by simpa using a) (by simpa using b)))
      refine ⟨S2, H2, G1.trans G2, by simp [l2], fun j c x hc hx => ?_⟩
      cases j with
      | zero => simp at hc hx; subst hc hx; exact G2.vlv (vf_vlv v1)
      | succ j => exact v2 j c x (by simpa using hc) (by simpa using hx)
    | false =>
      obtain ⟨S2, H2, G2, l2, v2⟩ := fzM_ok (m := m.tail) (vs := vs) (us := us) H free (by simpa using hl) (fun j c x a b => hv (j + 1) c x (by simpa using a) (by simpa using b))
      refine ⟨S2, H2, G2, by simp [l2], fun j c x hc hx => ?_⟩
      cases j with
      | zero => simp at hc hx; subst hc hx; exact G2.vlv (noTup_ok (hv 0 v u rfl rfl))
      | succ j => exact v2 j c x (by simpa using hc) (by simpa using hx)

/-- Some blocks are not told of any more. -/
theorem HR.drop (H : HR T Z S h ρ w) (hd : ∀ b, h' b = h b ∨ h' b = .dead) : HR T Z S h' ρ w ∧ Goes T S w h ρ S w h' ρ := by
  have G : Goes T S w h ρ S w h' ρ := ⟨fun _ h => h, fun _ _ => rfl, fun b => (hd b).elim (fun e => by rw [e]; exact BSt.refl ..) (fun e => .inr (.inl (by rw [e]; rfl)))⟩
  have live : ∀ b, isLive (h' b) = true → isLive (h b) = true := fun b hb => (hd b).elim (fun e => by rw [← e]; exact hb) (fun e => by rw [e] at hb; cases hb)
  refine ⟨⟨fun b => ?_, fun b k hb hk => H.own b k (live b hb) hk, fun b c k hne hb hc => H.apart b c k hne (live b hb) (live c hc), H.sS, H.sub, H.prot, H.big, H.os, H.tape, H.output, H.zB⟩, G⟩
  rcases hd b with e | e
  · exact (H.hb b).keep G e rfl fun _ _ _ => rfl
  · unfold HB; rw [e]; trivial

/-- The same blocks, but for those that are not told of. -/
def WkL : List Blk → List Blk → Prop
  | [], [] => True
  | x :: xs, y :: ys => (y = x ∨ y = .dead) ∧ WkL xs ys
  | _, _ => False
theorem WkL.refl : ∀ (l : List Blk), WkL l l
  | [] => trivial
  | x :: xs => ⟨.inl rfl, WkL.refl xs⟩
theorem WkL.at : ∀ {l m : List Blk}, WkL l m → ∀ b, ofL m b = ofL l b ∨ ofL m b = .dead
  | [], [], _, b => .inl rfl
  | x :: xs, y :: ys, h, b => by
    cases b with
    | zero => exact h.1
    | succ b => exact h.2.at b
  | [], _ :: _, h, _ => h.elim
  | _ :: _, [], h, _ => h.elim

/-- What a function tells, from its body. -/
theorem told_of_ev_gen (hT : TabOk P T) (hm : P.follows .mixedOrders = true) {f : Nat} {fn : Func} {L : List Blk} {args : List AV} {r : AV} {L' : List Blk} {R : AV → List Blk → Prop}
    (hf : P.funcs[f]? = some fn) (hname : (fn.name == "runtime.NumGoroutine") = false) (hb : fn.body.isSome = true) (hd : dstB (max args.length fn.ntmps) (code fn) = true) (hR : ∀ x M, R x M → x = r ∧ WkL M L')
    (hr : EV (Told P T) T L.length (code fn) (ofA args) (ofL L) L.length (retQ T fn.results.toList L.length R)) : Told P T f L args r L' := by
  obtain ⟨c, hc⟩ := Option.isSome_iff_exists.1 hb
  have hcode : code fn = c := by unfold code; rw [hc]; rfl
  rw [hcode] at hr hd
  refine ⟨fun Z S ρ w vals H hl hv => .inl ⟨?_, ?_⟩⟩
  · have hn : ¬ fn.name = "runtime.NumGoroutine" := by simpa using hname
    simp [callFunc, hf, hn, hc]
  · refine calls_of_wp hf hc ?_
    have hsize : (vals ++ Array.replicate (fn.ntmps - vals.size) undef).size = max args.length fn.ntmps := by simp [hl]; omega
    refine ev_ok (n := L.length) hT hm c (ofA args) (ofL L) L.length _ { tmps := vals ++ Array.replicate (fn.ntmps - vals.size) undef, defers := [] } w S ρ _ hd ⟨H, fun b hb => ?_, fun t => ?_⟩ hsize hr ?_
    · simp only [ofL, List.getD]
      rw [List.getElem?_eq_none hb]; rfl
    · show VLt T S w (ofL L) ρ (args.getD t .und) _
      rw [List.getD_eq_getElem?_getD]
      cases hq : args[t]? with
      | none => exact VF.und _
      | some x =>
        have ht := (List.getElem?_eq_some_iff.1 hq).1
        have e1 : (vals ++ Array.replicate (fn.ntmps - vals.size) undef).getD t undef = vals[t]'(by omega) := by
          rw [Array.getD_eq_getD_getElem?, Array.getElem?_append_left (by omega), Array.getElem?_eq_getElem (by omega)]; rfl
        rw [e1]
        exact vlv_vlt (hv t x _ hq (Array.getElem?_eq_getElem (by omega)))
    · intro e s' h' nx' a' w' S' ρ' q I' G e1 e2
      have fin : resV T s' h' fn.results.toList (fun vs =>
          RetN (fun kept => nodupB (List.range L.length ++ kept) = true ∧
            R (ren3 (pos (List.range L.length ++ kept)) (match (nilsT vs nx').1 with | [v] => v | vs => .tup vs))
              ((List.range L.length ++ kept).map fun b => renB (pos (List.range L.length ++ kept)) (happ h' (nilsT vs nx').2.1 b)))
            (fun m kept => nodupB (List.range L.length ++ kept) = true ∧
            R (ren3 (pos (List.range L.length ++ kept)) (match (fzM h' m vs).1 with | [v] => v | vs => .tup vs))
              ((List.range L.length ++ kept).map fun b => renB (pos (List.range L.length ++ kept)) ((fzM h' m vs).2 b)))) →
          a'.defers = [] ∧ ∃ v, (results fn a'.tmps).run P w' = .ok v w' ∧ ∃ v', Ending.returned v = .returned v' ∧ ∃ S2 ρ2, HR T Z S2 (ofL L') ρ2 w' ∧ Goes T S w (ofL L) ρ S2 w' (ofL L') ρ2 ∧ VLt T S2 w' (ofL L') ρ2 r v' := by
        intro hq
        refine ⟨e2, ?_⟩
        obtain ⟨vs, us, k1, k2, k3, k4⟩ := resV_ok hT I' hq
        have fin2 : ∀ (S2 : Nat → Prop) (hh : AHeap) (ρ1 : Rho) (xs : List AV), HR T Z S2 hh ρ1 w' → Goes T S' w' h' ρ' S2 w' hh ρ1 → xs.length = vs.length →
            (∀ (j : Nat) (c : AV) (u : Value), xs[j]? = some c → us[j]? = some u → VLv T S2 w' hh ρ1 c u) →
            ∀ kept, nodupB (List.range L.length ++ kept) = true → R (ren3 (pos (List.range L.length ++ kept)) (match xs with | [v] => v | vs => .tup vs)) ((List.range L.length ++ kept).map fun b => renB (pos (List.range L.length ++ kept)) (hh b)) →
            ∃ v, (results fn a'.tmps).run P w' = .ok v w' ∧ ∃ v', Ending.returned v = .returned v' ∧ ∃ S2 ρ2, HR T Z S2 (ofL L') ρ2 w' ∧ Goes T S w (ofL L) ρ S2 w' (ofL L') ρ2 ∧ VLt T S2 w' (ofL L') ρ2 r v' := by
          intro S2 hh ρ1 xs H1 G1 l1 v1 kept nd hk
          obtain ⟨rfl, wk⟩ := hR _ _ hk
          obtain ⟨H3, G3⟩ := (H1.gc (nodupB_ok nd)).drop wk.at
          refine ⟨_, results_eq fn a'.tmps k2, _, rfl, S2, _, H3, ?_, ?_⟩
          · refine Goes.trans ?_ G3
            refine ⟨fun b hb => G1.s b (G.s b hb), fun b hb => (G1.w b (G.s b hb)).trans (G.w b hb), fun b => ?_⟩
            by_cases hb : b < L.length
            · have h3 := (G.trans (G1.toN L.length)).b b hb
              have hl : (List.range L.length ++ kept)[b]? = some b := by
                rw [List.getElem?_append_left (by simpa using hb)]; simp [hb]
              obtain ⟨f1, f2⟩ := kept_at (h := hh) (ρ := ρ1) hl
              have : BSt (ofL L b) (ρ b) (keptHeap (List.range L.length ++ kept) hh b) (keptRho (List.range L.length ++ kept) ρ1 b) := by
                rw [f1, f2]
                unfold BSt GSt at h3 ⊢
                simp only [vw_ren]
                exact h3
              exact this
            · left
              simp only [ofL, List.getD]
              rw [List.getElem?_eq_none (by omega)]; rfl
          · refine G3.vlt (ren3_ok (kept_same _ _ ρ1) ?_)
            have hus : us.length = xs.length := by rw [l1]; exact k3
            have tup : VLt T S2 w' hh ρ1 (.tup xs) (.tuple us.toArray) := ⟨us.toArray, rfl, by simpa using hus, fun j c u a b => v1 j c u a (by simpa using b)⟩
            cases us with
            | nil =>
              cases xs with
              | nil => exact tup
              | cons x xs => simp at hus
            | cons u us =>
              cases xs with
              | nil => simp at hus
              | cons x xs =>
                cases us with
                | nil =>
                  cases xs with
                  | nil => exact vlv_vlt (v1 0 x u rfl rfl)
                  | cons _ _ => simp at hus
                | cons u2 us =>
                  cases xs with
                  | nil => simp at hus
                  | cons x2 xs => exact tup
        rcases k1.p with ⟨kept, nd, hk⟩ | ⟨m, kept, nd, hk⟩
        · obtain ⟨ρ1, H1, G1, l1, v1⟩ := nilsT_ok (us := us) (nx := nx') I'.H I'.free k3 k4
          exact fin2 _ _ _ _ H1 G1 l1 v1 kept nd hk
        · obtain ⟨S2, H1, G1, l1, v1⟩ := fzM_ok (m := m) (us := us) (nx := nx') I'.H I'.free k3 k4
          exact fin2 _ _ _ _ H1 G1 l1 v1 kept nd hk
      cases e with
      | exit id => exact (show Stuck from q).p.elim
      | normal => exact fin q
      | ret => exact fin q

theorem told_of_ev (hT : TabOk P T) (hm : P.follows .mixedOrders = true) {f : Nat} {fn : Func} {L : List Blk} {args : List AV} {r : AV} {L' : List Blk}
    (hf : P.funcs[f]? = some fn) (hname : (fn.name == "runtime.NumGoroutine") = false) (hb : fn.body.isSome = true) (hd : dstB (max args.length fn.ntmps) (code fn) = true)
    (hr : EV (Told P T) T L.length (code fn) (ofA args) (ofL L) L.length (retQ T fn.results.toList L.length fun x M => x = r ∧ M = L')) : Told P T f L args r L' :=
  told_of_ev_gen hT hm hf hname hb hd (R := fun x M => x = r ∧ M = L') (fun _ M h => ⟨h.1, by rw [← h.2]; exact WkL.refl M⟩) hr
/-- The same, where some of the blocks are not told of. -/
theorem told_of_ev_drop (hT : TabOk P T) (hm : P.follows .mixedOrders = true) {f : Nat} {fn : Func} {L : List Blk} {args : List AV} {r : AV} {L' : List Blk}
    (hf : P.funcs[f]? = some fn) (hname : (fn.name == "runtime.NumGoroutine") = false) (hb : fn.body.isSome = true) (hd : dstB (max args.length fn.ntmps) (code fn) = true)
    (hr : EV (Told P T) T L.length (code fn) (ofA args) (ofL L) L.length (retQ T fn.results.toList L.length fun x M => x = r ∧ WkL M L')) : Told P T f L args r L' :=
  told_of_ev_gen hT hm hf hname hb hd (fun _ _ h => h) hr

end
end Go.Ev
