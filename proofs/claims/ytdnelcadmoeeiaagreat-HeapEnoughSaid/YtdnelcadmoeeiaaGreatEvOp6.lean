/- New variables; storing; slices made. -/
import Derived.Test.YtdnelcadmoeeiaaGreatEvOp5
set_option linter.unusedVariables false
set_option linter.unusedSimpArgs false
namespace Go.Ev

section
variable {P : Program} {T : Tab} {Z : Base} {S : Nat → Prop} {w : World} {h : AHeap} {ρ : Rho} {K : AV → Ups → Nat → Prop} {nx : Nat} {N : Value → World → Prop}

/-- A value's cells. -/
theorem vlv_cells {x : AV} {v : Value} (a : VLv T S w h ρ x v) (hx : (cells x).all isCell = true) : v.cells.size = (cells x).length ∧
    ∀ (j : Nat) (c : AV) (u : Value), (cells x)[j]? = some c → v.cells[j]? = some u → VLc T S w h ρ c u ∧ u.oneCell' = true := by
  have one : isCell x = true → VLc T S w h ρ x v → v.cells = #[v] → v.oneCell' = true → (cells x) = [x] → v.cells.size = (cells x).length ∧
      ∀ (j : Nat) (c : AV) (u : Value), (cells x)[j]? = some c → v.cells[j]? = some u → VLc T S w h ρ c u ∧ u.oneCell' = true := by
    intro h1 h2 h3 h4 h5
    rw [h3, h5]
    refine ⟨rfl, fun j c u hc hu => ?_⟩
    cases j with
    | zero => simp at hc hu; subst hc hu; exact ⟨h2, h4⟩
    | succ j => simp at hc
  have oc : ∀ {u : Value}, u.oneCell' = true → u.cells = #[u] := by intro u hu; cases u <;> first | rfl | cases hu
  cases x with
  | agg cs => obtain ⟨vs, rfl, hl, hc⟩ := a; exact ⟨hl, hc⟩
  | und => simp [cells, isCell] at hx
  | skp => simp [cells, isCell] at hx
  | tup xs => simp [cells, isCell] at hx
  | fn f caps => simp [cells, isCell] at hx
  | ref b | sub b i n | fsub b n | ptr b i off | mp b | gref b i | gptr b i j off => all_goals (simp only [VLv] at a; have o := a.one rfl; exact one rfl a (oc o) o rfl)
  | _ => all_goals (have a' := a; simp only [VLv, VLc] at a'; simp only [VLv] at a; cases a' <;> exact one rfl a rfl rfl rfl)

theorem vlv_single {x : AV} {v : Value} (a : VLv T S w h ρ x v) (hx : isCell x = true) : v.oneCell' = true := by
  cases x with
  | und => simp [isCell] at hx
  | skp => simp [isCell] at hx
  | agg cs => simp [isCell] at hx
  | tup xs => simp [isCell] at hx
  | fn f caps => simp [isCell] at hx
  | ref b | sub b i n | fsub b n | ptr b i off | mp b | gref b i | gptr b i j off => all_goals (simp only [VLv] at a; exact a.one rfl)
  | _ => all_goals (simp only [VLv, VLc] at a; cases a <;> rfl)
theorem cells_one {v : Value} (h : v.oneCell' = true) : v.cells = #[v] := by cases v <;> first | rfl | cases h

/-- A zero value's cells, as an element's. -/
theorem zeroE_ok (hT : TabOk P T) {e : Nat} (hz : zOk (T e).k = true) : ∃ z, (zeroValue e).run P w = .ok z w ∧ z.cells.size = (T e).size ∧ Flat (VF T S w) (T e).size [zeroE T e] z.cells.toList := by
  have hk : kOk (T e).k = true := by cases hq : (T e).k <;> simp [zOk, kOk, hq] at hz ⊢
  obtain ⟨z, h1, h2, h3⟩ := hT.zeroValue w hk
  refine ⟨z, h1, h2, ?_⟩
  have nzc : ∀ {c : AV} {v : Value}, zeroC c v = true → VF T S w (nz c) v ∧ v.oneCell' = true ∧ (∀ cs, c ≠ .agg cs) ∧ cells (nz c) = [nz c] := by
    intro c v hc
    have hv := zeroC_vf (T := T) (S := S) (w := w) hc
    cases c <;> first
      | exact ⟨hv.1, hv.2, fun cs => by simp, rfl⟩
      | (simp [zeroC] at hc; done)
      | skip
    rename_i e
    have : v = .slice none 0 0 := by cases hv.1; rfl
    subst this
    exact ⟨.nil _ _ _, rfl, fun cs => by simp, rfl⟩
  have scal : zeroC (T e).zero z = true → (T e).size = 1 → Flat (VF T S w) (T e).size [zeroE T e] z.cells.toList := by
    intro hc hs
    obtain ⟨a1, a2, a3, a4⟩ := nzc hc
    have hze : zeroE T e = nz (T e).zero := by
      unfold zeroE
      cases hq : (T e).zero with
      | agg cs => exact absurd hq (a3 cs)
      | _ => rfl
    have hzc : z.cells = #[z] := by cases z <;> first | rfl | cases a2
    rw [hze, hzc, hs]
    exact Flat.one1 (by rw [a4]; rfl) rfl (fun u hu => by simp at hu; subst hu; exact a2) (fun j c hj => by
      rw [a4] at hj
      cases j with
      | zero => simp at hj; subst hj; exact ⟨z, rfl, a1⟩
      | succ j => simp at hj)
  cases hq : (T e).k with
  | struct fs =>
    rw [hq] at h3
    cases hu : P.underlying e with
    | none => rw [hu] at h3; simp [kindOk] at h3
    | some d =>
      rw [hu] at h3
      cases d with
      | struct gs =>
        simp only [kindOk, Bool.and_eq_true] at h3
        obtain ⟨⟨⟨⟨⟨⟨_, _⟩, b3⟩, b4⟩, b5⟩, _⟩, _⟩ := h3
        cases hz0 : (T e).zero with
        | agg cs =>
          rw [hz0] at b4 b5
          cases z with
          | agg vs =>
            have hl : zeroL cs vs.toList = true := b5
            have hze : zeroE T e = .agg (cs.map nz) := by simp [zeroE, hz0]
            rw [hze]
            have key : ∀ (cs : List AV) (vs : List Value), zeroL cs vs = true → vs.length = cs.length ∧ ∀ (j : Nat) (c : AV), (cs.map nz)[j]? = some c → ∃ u, vs[j]? = some u ∧ u.oneCell' = true ∧ VF T S w c u := by
              intro cs
              induction cs with
              | nil => intro vs h; cases vs with | nil => exact ⟨rfl, fun j c h => by simp at h⟩ | cons a b => simp [zeroL] at h
              | cons c cs ih =>
                intro vs h
                cases vs with
                | nil => simp [zeroL] at h
                | cons v vs =>
                  simp only [zeroL, Bool.and_eq_true] at h
                  obtain ⟨i1, i2⟩ := ih vs h.2
                  refine ⟨by simp [i1], fun j c' hj => ?_⟩
                  cases j with
                  | zero => simp at hj; subst hj; have := nzc h.1; exact ⟨v, rfl, this.2.1, this.1⟩
                  | succ j => exact i2 j c' (by simpa using hj)
            obtain ⟨k1, k2⟩ := key cs vs.toList hl
            have hlen : (cells (.agg (cs.map nz))).length = (T e).size := by
              have := Nat.eq_of_beq_eq_true b4
              simpa [cells] using this
            refine Flat.one1 hlen (by simp only [cells, List.length_map] at hlen; rw [← hlen]; exact k1) (fun u hu => ?_) (fun j c hj => by obtain ⟨u, a, _, b⟩ := k2 j c hj; exact ⟨u, a, b⟩)
            obtain ⟨j, hj, rfl⟩ := List.getElem_of_mem hu
            have hj' : j < (cs.map nz).length := by rw [List.length_map]; rw [← k1]; exact hj
            obtain ⟨u, a, b, _⟩ := k2 j _ (List.getElem?_eq_getElem hj')
            have : vs.toList[j]? = some (vs.toList[j]'hj) := List.getElem?_eq_getElem hj
            rw [show (Value.agg vs).cells.toList = vs.toList from rfl] at *
            rw [this] at a; cases a; exact b
          | _ => simp [zeroV, zeroC] at b5
        | _ => rw [hz0] at b3; simp at b3
      | _ => simp [kindOk] at h3
  | other => rw [hq] at hz; simp [zOk] at hz
  | arr n e' => rw [hq] at hz; simp [zOk] at hz
  | func => rw [hq] at hz; simp [zOk] at hz
  | _ =>
    all_goals
      rw [hq] at h3
      cases hu : P.underlying e with
      | none => rw [hu] at h3; simp [kindOk] at h3
      | some d =>
        rw [hu] at h3
        cases d <;> first
          | (simp [kindOk] at h3; done)
          | (simp only [kindOk, Bool.and_eq_true] at h3
             exact scal h3.2 (by first | exact Nat.eq_of_beq_eq_true h3.1 | exact Nat.eq_of_beq_eq_true h3.1.2 | exact Nat.eq_of_beq_eq_true h3.1.1.1.2))

/-- The same, cell by cell, as a variable's first value. -/
theorem zero_ok (hT : TabOk P T) {e : Nat} (hz : zOk (T e).k = true) : ∃ z, (zeroValue e).run P w = .ok z w ∧ z.cells.size = (cells (T e).zero).length ∧
    ∀ (j : Nat) (c : AV) (u : Value), (cells (T e).zero)[j]? = some c → z.cells[j]? = some u → VLc T S w h ρ c u ∧ u.oneCell' = true := by
  have hk : kOk (T e).k = true := by cases hq : (T e).k <;> simp [zOk, kOk, hq] at hz ⊢
  obtain ⟨z, h1, h2, h3⟩ := hT.zeroValue w hk
  refine ⟨z, h1, ?_⟩
  have scal : zeroC (T e).zero z = true → z.cells.size = (cells (T e).zero).length ∧ ∀ (j : Nat) (c : AV) (u : Value), (cells (T e).zero)[j]? = some c → z.cells[j]? = some u → VLc T S w h ρ c u ∧ u.oneCell' = true := by
    intro hc
    have hv := zeroC_vf (T := T) (S := S) (w := w) hc
    have hzc : z.cells = #[z] := by cases z <;> first | rfl | cases hv.2
    have hcc : cells (T e).zero = [(T e).zero] := by cases hq : (T e).zero <;> first | rfl | (rw [hq] at hc; simp [zeroC] at hc)
    rw [hzc, hcc]
    refine ⟨rfl, fun j c u hj hu => ?_⟩
    cases j with
    | zero => simp at hj hu; subst hj hu; exact ⟨vf_vlc hv.1, hv.2⟩
    | succ j => simp at hj
  cases hq : (T e).k with
  | struct fs =>
    rw [hq] at h3
    cases hu : P.underlying e with
    | none => rw [hu] at h3; simp [kindOk] at h3
    | some d =>
      rw [hu] at h3
      cases d with
      | struct gs =>
        simp only [kindOk, Bool.and_eq_true] at h3
        obtain ⟨⟨⟨⟨⟨⟨_, _⟩, b3⟩, b4⟩, b5⟩, _⟩, _⟩ := h3
        cases hz0 : (T e).zero with
        | agg cs =>
          rw [hz0] at b5
          cases z with
          | agg vs =>
            have := zeroL_vf (T := T) (S := S) (w := w) (show zeroL cs vs.toList = true from b5)
            exact ⟨by simpa [Value.cells, cells] using this.1, fun j c u a b => by
              have := this.2 j c u a (by simpa [Value.cells] using b); exact ⟨vf_vlc this.1, this.2⟩⟩
          | _ => simp [zeroV, zeroC] at b5
        | _ => rw [hz0] at b3; simp at b3
      | _ => simp [kindOk] at h3
  | other => rw [hq] at hz; simp [zOk] at hz
  | arr n e' => rw [hq] at hz; simp [zOk] at hz
  | func => rw [hq] at hz; simp [zOk] at hz
  | _ =>
    all_goals
      rw [hq] at h3
      cases hu : P.underlying e with
      | none => rw [hu] at h3; simp [kindOk] at h3
      | some d =>
        rw [hu] at h3
        cases d <;> first
          | (simp [kindOk] at h3; done)
          | (simp only [kindOk, Bool.and_eq_true] at h3; exact scal h3.2)

theorem headOf_cells {v : AV} {r : List AV} (hr : r.length = (cells v).length) (hc : ∀ c ∈ r, isCell c = true ∨ ∃ e, c = .nsl e) : cells (headOf v r) = r := by
  cases v with
  | agg cs => rfl
  | _ =>
    all_goals
      simp only [cells, List.length_cons, List.length_nil] at hr
      obtain ⟨c, rfl⟩ := List.length_eq_one_iff.1 hr
      have := hc c (by simp)
      cases c <;> first | rfl | (simp [isCell] at this)

theorem nils_cell {cs : List AV} (hc : ∀ c ∈ cs, isCell c = true) : ∀ n, ∀ c ∈ (nils cs n).1, isCell c = true := by
  induction cs with
  | nil => intro n c h; simp [nils] at h
  | cons a cs ih =>
    intro n c h
    have ih' := ih fun c h => hc c (by simp [h])
    have ha := hc a (by simp)
    cases a <;> simp only [nils, List.mem_cons] at h <;> rcases h with rfl | h <;> first | exact ih' _ c h | exact ha | rfl

/-- A variable is made. -/
theorem mkvar_ok (H : HR T Z S h ρ w) (fr : Fr h nx K) (hn : Nexts T Z S w h ρ K N) {v : AV} {vs : Array Value} {t : Nat} (hl : vs.size = (cells v).length)
    (hv : ∀ (j : Nat) (c : AV) (u : Value), (cells v)[j]? = some c → vs[j]? = some u → VLc T S w h ρ c u ∧ u.oneCell' = true)
    (hcell : ∀ c ∈ cells v, isCell c = true)
    (hK : K (.ptr nx 0 0) ((nils (cells v) (nx + 1)).2.1 ++ [(nx, .var (headOf v (nils (cells v) (nx + 1)).1))]) (nils (cells v) (nx + 1)).2.2) :
    N (.pointer (some ⟨w.heap.size, 0, none⟩)) (w.alloc (.cells vs t)) := by
  have hf := fr _ _ _ hK
  have hle := nils_le (cells v) (nx + 1)
  obtain ⟨ρ1, H1, G1, n1, n2, n3, n4⟩ := nils_ok (vs := vs.toList) H (fun b h1 h2 => hf b (by omega) h2) (by simpa using hl) (fun j c u a b => (hv j c u a (by simpa using b)).1)
  have hnx : happ h (nils (cells v) (nx + 1)).2.1 nx = .none := by
    rw [happ_none fun p hp => by have := (n3 p hp).1; omega]
    exact hf nx (Nat.le_refl _) (by omega)
  have hh := headOf_cells (v := v) n1 (fun c hc => .inl (nils_cell hcell _ c hc))
  obtain ⟨H2, G2⟩ := H1.newVar hnx (x := headOf v (nils (cells v) (nx + 1)).1) (vs := vs) (t := t) (by rw [hh, n1]; exact hl) (fun j c u a b => by
    rw [hh] at a
    have hj := (List.getElem?_eq_some_iff.1 a).1
    exact ⟨n4 j c u a (by simpa using b), (hv j _ u (List.getElem?_eq_getElem (by rw [← n1]; exact hj)) b).2⟩)
  refine hn _ _ _ (.pointer (some ⟨w.heap.size, 0, none⟩)) (w.alloc (.cells vs t)) S (rset ρ1 nx (.at w.heap.size 0)) hK ?_ ?_ ?_
  · rw [happ_append]; exact H2
  · rw [happ_append]; exact G1.trans G2
  · rw [happ_append]
    show VLc T S (w.alloc (.cells vs t)) (hset _ nx _) _ (.ptr nx 0 0) _
    simp only [VLc, hset_same, vw, rset_same]
    exact ⟨_, _, rfl, rfl⟩

theorem run_newVarV (t : Nat) (v : Value) : (Go.newVar t v).run P w = .ok ⟨w.heap.size, 0, none⟩ (w.alloc (.cells v.cells t)) := by
  simp [Go.newVar, Go.newRow]

theorem zOk_cell (hT : TabOk P T) {e : Nat} (hz : zOk (T e).k = true) : ∀ c ∈ cells (T e).zero, isCell c = true := by
  have hk : kOk (T e).k = true := by cases hq : (T e).k <;> simp [zOk, kOk, hq] at hz ⊢
  obtain ⟨i, z, _, _, _, _, _, h3⟩ := hT.info hk
  have zc : ∀ {c : AV} {v : Value}, zeroC c v = true → isCell c = true ∧ cells c = [c] := by
    intro c v hc; cases c <;> first | exact ⟨rfl, rfl⟩ | (simp [zeroC] at hc)
  have zl : ∀ (cs : List AV) (vs : List Value), zeroL cs vs = true → ∀ c ∈ cs, isCell c = true := by
    intro cs
    induction cs with
    | nil => intro vs _ c h; simp at h
    | cons c cs ih =>
      intro vs h c' hc'
      cases vs with
      | nil => simp [zeroL] at h
      | cons v vs =>
        simp only [zeroL, Bool.and_eq_true] at h
        rcases List.mem_cons.1 hc' with rfl | hc'
        · exact (zc h.1).1
        · exact ih vs h.2 c' hc'
  cases hq : (T e).k with
  | struct fs =>
    rw [hq] at h3
    cases hu : P.underlying e with
    | none => rw [hu] at h3; simp [kindOk] at h3
    | some d =>
      rw [hu] at h3
      cases d with
      | struct gs =>
        simp only [kindOk, Bool.and_eq_true] at h3
        obtain ⟨⟨⟨⟨⟨⟨_, _⟩, b3⟩, b4⟩, b5⟩, _⟩, _⟩ := h3
        cases hz0 : (T e).zero with
        | agg cs =>
          rw [hz0] at b5
          cases z with
          | agg vs => exact zl cs vs.toList b5
          | _ => simp [zeroV, zeroC] at b5
        | _ => rw [hz0] at b3; simp at b3
      | _ => simp [kindOk] at h3
  | other => rw [hq] at hz; simp [zOk] at hz
  | arr n e' => rw [hq] at hz; simp [zOk] at hz
  | func => rw [hq] at hz; simp [zOk] at hz
  | _ =>
    all_goals
      rw [hq] at h3
      cases hu : P.underlying e with
      | none => rw [hu] at h3; simp [kindOk] at h3
      | some d =>
        rw [hu] at h3
        cases d <;> first
          | (simp [kindOk] at h3; done)
          | (simp only [kindOk, Bool.and_eq_true] at h3; intro c hc; rw [(zc h3.2).2] at hc; simp at hc; subst hc; exact (zc h3.2).1)

theorem alloc_ok (hT : TabOk P T) (H : HR T Z S h ρ w) (fr : Fr h nx K) (hn : Nexts T Z S w h ρ K N) {t : Nat} (hr : newVar T t .und nx K) : Gives P (Instr.alloc t true (.tuple #[])) w N := by
  have run : ∀ z, (zeroValue t).run P w = .ok z w → (Instr.alloc t true (.tuple #[])).run P w = .ok (.pointer (some ⟨w.heap.size, 0, none⟩)) (w.alloc (.cells z.cells t)) := by
    intro z hz
    simp [Instr.alloc, hz, run_newVarV]
  unfold newVar at hr
  have plain : (match zOk (T t).k with
      | false => Stuck
      | true => K (.ptr nx 0 0) ((nils (cells (T t).zero) (nx + 1)).2.1 ++ [(nx, .var (headOf (T t).zero (nils (cells (T t).zero) (nx + 1)).1))]) (nils (cells (T t).zero) (nx + 1)).2.2) → Gives P (Instr.alloc t true (.tuple #[])) w N := by
    intro hr
    cases hz : zOk (T t).k with
    | false => rw [hz] at hr; exact hr.p.elim
    | true =>
      rw [hz] at hr
      obtain ⟨z, z1, z2, z3⟩ := zero_ok (S := S) (h := h) (ρ := ρ) (w := w) hT hz
      exact ⟨_, _, run z z1, mkvar_ok H fr hn z2 z3 (zOk_cell hT hz) hr⟩
  cases hk : (T t).k with
  | arr n e =>
    rw [hk] at hr
    simp only at hr
    cases hz : zOk (T e).k with
    | false => rw [hz] at hr; exact hr.p.elim
    | true =>
      rw [hz] at hr
      obtain ⟨a1, a2, a3, a4, a5⟩ := hT.arr hk
      obtain ⟨z, z1, z2, z3⟩ := zeroE_ok (S := S) (w := w) hT hz
      obtain ⟨y, y1, y2, y3⟩ := hT.zeroValue (t := t) w (by rw [hk]; rfl)
      have hnx := fr _ _ _ hr nx (Nat.le_refl _) (by omega)
      rw [hk, a1] at y3
      simp only [kindOk, Bool.and_eq_true] at y3
      cases y with
      | agg vs =>
        have hlf : zeroL (List.replicate n (cells (zeroE T e))).flatten vs.toList = true := y3.2
        obtain ⟨l1, l2⟩ := zeroL_vf (T := T) (S := S) (w := w) hlf
        have hsz : (cells (zeroE T e)).length = (T e).size := z3.size _ (by simp)
        have f : Flat (VF T S w) (T e).size (List.replicate n (zeroE T e)) vs.toList := by
          refine ⟨by rw [l1]; simp [hsz], fun x hx => by rw [List.eq_of_mem_replicate hx]; exact hsz, fun u hu => ?_, fun i x j c hi hj => ?_⟩
          · obtain ⟨k, hk', rfl⟩ := List.getElem_of_mem hu
            have hk2 : k < (List.replicate n (cells (zeroE T e))).flatten.length := by rw [← l1]; exact hk'
            exact (l2 k _ _ (List.getElem?_eq_getElem hk2) (List.getElem?_eq_getElem hk')).2
          · have hi' := (List.getElem?_eq_some_iff.1 hi).1
            have hx : x = zeroE T e := List.eq_of_mem_replicate (List.mem_of_getElem? hi)
            subst hx
            have hj' := (List.getElem?_eq_some_iff.1 hj).1
            rw [hsz] at hj'
            simp only [List.length_replicate] at hi'
            have hidx : (List.replicate n (cells (zeroE T e))).flatten[i * (T e).size + j]? = some c := by
              have : ∀ (n i : Nat), i < n → (List.replicate n (cells (zeroE T e))).flatten[i * (T e).size + j]? = some c := by
                intro n
                induction n with
                | zero => intro i hi; omega
                | succ n ih =>
                  intro i hi
                  rw [List.replicate_succ, List.flatten_cons]
                  cases i with
                  | zero => rw [List.getElem?_append_left (by rw [hsz]; omega)]; simpa using hj
                  | succ i =>
                    rw [List.getElem?_append_right (by rw [hsz, Nat.succ_mul]; omega), hsz, ← ih i (by omega)]
                    congr 1; rw [Nat.succ_mul]; omega
              exact this n i hi'
            have hlt := (List.getElem?_eq_some_iff.1 hidx).1
            have hlt' : i * (T e).size + j < vs.toList.length := by rw [l1]; exact hlt
            exact ⟨_, List.getElem?_eq_getElem hlt', (l2 _ c _ hidx (List.getElem?_eq_getElem hlt')).1⟩
        obtain ⟨H2, G2⟩ := H.newRow (e := e) (es := List.replicate n (zeroE T e)) (vs := vs.toList) (rest := #[]) (t := t) (cap := n) hnx a3 f (by simp) (by
          simp only [List.size_toArray, List.length_nil, Nat.add_zero]; rw [f.len]; simp) (by simp) w rfl rfl rfl rfl
        refine ⟨_, _, run _ y1, hn _ _ _ _ (w.alloc (.cells vs t)) S (rset ρ nx (.row (some (w.heap.size, 0)) n)) hr ?_ ?_ ?_⟩
        · have : vs.toList.toArray ++ #[] = vs := by simp
          rw [this] at H2; exact H2
        · have : vs.toList.toArray ++ #[] = vs := by simp
          rw [this] at G2; exact G2
        · show VLc T S (w.alloc (.cells vs t)) (hset h nx _) _ (.ptr nx 0 0) _
          simp only [VLc, hset_same, vw]
          exact ⟨(w.heap.size, 0), n, rset_same _ _ _, by simpa using a4, by simp⟩
      | _ => simp at y3
  | other => rw [hk] at hr; exact hr.p.elim
  | _ => all_goals (rw [hk] at hr plain; exact plain hr)

theorem box_ok (hT : TabOk P T) (H : HR T Z S h ρ w) (fr : Fr h nx K) (hn : Nexts T Z S w h ρ K N) {t : Nat} {v : AV} {u : Value} (hv : VLv T S w h ρ v u) (hne : v ≠ .und) (hr : newVar T t v nx K) : Gives P (Instr.box t u) w N := by
  have run : (Instr.box t u).run P w = .ok (.pointer (some ⟨w.heap.size, 0, none⟩)) (w.alloc (.cells u.cells t)) := by
    simp [Instr.box, run_newVarV]
  unfold newVar at hr
  have plain : (match (cells v).all isCell with
      | false => Stuck
      | true => K (.ptr nx 0 0) ((nils (cells v) (nx + 1)).2.1 ++ [(nx, .var (headOf v (nils (cells v) (nx + 1)).1))]) (nils (cells v) (nx + 1)).2.2) → Gives P (Instr.box t u) w N := by
    intro hr
    cases hc : (cells v).all isCell with
    | false => rw [hc] at hr; exact hr.p.elim
    | true =>
      rw [hc] at hr
      obtain ⟨c1, c2⟩ := vlv_cells hv hc
      exact ⟨_, _, run, mkvar_ok H fr hn c1 c2 (fun c h => List.all_eq_true.1 hc c h) hr⟩
  cases hk : (T t).k with
  | arr n e => rw [hk] at hr; cases v <;> first | exact absurd rfl hne | exact hr.p.elim
  | other => rw [hk] at hr; exact hr.p.elim
  | _ => all_goals (rw [hk] at hr; cases v <;> first | exact absurd rfl hne | exact plain hr)

end
end Go.Ev
