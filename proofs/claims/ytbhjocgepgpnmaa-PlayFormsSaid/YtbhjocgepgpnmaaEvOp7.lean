/- Storing. -/
import Derived.Test.YtbhjocgepgpnmaaEvOp6
set_option linter.unusedVariables false
set_option linter.unusedSimpArgs false
namespace Go.Ev

section
variable {P : Program} {T : Tab} {Z : Base} {S : Nat → Prop} {w : World} {h : AHeap} {ρ : Rho} {K : AV → Ups → Nat → Prop} {nx : Nat} {N : Value → World → Prop}

theorem run_storeVarV (hT : TabOk P T) {t : Nat} (hk : kOk (T t).k = true) {blk off : Nat} {u : Value} (hs : u.cells.size = (T t).size) (hone : ∀ v ∈ u.cells.toList, v.oneCell' = true)
    (hc : ∀ j, j < u.cells.size → (w.cell? ⟨blk, off + j, none⟩).isSome = true) (hf : ∀ j, j < u.cells.size → w.frozen? ⟨blk, off + j, none⟩ = false) :
    (Instr.storeAt t (.pointer (some ⟨blk, off, none⟩)) u).run P w = .ok () (w.setCells blk off u.cells.toList) := by
  have hst := run_storeCells_cells (P := P) blk off u.cells.toList 0 w (fun j hj => by simpa using hc j (by simpa using hj)) (fun j hj => by simpa using hf j (by simpa using hj)) hone
  simp only [Instr.storeAt, Instr.sureAddr, storeVar, Sem.run_bind, Sem.run_pure, Result.andThen_ok, hT.sizeOf w hk, hs, ne_eq, not_true_eq_false, if_false]
  simpa using hst

theorem splice_get {cs ds : List AV} {off j : Nat} (hl : off + ds.length ≤ cs.length) :
    (splice cs off ds)[j]? = if off ≤ j ∧ j < off + ds.length then ds[j - off]? else cs[j]? := by
  unfold splice
  have h1 : (cs.take off).length = off := by simp; omega
  by_cases h2 : j < off
  · rw [List.getElem?_append_left (by omega), if_neg (by omega), List.getElem?_take, if_pos h2]
  · rw [List.getElem?_append_right (by omega), h1]
    by_cases h3 : j < off + ds.length
    · rw [List.getElem?_append_left (by omega), if_pos ⟨by omega, h3⟩]
    · rw [List.getElem?_append_right (by omega), if_neg (by omega), List.getElem?_drop]
      congr 1; omega
theorem splice_len {cs ds : List AV} {off : Nat} (hl : off + ds.length ≤ cs.length) : (splice cs off ds).length = cs.length := by
  unfold splice; simp; omega

/-- What is stored over part of a place. -/
theorem CellsAt.store {V V' : AV → Value → Prop} {blk o off : Nat} {cs ds : List AV} {vs : List Value} (hl : off + ds.length ≤ cs.length) (hvl : vs.length = ds.length)
    (hc : ∀ (j : Nat) (c : AV), cs[j]? = some c → ∃ u, w.cell? ⟨blk, o + j, none⟩ = some u ∧ u.oneCell' = true ∧ V c u)
    (hV : ∀ c u, V c u → V' c u) (hd : ∀ (j : Nat) (c : AV) (u : Value), ds[j]? = some c → vs[j]? = some u → V' c u ∧ u.oneCell' = true) :
    ∀ (j : Nat) (c : AV), (splice cs off ds)[j]? = some c → ∃ u, (w.setCells blk (o + off) vs).cell? ⟨blk, o + j, none⟩ = some u ∧ u.oneCell' = true ∧ V' c u := by
  intro j c hj
  rw [splice_get hl] at hj
  split at hj
  · rename_i hr
    have hjlt : j - off < vs.length := by omega
    have hin := World.cell?_setCells_in blk vs (o + off) w (fun k hk => by
      have hk' : off + k < cs.length := by omega
      obtain ⟨u, a, _⟩ := hc (off + k) _ (List.getElem?_eq_getElem hk')
      rw [show o + off + k = o + (off + k) by omega, a]; rfl) (j - off) hjlt
    have := hd (j - off) c _ hj (List.getElem?_eq_getElem hjlt)
    exact ⟨_, by rw [← hin]; congr 2; omega, this.2, this.1⟩
  · rename_i hr
    obtain ⟨u, a, b, d⟩ := hc j c hj
    exact ⟨u, (World.cell?_setCells_out blk vs (o + off) w ⟨blk, o + j, none⟩ (fun _ _ => by show o + j < o + off ∨ o + off + vs.length ≤ o + j; omega)).trans a, b, hV _ _ d⟩

theorem HB.var_mk {S : Nat → Prop} {w : World} {h : AHeap} {ρ : Rho} {b : Nat} {x : AV} (hb : h b = .var x) {blk o : Nat} (hr : ρ b = .at blk o) (hc : CellsAt w (VLc T S w h ρ) blk o x)
    (hf : ∀ j, j < (cells x).length → w.frozen? ⟨blk, o + j, none⟩ = false) : HB T S w h ρ b := by
  unfold HB; rw [hb]; exact ⟨blk, o, hr, hc, hf⟩

/-- A variable's cells are written. -/
theorem HR.storeVar (H : HR T Z S h ρ w) {b blk o : Nat} {x x' : AV} {off : Nat} {vs : List Value} (hb : h b = .var x) (hr : ρ b = .at blk o) (ds : List AV)
    (hx : cells x' = splice (cells x) off ds) (hl : off + ds.length ≤ (cells x).length) (hvl : vs.length = ds.length)
    (hd : ∀ (j : Nat) (c : AV) (u : Value), ds[j]? = some c → vs[j]? = some u → VLc T S w h ρ c u ∧ u.oneCell' = true) :
    HR T Z S (hset h b (.var x')) ρ (w.setCells blk (o + off) vs) ∧ Goes T S w h ρ S (w.setCells blk (o + off) vs) (hset h b (.var x')) ρ := by
  obtain ⟨blk2, o2, h1, h2, h3⟩ := H.var hb
  rw [hr] at h1; cases h1
  refine H.upd (fun c => c = b) (r := some blk) (setCells_grown blk vs (o + off) w) (fun k hk => ⟨b, rfl, by rw [hb]; rfl, by rw [hr]; cases hk; simp [realL]⟩) (fun c hc => ⟨hset_ne _ _ hc, rfl⟩)
    (fun c hc => ?_) (fun _ h => h) (fun _ h => .inl h) (fun go c hc => ?_) (fun c k hc hl' hk => ?_) (fun c d k hc hd' hne => absurd (hc.trans hd'.symm) hne)
  · subst hc; exact BSt.same ⟨by rw [hset_same, hb]; rfl, rfl⟩
  · subst hc
    refine HB.var_mk (hset_same _ _ _) hr ?_ fun j hj => ?_
    · intro j c hc
      rw [hx] at hc
      exact CellsAt.store hl hvl h2 (fun _ _ => go.vlc) (fun j c u a b => ⟨go.vlc (hd j c u a b).1, (hd j c u a b).2⟩) j c hc
    · rw [World.frozen?_setCells]
      refine h3 j ?_
      rw [hx, splice_len hl] at hj; exact hj
  · subst hc
    exact ⟨.inr ⟨c, rfl, by rw [hb]; rfl, hk⟩, (H.own c k (by rw [hb]; rfl) hk).2.1⟩

/-- A row's cells are written. -/
theorem HR.storeRow (H : HR T Z S h ρ w) {b e : Nat} {es es' : List AV} {p : Nat × Nat} {cap : Nat} {off : Nat} {vs : List Value} (hb : h b = .row e es) (hr : ρ b = .row (some p) cap) (hcap : 0 < cap)
    (hlen : es'.length = es.length) (hz : ∀ x ∈ es', (cells x).length = (T e).size)
    (hc : ∀ i x, es'[i]? = some x → CellsAt (w.setCells p.1 (p.2 + off) vs) (VF T S (w.setCells p.1 (p.2 + off) vs)) p.1 (p.2 + i * (T e).size) x)
    (hin : off + vs.length ≤ cap * (T e).size) (hone : ∀ u ∈ vs, u.oneCell' = true) :
    HR T Z S (hset h b (.row e es')) ρ (w.setCells p.1 (p.2 + off) vs) ∧ Goes T S w h ρ S (w.setCells p.1 (p.2 + off) vs) (hset h b (.row e es')) ρ := by
  have h0 := H.hb b
  unfold HB at h0
  rw [hb] at h0
  obtain ⟨oa, cap', r1, r2, r3, r4, r4', r5⟩ := h0
  rw [hr] at r1; cases r1
  have hreal : p.1 ∈ realL (ρ b) := by rw [hr]; exact mem_row (by omega)
  refine H.upd (fun c => c = b) (r := some p.1) (setCells_grown p.1 vs (p.2 + off) w) (fun k hk => ⟨b, rfl, by rw [hb]; rfl, by cases hk; exact hreal⟩) (fun c hc => ⟨hset_ne _ _ hc, rfl⟩)
    (fun c hc => ?_) (fun _ h => h) (fun _ h => .inl h) (fun go c hc' => ?_) (fun c k hc hl' hk => ?_) (fun c d k hc hd' hne => absurd (hc.trans hd'.symm) hne)
  · subst hc; exact BSt.same ⟨by rw [hset_same, hb]; simp [vw, hlen], rfl⟩
  · subst hc'
    unfold HB
    rw [hset_same]
    refine ⟨_, _, hr, by rw [hlen]; exact r2, r3, hz, ⟨r4'.1, fun hb q hq hc k => by rw [World.frozen?_setCells]; exact r4'.2 hb q hq hc k⟩, fun q hq hcq => ?_⟩
    cases hq
    refine ⟨hc, fun j hj => ?_⟩
    obtain ⟨c1, c2⟩ := (r5 p rfl hcq).2 j hj
    refine ⟨?_, by rw [World.frozen?_setCells]; exact c2⟩
    by_cases hjr : off ≤ j ∧ j < off + vs.length
    · have := World.cell?_setCells_in p.1 vs (p.2 + off) w (fun k hk => by
        have := ((r5 p rfl hcq).2 (off + k) (by omega)).1.some
        rwa [show p.2 + (off + k) = p.2 + off + k by omega] at this) (j - off) (by omega)
      rw [show p.2 + off + (j - off) = p.2 + j by omega] at this
      exact ⟨_, this, hone _ (List.getElem_mem _)⟩
    · obtain ⟨u, u1, u2⟩ := c1
      exact ⟨u, (World.cell?_setCells_out p.1 vs (p.2 + off) w ⟨p.1, p.2 + j, none⟩ (fun _ _ => by show p.2 + j < p.2 + off ∨ p.2 + off + vs.length ≤ p.2 + j; omega)).trans u1, u2⟩
  · subst hc
    exact ⟨.inr ⟨c, rfl, by rw [hb]; rfl, hk⟩, (H.own c k (by rw [hb]; rfl) hk).2.1⟩

theorem store_ok (hT : TabOk P T) (H : HR T Z S h ρ w) (fr : Fr h nx K) (hn : Nexts T Z S w h ρ K N) {t : Nat} {p y : AV} {u v : Value} (hp : VLt T S w h ρ p u) (hy : VLv T S w h ρ y v)
    (hr : storeV T t p y h nx K) : ∃ w', (Instr.storeAt t u v).run P w = .ok () w' ∧ N undef w' := by
  unfold storeV at hr
  simp only [forceV_eq, forceC_eq] at hr
  cases hc : Nat.beq (cells y).length (T t).size && (cells y).all isCell && kOk (T t).k && Nat.blt 0 (T t).size with
  | false => rw [hc] at hr; exact hr.p.elim
  | true =>
    rw [hc] at hr
    simp only [Bool.and_eq_true] at hc
    obtain ⟨⟨⟨c1, c2⟩, hk⟩, hpos⟩ := hc
    have hpos : 0 < (T t).size := blt_lt hpos
    have c1 := Nat.eq_of_beq_eq_true c1
    obtain ⟨vl, vc⟩ := vlv_cells hy c2
    have hvs : v.cells.toList.length = (cells y).length := by simpa using vl
    have hone : ∀ z ∈ v.cells.toList, z.oneCell' = true := by
      intro z hz
      obtain ⟨j, hj, rfl⟩ := List.getElem_of_mem hz
      have hj' : j < (cells y).length := by rw [← hvs]; exact hj
      exact (vc j _ _ (List.getElem?_eq_getElem hj') (by simp)).2
    cases p with
    | ptr b i off =>
      simp only at hr
      have hp' : VLc T S w h ρ (.ptr b i off) u := hp
      simp only [VLc] at hp'
      cases hb : h b with
      | var x =>
        simp only [hb] at hr hp'
        simp only [vw] at hp'
        obtain ⟨blk, o, r1, rfl⟩ := hp'
        cases i with
        | succ i => cases hl : Nat.ble (off + (T t).size) (cells x).length <;> rw [hl] at hr <;> exact hr.p.elim
        | zero =>
          cases hl : Nat.ble (off + (T t).size) (cells x).length with
          | false => rw [hl] at hr; exact hr.p.elim
          | true =>
            rw [hl] at hr
            simp only at hr
            have hle : off + (cells y).length ≤ (cells x).length := by rw [c1]; exact Nat.le_of_ble_eq_true hl
            have hf := fr _ _ _ hr
            obtain ⟨ρ1, H1, G1, n1, n2, n3, n4⟩ := nils_ok (vs := v.cells.toList) H (fun b h1 h2 => hf b h1 h2) hvs (fun j c u a b => (vc j c u a (by simpa using b)).1)
            have hb1 : happ h (nils (cells y) nx).2.1 b = .var x := by
              rw [happ_none fun q hq e => ?_]; exact hb
              have := n3 q hq
              have := hf q.1 this.1 this.2
              rw [e, hb] at this; cases this
            have hr1 : ρ1 b = .at blk o := by
              rcases (G1.b b).flat (fun _ _ _ hq => by rw [hb1] at hq; cases hq) with hh | hh | hh
              · rw [hb] at hh; cases hh
              · rw [hb1] at hh; cases hh
              · rw [hh.2, r1]
            have hh := headOf_cells (v := y) n1 (fun c hc => .inl (nils_cell (fun c h => List.all_eq_true.1 c2 c h) _ c hc))
            have hsp : cells (writeAt x off (headOf y (nils (cells y) nx).1)) = splice (cells x) off (nils (cells y) nx).1 := by
              have sc : (cells x).length = 1 → splice (cells x) off (nils (cells y) nx).1 = (nils (cells y) nx).1 := by
                intro h1
                have h0 : off = 0 := by omega
                have h2 : (nils (cells y) nx).1.length = 1 := by rw [n1]; omega
                subst h0
                simp only [splice, List.take_zero, List.nil_append, h2]
                rw [List.drop_eq_nil_of_le (by omega), List.append_nil]
              cases x with
              | agg cs => show splice cs off (cells (headOf y (nils (cells y) nx).1)) = _; rw [hh]; rfl
              | _ => all_goals (rw [sc rfl]; exact hh)
            have hlen' : off + (nils (cells y) nx).1.length ≤ (cells x).length := by rw [n1]; exact hle
            obtain ⟨H2, G2⟩ := H1.storeVar (vs := v.cells.toList) hb1 hr1 _ hsp hlen' (by rw [n1]; exact hvs) (fun j c u a b => by
              have hj := (List.getElem?_eq_some_iff.1 a).1
              exact ⟨n4 j c u a b, (vc j _ u (List.getElem?_eq_getElem (by rw [← n1]; exact hj)) (by simpa using b)).2⟩)
            obtain ⟨blk2, o2, q1, q2, q3⟩ := H.var hb
            rw [r1] at q1; cases q1
            refine ⟨_, run_storeVarV hT hk (by rw [vl, c1]) hone (fun j hj => ?_) (fun j hj => ?_), hn _ _ _ undef _ S ρ1 hr ?_ ?_ (VF.und _)⟩
            · obtain ⟨u, a, _⟩ := q2 (off + j) _ (List.getElem?_eq_getElem (by omega))
              rw [Nat.add_assoc, a]; rfl
            · rw [Nat.add_assoc]; exact q3 _ (by omega)
            · rw [happ_append]; exact H2
            · rw [happ_append]; exact G1.trans G2
      | row e es =>
        simp only [hb] at hr hp'
        simp only [vw] at hp'
        obtain ⟨q, cap, r1, r2, rfl⟩ := hp'
        cases hz : (fzv h y).2.all fun u => !(Nat.beq u.1 b) with
        | false => rw [hz] at hr; exact hr.p.elim
        | true =>
          rw [hz] at hr
          simp only at hr
          have hfz := fzv_ok H hy
          obtain ⟨S1, H1, G1, F1⟩ := hfz.go H
          have hb1 : happ h (fzv h y).2 b = .row e es := by
            rw [happ_none fun p hp e => ?_]; exact hb
            have := List.all_eq_true.1 hz p hp
            rw [e] at this; simp at this
          obtain ⟨a1, a2, a3, a4, a5, a6⟩ := H.rowAt hb r1 (by omega)
          obtain ⟨_, _, _, _, b5, _⟩ := H1.rowAt hb1 r1 (by omega)
          have hcl : (cells (fzv h y).1).length = (cells y).length := by
            cases y with
            | agg cs =>
              obtain ⟨vs, rfl, hl, hcc⟩ := hy
              exact (fzl_ok H (cs := cs) (vs := vs.toList) (fun j c u a b => (hcc j c u a (by simpa using b)).1) (by simpa using hl)).1
            | und => simp [cells, isCell] at c2
            | skp => simp [cells, isCell] at c2
            | tup xs => simp [cells, isCell] at c2
            | fn f caps => simp [cells, isCell] at c2
            | ref b0 => simp only [fzv, fzc]; cases h b0 <;> rfl
            | sub b0 i0 n0 => simp only [fzv, fzc]; cases h b0 <;> rfl
            | fsub b0 n0 => simp only [fzv, fzc]; cases h b0 <;> rfl
            | ptr b0 i0 off0 =>
              simp only [fzv, fzc]
              cases i0 <;> cases h b0 <;> simp only <;> first | rfl | (split <;> rfl)
            | _ => rfl
          -- the stored cells, frozen
          have hyv : ∀ (j : Nat) (c : AV) (u : Value), (cells (fzv h y).1)[j]? = some c → v.cells.toList[j]? = some u → VF T S1 w c u ∧ u.oneCell' = true := by
            intro j c u a b
            have hj := (List.getElem?_eq_some_iff.1 a).1
            refine ⟨?_, (vc j _ u (List.getElem?_eq_getElem (by rw [← hcl]; exact hj)) (by simpa using b)).2⟩
            cases hq : (fzv h y).1 with
            | agg cs => rw [hq] at F1 a; cases F1 with | agg _ vs hl h1 hv => exact hv j c u a (by simpa [Value.cells] using b)
            | _ =>
              all_goals
                rw [hq] at F1 a
                simp only [cells] at a
                cases j with
                | succ j => simp at a
                | zero =>
                  simp at a; subst a
                  have hya : ∀ cs, y ≠ .agg cs := fun cs e => by subst e; simp only [fzv] at hq; cases hq
                  have hyc : isCell y = true := by
                    have h1 : cells y = [y] := by cases y <;> first | rfl | exact absurd rfl (hya _)
                    rw [h1] at c2; simpa using c2
                  have := cells_one (vlv_single hy hyc)
                  rw [this] at b; simp at b; subst b; exact F1
          have write : ∀ (es' : List AV), es'.length = es.length → (∀ x ∈ es', (cells x).length = (T e).size) →
              (∀ k x, es'[k]? = some x → CellsAt (w.setCells q.1 (q.2 + (i * (T e).size + off)) v.cells.toList) (VF T S1 (w.setCells q.1 (q.2 + (i * (T e).size + off)) v.cells.toList)) q.1 (q.2 + k * (T e).size) x) →
              off + (T t).size ≤ (T e).size → K .und ((fzv h y).2 ++ [(b, .row e es')]) nx →
              ∃ w', (Instr.storeAt t (.pointer (some ⟨q.1, q.2 + (i * (T e).size + off), none⟩)) v).run P w = .ok () w' ∧ N undef w' := by
            intro es' l1 l2 l3 l4 hK
            have hrange : i * (T e).size + off + v.cells.toList.length ≤ cap * (T e).size := by
              have := Nat.mul_le_mul_right (T e).size (show i + 1 ≤ cap by omega)
              rw [Nat.succ_mul] at this
              rw [hvs, c1]; omega
            obtain ⟨H2, G2⟩ := H1.storeRow (vs := v.cells.toList) hb1 r1 a1 l1 l2 l3 hrange hone
            refine ⟨_, run_storeVarV hT hk (by rw [vl, c1]) hone (fun j hj => ?_) (fun j hj => ?_), hn _ _ _ undef _ S1 ρ hK ?_ ?_ (VF.und _)⟩
            · rw [Nat.add_assoc]; exact (a6 _ (by simp only [Array.length_toList] at hrange; omega)).1.some
            · rw [Nat.add_assoc]; exact (a6 _ (by simp only [Array.length_toList] at hrange; omega)).2
            · rw [happ_append]; exact H2
            · rw [happ_append]; exact G1.trans G2
          -- blocks that nobody writes are as they were
          have same : ∀ blk, S1 blk → (w.setCells q.1 (q.2 + (i * (T e).size + off)) v.cells.toList).heap[blk]? = w.heap[blk]? := by
            intro blk hS
            refine (setCells_grown q.1 v.cells.toList _ w).block blk (H1.sS blk hS) fun e' => ?_
            cases e'
            have := H1.own b q.1 (by rw [hb1]; rfl) (by rw [r1]; exact mem_row (by omega))
            exact this.2.1 hS
          have kF : ∀ c u, VF T S1 w c u → VF T S1 (w.setCells q.1 (q.2 + (i * (T e).size + off)) v.cells.toList) c u := fun c u hv => hv.mono (fun _ h => h) same
          have other : ∀ k x, k ≠ i → es[k]? = some x → off + (T t).size ≤ (T e).size → CellsAt (w.setCells q.1 (q.2 + (i * (T e).size + off)) v.cells.toList) (VF T S1 (w.setCells q.1 (q.2 + (i * (T e).size + off)) v.cells.toList)) q.1 (q.2 + k * (T e).size) x := by
            intro k x hk hx hle j c hj
            obtain ⟨u, u1, u2, u3⟩ := b5 k x hx j c hj
            refine ⟨u, ?_, u2, kF _ _ u3⟩
            rw [World.cell?_setCells_out q.1 v.cells.toList _ w _ (fun _ _ => ?_)]; exact u1
            have hj' : j < (T e).size := by
              have := (List.getElem?_eq_some_iff.1 hj).1
              rw [a4 x (List.mem_of_getElem? hx)] at this; exact this
            show q.2 + k * (T e).size + j < q.2 + (i * (T e).size + off) ∨ q.2 + (i * (T e).size + off) + v.cells.toList.length ≤ q.2 + k * (T e).size + j
            rw [hvs, c1]
            rcases Nat.lt_or_gt_of_ne hk with hlt | hlt
            · left
              have := Nat.mul_le_mul_right (T e).size (show k + 1 ≤ i by omega)
              rw [Nat.succ_mul] at this; omega
            · right
              have := Nat.mul_le_mul_right (T e).size (show i + 1 ≤ k by omega)
              rw [Nat.succ_mul] at this; omega
          cases hsz : Nat.beq (T t).size (T e).size with
          | true =>
            rw [hsz] at hr
            have hsz := Nat.eq_of_beq_eq_true hsz
            cases off with
            | succ off => exact hr.p.elim
            | zero =>
              refine write _ (by simp) (fun x hx => ?_) (fun k x hx => ?_) (by omega) hr
              · rcases List.mem_or_eq_of_mem_set hx with h1 | rfl
                · exact a4 x h1
                · rw [hcl, c1, hsz]
              · by_cases hk' : k = i
                · subst hk'
                  rw [List.getElem?_set_self (by omega)] at hx; cases hx
                  intro j c hj
                  have hjl := (List.getElem?_eq_some_iff.1 hj).1
                  have hjl2 : j < v.cells.toList.length := by rw [hvs, ← hcl]; exact hjl
                  have := World.cell?_setCells_in q.1 v.cells.toList (q.2 + (k * (T e).size + 0)) w (fun m hm => by
                    have := (a6 (k * (T e).size + m) (by have := Nat.mul_le_mul_right (T e).size (show k + 1 ≤ cap by omega); rw [Nat.succ_mul] at this; rw [hvs, c1] at hm; omega)).1.some
                    rwa [show q.2 + (k * (T e).size + m) = q.2 + (k * (T e).size + 0) + m by omega] at this) j hjl2
                  obtain ⟨f1, f2⟩ := hyv j c _ hj (List.getElem?_eq_getElem hjl2)
                  exact ⟨_, by rw [← this]; congr 2, f2, kF _ _ f1⟩
                · rw [List.getElem?_set_ne (Ne.symm hk')] at hx
                  exact other k x hk' hx (by omega)
          | false =>
            rw [hsz] at hr
            obtain ⟨x, hx, hr⟩ := hr.p
            cases x with
            | agg cs =>
              simp only at hr
              cases hl : Nat.ble (off + (T t).size) cs.length with
              | false => rw [hl] at hr; exact hr.p.elim
              | true =>
                rw [hl] at hr
                have hl := Nat.le_of_ble_eq_true hl
                have hcs : cs.length = (T e).size := a4 _ (List.mem_of_getElem? hx)
                have hsp : off + (cells (fzv h y).1).length ≤ cs.length := by rw [hcl, c1]; exact hl
                refine write _ (by simp) (fun x hx => ?_) (fun k x' hx' => ?_) (by omega) hr
                · rcases List.mem_or_eq_of_mem_set hx with h1 | rfl
                  · exact a4 x h1
                  · show (splice cs off _).length = _; rw [splice_len hsp, hcs]
                · by_cases hk' : k = i
                  · subst hk'
                    rw [List.getElem?_set_self (by omega)] at hx'; cases hx'
                    have := CellsAt.store (w := w) (V := VF T S1 w) (V' := VF T S1 (w.setCells q.1 (q.2 + (k * (T e).size + off)) v.cells.toList)) (blk := q.1) (o := q.2 + k * (T e).size) (off := off) (cs := cs) (ds := cells (fzv h y).1) (vs := v.cells.toList) hsp (by rw [hvs, hcl])
                      (fun j c hj => b5 k _ hx j c hj) kF (fun j c u a b => ⟨kF _ _ (hyv j c u a b).1, (hyv j c u a b).2⟩)
                    rw [Nat.add_assoc] at this
                    exact this
                  · rw [List.getElem?_set_ne (Ne.symm hk')] at hx'
                    exact other k x' hk' hx' (by omega)
            | _ => exact hr.p.elim
      | _ => simp only [hb] at hr; exact hr.p.elim
    | _ => exact hr.p.elim

end
end Go.Ev
