/- Operations on grids: rows of rows, of which some are their own. -/
import Derived.Test.YtdnelcadmoeeiaaGreatEvX1
set_option linter.unusedVariables false
set_option linter.unusedSimpArgs false
namespace Go.Ev

section
variable {P : Program} {T : Tab} {Z : Base} {S : Nat → Prop} {w : World} {h : AHeap} {ρ : Rho} {K : AV → Ups → Nat → Prop} {nx : Nat} {N : Value → World → Prop} {Q : AV → Prop}

theorem HR.gridAt (H : HR T Z S h ρ w) {b e e' : Nat} {gs : List (Bool × List AV)} (hb : h b = .grid e e' gs) : ∃ oa cap rs, ρ b = .grid oa cap rs ∧ GridAt T S w e e' gs oa cap rs := by
  have h0 := H.hb b
  unfold HB at h0
  rw [hb] at h0; exact h0

theorem oneOk_iff {t : TI} (h : oneOk t = true) : t.size = 1 ∧ kOk t.k = true ∧ t.agg = false := by
  simp only [oneOk, Bool.and_eq_true, Bool.not_eq_true'] at h
  exact ⟨Nat.eq_of_beq_eq_true h.1.1, h.1.2, h.2⟩
/-- One cell is read. -/
theorem load_cell (hT : TabOk P T) {t : Nat} (ht : oneOk (T t) = true) {blk o : Nat} {u : Value} (hc : w.cell? ⟨blk, o, none⟩ = some u) : (Instr.loadAt t (.pointer (some ⟨blk, o, none⟩))).run P w = .ok u w := by
  obtain ⟨_, h2, h3⟩ := oneOk_iff ht
  have hag := hT.isAgg w h2
  have : (loadVar t ⟨blk, o, none⟩).run P w = .ok u w := by
    simp only [loadVar, Sem.run_bind, hag, h3, Result.andThen_ok, Bool.false_eq_true, if_false, run_load, hc]
  simpa [Instr.loadAt, Instr.sureAddr] using this

theorem gLoad_ok (hT : TabOk P T) (H : HR T Z S h ρ w) {t : Nat} {p : AV} {u : Value} (hp : VLt T S w h ρ p u) (hr : gLoad T t p h Q) :
    ∃ v r, Q v ∧ (Instr.loadAt t u).run P w = .ok r w ∧ VLt T S w h ρ v r := by
  unfold gLoad at hr
  cases p with
  | ptr b i off =>
    simp only at hr
    have hp' : VLc T S w h ρ (.ptr b i off) u := hp
    simp only [VLc] at hp'
    cases hb : h b with
    | grid e e' gs =>
      simp only [hb] at hr hp'
      simp only [vw] at hp'
      obtain ⟨q, cap, rs, r1, r2, rfl⟩ := hp'
      cases off with
      | succ off => exact hr.p.elim
      | zero =>
        simp only at hr
        cases ht : oneOk (T t) with
        | false => rw [ht] at hr; exact hr.p.elim
        | true =>
          rw [ht] at hr
          obtain ⟨o, es, g1, g2⟩ := hr.p
          obtain ⟨oa, cap2, rs2, s1, G⟩ := H.gridAt hb
          rw [r1] at s1; cases s1
          obtain ⟨q2, u, a1, a2, a3, a4⟩ := G.each i _ g1
          cases a1
          have hld := load_cell hT ht (show w.cell? ⟨q.1, q.2 + (i * (T e).size + 0), none⟩ = some u by rw [G.one, Nat.mul_one, Nat.add_zero]; exact a2)
          unfold GAt at a4
          cases o with
          | false =>
            simp only at g2 a4
            exact ⟨_, u, g2, hld, vf_vlt a4.2⟩
          | true =>
            simp only at g2 a4
            obtain ⟨ia, icap, b1, rfl, _⟩ := a4
            refine ⟨_, _, g2, hld, ?_⟩
            show VLc T S w h ρ (.gref b i) _
            simp only [VLc, hb, vw]
            refine ⟨some q, cap, rs, es.length, ia, icap, r1, ?_, b1, rfl⟩
            simp only [gns, List.getElem?_map, g1]; rfl
    | _ => simp only [hb] at hr; exact hr.p.elim
  | gptr b i j off =>
    simp only at hr
    have hp' : VLc T S w h ρ (.gptr b i j off) u := hp
    simp only [VLc] at hp'
    cases hb : h b with
    | grid e e' gs =>
      simp only [hb] at hr hp'
      simp only [vw] at hp'
      obtain ⟨oa, cap, rs, n, ip, icap, r1, r2, r3, r4, rfl⟩ := hp'
      cases off with
      | succ off => exact hr.p.elim
      | zero =>
        simp only at hr
        obtain ⟨o, es, g1, g2⟩ := hr.p
        cases o with
        | false => exact g2.p.elim
        | true =>
          simp only at g2
          obtain ⟨x, hx, hr⟩ := g2.p
          obtain ⟨oa2, cap2, rs2, s1, G⟩ := H.gridAt hb
          rw [r1] at s1; cases s1
          obtain ⟨q2, u, a1, a2, a3, a4⟩ := G.each i _ g1
          unfold GAt at a4
          simp only at a4
          obtain ⟨ia, icap2, b1, rfl, b3⟩ := a4
          rw [r3] at b1; cases b1
          have hil := (List.getElem?_eq_some_iff.1 hx).1
          have hcp : 0 < icap := by have := b3.1; omega
          obtain ⟨c1, _⟩ := b3.2.2.2.2 ip rfl hcp
          obtain ⟨v, r, d1, d2, d3⟩ := read_ok hT H (fun _ _ h => vf_vlc h) (c1 j x hx) hr
          exact ⟨v, r, d1, by rw [Nat.add_assoc] at d2; simpa [Instr.loadAt, Instr.sureAddr] using d2, d3⟩
    | _ => simp only [hb] at hr; exact hr.p.elim
  | _ => exact hr.p.elim

theorem gIndex_ok (hT : TabOk P T) (H : HR T Z S h ρ w) {t : Nat} {x i : AV} {u ui : Value} (hx : VLt T S w h ρ x u) (hi : VLt T S w h ρ i ui) (hr : gIndex T t x i h Q) :
    ∃ v r, Q v ∧ (Instr.indexAt t u ui).run P w = .ok r w ∧ VLt T S w h ρ v r := by
  unfold gIndex at hr
  cases i with
  | int k n =>
    obtain rfl := vl_int hi
    cases hk : (T t).k with
    | slice e =>
      simp only [hk] at hr
      cases x with
      | ref b =>
        simp only at hr
        have hx' : VLc T S w h ρ (.ref b) u := hx
        simp only [VLc] at hx'
        cases hb : h b with
        | grid e0 e' gs =>
          simp only [hb] at hr hx'
          simp only [vw] at hx'
          obtain ⟨oa, cap, rs, r1, rfl⟩ := hx'
          cases hs : Nat.beq (T e).size (T e0).size with
          | false => rw [hs] at hr; exact hr.p.elim
          | true =>
            rw [hs] at hr
            have hs := Nat.eq_of_beq_eq_true hs
            have l0 := hr.lo
            have l1 := hr.hi
            obtain ⟨oa2, cap2, rs2, s1, G⟩ := H.gridAt hb
            rw [r1] at s1; cases s1
            obtain ⟨p, v, a1, _⟩ := G.each n.toNat _ (List.getElem?_eq_getElem (by omega))
            subst a1
            have hgl : (gns gs).length = gs.length := by simp [gns]
            refine ⟨_, _, hr.p, run_indexAtS hT hk l0 (by rw [hgl]; exact l1), ?_⟩
            show VLc T S w h ρ (.ptr b n.toNat 0) _
            simp only [VLc, hb, vw]
            exact ⟨p, cap, rs, r1, by rw [hgl]; omega, by rw [hs]; rfl⟩
        | _ => simp only [hb] at hr; exact hr.p.elim
      | gref b j =>
        simp only at hr
        have hx' : VLc T S w h ρ (.gref b j) u := hx
        simp only [VLc] at hx'
        cases hb : h b with
        | grid e0 e' gs =>
          simp only [hb] at hr hx'
          simp only [vw] at hx'
          obtain ⟨oa, cap, rs, m, ia, icap, r1, r2, r3, rfl⟩ := hx'
          cases hs : Nat.beq (T e).size (T e').size with
          | false => rw [hs] at hr; exact hr.p.elim
          | true =>
            rw [hs] at hr
            have hs := Nat.eq_of_beq_eq_true hs
            obtain ⟨o, es, g1, g2⟩ := hr.p
            cases o with
            | false => exact g2.p.elim
            | true =>
              simp only at g2
              have l0 := g2.lo
              have l1 := g2.hi
              have hm : m = es.length := by
                simp only [gns, List.getElem?_map, g1] at r2
                simpa using r2.symm
              subst hm
              obtain ⟨oa2, cap2, rs2, s1, G⟩ := H.gridAt hb
              rw [r1] at s1; cases s1
              obtain ⟨q2, v, a1, a2, a3, a4⟩ := G.each j _ g1
              unfold GAt at a4
              simp only at a4
              obtain ⟨ia2, icap2, b1, rfl, b3⟩ := a4
              rw [r3] at b1; cases b1
              have hcp : 0 < icap := by have := b3.1; omega
              cases ia with
              | none => have := b3.2.1 rfl; omega
              | some ip =>
                refine ⟨_, _, g2.p, run_indexAtS hT hk l0 l1, ?_⟩
                show VLc T S w h ρ (.gptr b j n.toNat 0) _
                simp only [VLc, hb, vw]
                exact ⟨oa, cap, rs, es.length, ip, icap, r1, r2, r3, by omega, by rw [hs]; rfl⟩
        | _ => simp only [hb] at hr; exact hr.p.elim
      | _ => exact hr.p.elim
    | _ => simp only [hk] at hr; exact hr.p.elim
  | _ => exact hr.p.elim

theorem gLen_ok (hT : TabOk P T) (H : HR T Z S h ρ w) {t ty : Nat} {x : AV} {u : Value} {ts : Array Nat} {us : Array Value} (h0 : ts[0]? = some t) (h1 : us[0]? = some u) (hx : VLt T S w h ρ x u) (hr : gLen T t x h Q) :
    ∃ v r, Q v ∧ (Builtin.len_ ts ty us).run P w = .ok r w ∧ VLt T S w h ρ v r := by
  unfold gLen at hr
  cases hk : (T t).k with
  | slice e =>
    simp only [hk] at hr
    have run : ∀ oa n cap, u = .slice oa n cap → (Builtin.len_ ts ty us).run P w = .ok (goInt n) w := by
      intro oa n cap hu
      subst hu
      unfold Builtin.len_
      simp only [h0, h1, Sem.run_bind, run_underlying (hT.slice hk).1, Result.andThen_ok]
      rfl
    cases x with
    | ref b =>
      simp only at hr
      have hx' : VLc T S w h ρ (.ref b) u := hx
      simp only [VLc] at hx'
      cases hb : h b with
      | grid e0 e' gs =>
        simp only [hb] at hr hx'
        simp only [vw] at hx'
        obtain ⟨oa, cap, rs, r1, hu⟩ := hx'
        have hgl : (gns gs).length = gs.length := by simp [gns]
        rw [hgl] at hu
        exact ⟨_, _, hr, run _ _ _ hu, vl_mkint _ _⟩
      | _ => simp only [hb] at hr; exact hr.p.elim
    | gref b j =>
      simp only at hr
      have hx' : VLc T S w h ρ (.gref b j) u := hx
      simp only [VLc] at hx'
      cases hb : h b with
      | grid e0 e' gs =>
        simp only [hb] at hr hx'
        simp only [vw] at hx'
        obtain ⟨oa, cap, rs, m, ia, icap, r1, r2, r3, hu⟩ := hx'
        obtain ⟨o, es, g1, g2⟩ := hr.p
        cases o with
        | false => exact g2.p.elim
        | true =>
          simp only at g2
          have hm : m = es.length := by
            simp only [gns, List.getElem?_map, g1] at r2
            simpa using r2.symm
          subst hm
          exact ⟨_, _, g2, run _ _ _ hu, vl_mkint _ _⟩
      | _ => simp only [hb] at hr; exact hr.p.elim
    | _ => exact hr.p.elim
  | _ => simp only [hk] at hr; exact hr.p.elim
theorem GAt.keep {h' : AHeap} {ρ' : Rho} {S' : Nat → Prop} {w' : World} {e' : Nat} {g : Bool × List AV} {r : Option (Option (Nat × Nat) × Nat)} {u : Value} (H : GAt T S w e' g r u) (go : Goes T S w h ρ S' w' h' ρ')
    (hl : g.1 = true → ∀ q icap, r = some (some q, icap) → 0 < icap → w'.heap[q.1]? = w.heap[q.1]?) : GAt T S' w' e' g r u := by
  unfold GAt at H ⊢
  split
  · rename_i hg
    rw [hg] at H
    exact ⟨H.1, H.2.mono go.s go.w⟩
  · rename_i hg
    rw [hg] at H
    obtain ⟨ia, icap, k5, k6, k7⟩ := H
    exact ⟨ia, icap, k5, k6, RowAt.keep k7 go fun q hq hc => hl hg q icap (by rw [k5, hq]) hc⟩
theorem nd_outer {oa : Option (Nat × Nat)} {cap : Nat} {rs : List (Option (Nat × Nat) × Nat)} (hnd : (realL (.grid oa cap rs)).Nodup) {p q : Nat × Nat} {i icap : Nat} (hp : oa = some p) (hc : 0 < cap) (hi : rs[i]? = some (some q, icap)) (hic : 0 < icap) : p.1 ≠ q.1 := by
  subst hp
  have h1 : realR (some p) cap = [p.1] := by cases cap with | zero => omega | succ n => rfl
  simp only [realL, h1, List.cons_append, List.nil_append, List.nodup_cons] at hnd
  intro e
  apply hnd.1
  rw [e, List.mem_flatMap]
  refine ⟨_, List.mem_of_getElem? hi, ?_⟩
  cases icap with | zero => omega | succ n => simp [realR]
theorem nd_inner {oa : Option (Nat × Nat)} {cap : Nat} {rs : List (Option (Nat × Nat) × Nat)} (hnd : (realL (.grid oa cap rs)).Nodup) {p q : Nat × Nat} {i j icap jcap : Nat} (hi : rs[i]? = some (some p, icap)) (hj : rs[j]? = some (some q, jcap)) (hne : i ≠ j) (hic : 0 < icap) (hjc : 0 < jcap) : p.1 ≠ q.1 := by
  simp only [realL] at hnd
  have h2 := (List.nodup_append.1 hnd).2.1
  have h3 := (List.pairwise_flatMap.1 h2).2
  have m1 : p.1 ∈ realR (some p) icap := by cases icap with | zero => omega | succ n => simp [realR]
  have m2 : q.1 ∈ realR (some q) jcap := by cases jcap with | zero => omega | succ n => simp [realR]
  obtain ⟨hi1, hi2⟩ := List.getElem?_eq_some_iff.1 hi
  obtain ⟨hj1, hj2⟩ := List.getElem?_eq_some_iff.1 hj
  rcases Nat.lt_or_gt_of_ne hne with hlt | hlt
  · have := List.pairwise_iff_getElem.1 h3 i j hi1 hj1 hlt
    rw [hi2, hj2] at this
    exact this _ m1 _ m2
  · have := List.pairwise_iff_getElem.1 h3 j i hj1 hi1 hlt
    rw [hi2, hj2] at this
    exact (this _ m2 _ m1).symm

theorem same_out {blk o : Nat} {v : Value} {k : Nat} (hk : k < w.heap.size) (hne : k ≠ blk) : (w.setCells blk o [v]).heap[k]? = w.heap[k]? :=
  (setCells_grown blk [v] o w).block k hk fun e => hne (by cases e; rfl)
/-- One cell of a row is written. -/
theorem RowAt.put {e : Nat} {es : List AV} {p : Nat × Nat} {cap j : Nat} {y : AV} {v : Value} (H : RowAt T S w e es (some p) cap) (hs : (T e).size = 1) (hj : j < es.length) (hy : cells y = [y])
    (hv : VF T S w y v) (h1 : v.oneCell' = true) (hS : ∀ blk, S blk → blk < w.heap.size ∧ blk ≠ p.1) : RowAt T S (w.setCells p.1 (p.2 + j) [v]) e (es.set j y) (some p) cap := by
  obtain ⟨r2, r3, r4, r4', r5⟩ := H
  have hcp : 0 < cap := by omega
  obtain ⟨r6, r7⟩ := r5 p rfl hcp
  have kF : ∀ c u, VF T S w c u → VF T S (w.setCells p.1 (p.2 + j) [v]) c u := fun c u h => h.mono (fun _ h => h) fun b hb => same_out (hS b hb).1 (hS b hb).2
  have hin : (w.setCells p.1 (p.2 + j) [v]).cell? ⟨p.1, p.2 + j, none⟩ = some v := by
    have := World.cell?_setCells_in p.1 [v] (p.2 + j) w (fun k hk => by
      have hk : k = 0 := by simpa using hk
      subst hk
      exact (r7 j (by rw [hs]; omega)).1.some) 0 (by simp)
    simpa using this
  have hout : ∀ k, k ≠ j → (w.setCells p.1 (p.2 + j) [v]).cell? ⟨p.1, p.2 + k, none⟩ = w.cell? ⟨p.1, p.2 + k, none⟩ := fun k hk =>
    World.cell?_setCells_out p.1 [v] (p.2 + j) w _ fun _ _ => by show p.2 + k < p.2 + j ∨ p.2 + j + 1 ≤ p.2 + k; omega
  refine ⟨by rw [List.length_set]; exact r2, r3, fun x hx => ?_, ⟨r4'.1, fun hb q hq hc k => by rw [World.frozen?_setCells]; exact r4'.2 hb q hq hc k⟩, fun q hq hc => ?_⟩
  · rcases List.mem_or_eq_of_mem_set hx with hx | rfl
    · exact r4 x hx
    · rw [hy, hs]; rfl
  · cases hq
    refine ⟨fun i x hx => ?_, fun k hk => ⟨?_, by rw [World.frozen?_setCells]; exact (r7 k hk).2⟩⟩
    · by_cases hij : i = j
      · subst hij
        rw [List.getElem?_set_self hj] at hx; cases hx
        intro k c hc
        rw [hy] at hc
        cases k with
        | succ k => simp at hc
        | zero =>
          simp at hc; subst hc
          exact ⟨v, by rw [hs, Nat.mul_one, Nat.add_zero]; exact hin, h1, kF _ _ hv⟩
      · rw [List.getElem?_set_ne (Ne.symm hij)] at hx
        intro k c hc
        obtain ⟨u, a1, a2, a3⟩ := r6 i x hx k c hc
        have hk0 : k = 0 := by
          have := (List.getElem?_eq_some_iff.1 hc).1
          rw [r4 x (List.mem_of_getElem? hx), hs] at this; omega
        subst hk0
        refine ⟨u, ?_, a2, kF _ _ a3⟩
        rw [hs, Nat.mul_one, Nat.add_zero] at a1 ⊢
        rw [hout i hij]; exact a1
    · by_cases hkj : k = j
      · subst hkj; exact ⟨v, hin, h1⟩
      · obtain ⟨u, u1, u2⟩ := (r7 k hk).1
        exact ⟨u, (hout k hkj).trans u1, u2⟩
theorem run_store1 (hT : TabOk P T) {t : Nat} (ht : oneOk (T t) = true) {blk o : Nat} {u : Value} (h1 : u.oneCell' = true) (hc : (w.cell? ⟨blk, o, none⟩).isSome = true) (hf : w.frozen? ⟨blk, o, none⟩ = false) :
    (Instr.storeAt t (.pointer (some ⟨blk, o, none⟩)) u).run P w = .ok () (w.setCells blk o [u]) := by
  obtain ⟨a1, a2, a3⟩ := oneOk_iff ht
  have hcs := cells_one h1
  have := run_storeVarV (P := P) (w := w) hT a2 (blk := blk) (off := o) (u := u) (by rw [hcs, a1]; rfl) (fun v hv => by rw [hcs] at hv; simp at hv; subst hv; exact h1)
    (fun j hj => by rw [hcs] at hj; have hj : j = 0 := by simpa using hj
                    subst hj; exact hc) (fun j hj => by rw [hcs] at hj; have hj : j = 0 := by simpa using hj
                                                        subst hj; exact hf)
  rw [hcs] at this
  exact this
theorem gns_set {gs : List (Bool × List AV)} {i : Nat} {es es' : List AV} (hg : gs[i]? = some (true, es)) (hl : es'.length = es.length) : gns (gs.set i (true, es')) = gns gs := by
  apply List.ext_getElem?
  intro k
  simp only [gns, List.getElem?_map]
  by_cases hk : k = i
  · subst hk
    rw [List.getElem?_set_self (List.getElem?_eq_some_iff.1 hg).1, hg]
    simp [hl]
  · rw [List.getElem?_set_ne (Ne.symm hk)]

theorem gStore1_ok (hT : TabOk P T) (H : HR T Z S h ρ w) (hn : Nexts T Z S w h ρ K N) {t b i j : Nat} {u v : Value} {e e' : Nat} {gs : List (Bool × List AV)} {es : List AV} {k : IntKind} {n : Int} (hb : h b = .grid e e' gs)
    (hp : VLt T S w h ρ (.gptr b i j 0) u) (hy : v = .int k n) (ht : oneOk (T t) = true) (hs : (T e').size = 1) (hg : gs[i]? = some (true, es)) (hK : K .und [(b, .grid e e' (gs.set i (true, es.set j (.int k n))))] nx) :
    ∃ w', (Instr.storeAt t u v).run P w = .ok () w' ∧ N undef w' := by
  subst hy
  have hp' : VLc T S w h ρ (.gptr b i j 0) u := hp
  simp only [VLc, hb, vw] at hp'
  obtain ⟨oa, cap, rs, m, ip, icap, r1, r2, r3, r4, rfl⟩ := hp'
  have hm : m = es.length := by
    simp only [gns, List.getElem?_map, hg] at r2
    simpa using r2.symm
  subst hm
  obtain ⟨oa2, cap2, rs2, s1, G⟩ := H.gridAt hb
  rw [r1] at s1; cases s1
  obtain ⟨q2, u0, a1, a2, a3, a4⟩ := G.each i _ hg
  unfold GAt at a4
  simp only at a4
  obtain ⟨ia2, icap2, b1, rfl, b3⟩ := a4
  rw [r3] at b1; cases b1
  have hic : 0 < icap := by have := b3.1; omega
  have hcap : 0 < cap := by have := G.hcap; have := (List.getElem?_eq_some_iff.1 hg).1; omega
  have hlive : isLive (h b) = true := by rw [hb]; rfl
  have hreal : ip.1 ∈ realL (ρ b) := by rw [r1]; exact mem_inner r3 rfl hic
  have hSne : ∀ blk, S blk → blk < w.heap.size ∧ blk ≠ ip.1 := fun blk hS => ⟨H.sS blk hS, fun e => (H.own b ip.1 hlive hreal).2.1 (e ▸ hS)⟩
  have hcell := (b3.2.2.2.2 ip rfl hic).2 j (by rw [hs]; have := b3.1; omega)
  have hsame : ∀ q : Nat × Nat, q.1 ∈ realL (ρ b) → q.1 ≠ ip.1 → (w.setCells ip.1 (ip.2 + j) [.int k n]).heap[q.1]? = w.heap[q.1]? := fun q hq hne => same_out (H.own b q.1 hlive hq).1 hne
  obtain ⟨H2, G2⟩ := H.upd (S' := S) (h' := hset h b (.grid e e' (gs.set i (true, es.set j (.int k n))))) (ρ' := ρ) (w' := w.setCells ip.1 (ip.2 + j) [.int k n]) (fun c => c = b) (r := some ip.1) (setCells_grown ip.1 _ (ip.2 + j) w)
    (fun k hk => ⟨b, rfl, hlive, by cases hk; exact hreal⟩) (fun c hc => ⟨hset_ne _ _ hc, rfl⟩)
    (fun c hc => by subst hc; exact BSt.same ⟨by rw [hset_same, hb]; simp only [vw]; rw [gns_set hg (by simp)], rfl⟩) (fun _ h => h) (fun _ h => .inl h)
    (fun go c hc => by
      subst hc
      unfold HB
      rw [hset_same]
      refine ⟨oa, cap, rs, r1, by rw [List.length_set]; exact G.hcap, G.no, G.one, G.pos, by rw [List.length_set]; exact G.len, G.nd, fun p hp jj hjj => ?_, fun i2 g hi2 => ?_⟩
      · have hne := nd_outer G.nd hp hcap r3 hic
        have hw := hsame p (by rw [r1, hp]; exact mem_grid hcap) hne
        rw [World.frozen?_of_block (a := ⟨p.1, p.2 + jj, none⟩) hw]; exact ⟨(G.row p hp jj hjj).1.of_block (a := ⟨p.1, p.2 + jj, none⟩) hw, (G.row p hp jj hjj).2⟩
      · by_cases hii : i2 = i
        · subst hii
          rw [List.getElem?_set_self (List.getElem?_eq_some_iff.1 hg).1] at hi2; cases hi2
          have hne := nd_outer G.nd a1 hcap r3 hic
          have hw := hsame q2 (by rw [r1, a1]; exact mem_grid hcap) hne
          refine ⟨q2, _, a1, (World.cell?_of_block (a := ⟨q2.1, q2.2 + i2, none⟩) hw).trans a2, a3, ?_⟩
          unfold GAt
          simp only
          exact ⟨some ip, icap, r3, by rw [List.length_set], RowAt.put b3 hs (by omega) rfl (VF.int _ _) rfl hSne⟩
        · rw [List.getElem?_set_ne (Ne.symm hii)] at hi2
          obtain ⟨p, u1, k1, k2, k3, k4⟩ := G.each i2 g hi2
          have hne := nd_outer G.nd k1 hcap r3 hic
          have hw := hsame p (by rw [r1, k1]; exact mem_grid hcap) hne
          exact ⟨p, u1, k1, (World.cell?_of_block (a := ⟨p.1, p.2 + i2, none⟩) hw).trans k2, k3, k4.keep go fun _ q qc hq hqc => hsame q (by rw [r1]; exact mem_inner hq rfl hqc) (nd_inner G.nd hq r3 hii hqc hic)⟩)
    (fun c k2 hc hl' hk => by
      subst hc
      exact ⟨.inr ⟨c, rfl, hlive, hk⟩, (H.own c k2 hlive hk).2.1⟩)
    (fun c d k hc hd' hne => absurd (hc.trans hd'.symm) hne)
  have hrun := run_store1 (P := P) (w := w) hT ht (u := .int k n) rfl hcell.1.some hcell.2
  rw [hs, Nat.mul_one, Nat.add_zero]
  exact ⟨_, hrun, hn _ _ _ undef _ S ρ hK H2 G2 (VF.und _)⟩

theorem flatMap_set {rs : List (Option (Nat × Nat) × Nat)} {i : Nat} {r : Option (Nat × Nat) × Nat} (hi : i < rs.length) : (rs.set i r).flatMap (fun r => realR r.1 r.2) = (rs.take i).flatMap (fun r => realR r.1 r.2) ++ (realR r.1 r.2 ++ (rs.drop (i + 1)).flatMap fun r => realR r.1 r.2) := by
  rw [List.set_eq_take_append_cons_drop, if_pos hi, List.flatMap_append, List.flatMap_cons]
theorem flatMap_at {rs : List (Option (Nat × Nat) × Nat)} {i : Nat} {r : Option (Nat × Nat) × Nat} (hi : rs[i]? = some r) : rs.flatMap (fun r => realR r.1 r.2) = (rs.take i).flatMap (fun r => realR r.1 r.2) ++ (realR r.1 r.2 ++ (rs.drop (i + 1)).flatMap fun r => realR r.1 r.2) := by
  obtain ⟨h1, h2⟩ := List.getElem?_eq_some_iff.1 hi
  have : rs.set i r = rs := by rw [← h2]; simp
  rw [← flatMap_set h1, this]
/-- One more row's places. -/
theorem nodup_ins {A B C : List Nat} (h : (A ++ C).Nodup) (hB : B.Nodup) (hd : ∀ x ∈ B, x ∉ A ++ C) : (A ++ (B ++ C)).Nodup := by
  rw [List.nodup_append] at h ⊢
  obtain ⟨h1, h2, h3⟩ := h
  refine ⟨h1, ?_, ?_⟩
  · rw [List.nodup_append]
    exact ⟨hB, h2, fun x hx y hy e => hd x hx (by subst e; exact List.mem_append.2 (.inr hy))⟩
  · intro x hx y hy e
    subst e
    rcases List.mem_append.1 hy with hy | hy
    · exact hd x hy (List.mem_append.2 (.inl hx))
    · exact h3 x hx x hy rfl
theorem realR_nodup (oa : Option (Nat × Nat)) (cap : Nat) : (realR oa cap).Nodup := by cases oa <;> cases cap <;> simp [realR]

theorem gStore2_ok (hT : TabOk P T) (H : HR T Z S h ρ w) (hn : Nexts T Z S w h ρ K N) {t b c i : Nat} {u v : Value} {e e' : Nat} {gs : List (Bool × List AV)} {es es0 : List AV} (hb : h b = .grid e e' gs) (hc : h c = .row e' es)
    (hp : VLt T S w h ρ (.ptr b i 0) u) (hy : VLt T S w h ρ (.ref c) v) (ht : oneOk (T t) = true) (hg : gs[i]? = some (false, es0)) (hK : K .und [(c, .dead), (b, .grid e e' (gs.set i (true, es)))] nx) :
    ∃ w', (Instr.storeAt t u v).run P w = .ok () w' ∧ N undef w' := by
  have hbc : b ≠ c := fun e => by rw [e, hc] at hb; cases hb
  have hp' : VLc T S w h ρ (.ptr b i 0) u := hp
  have hy' : VLc T S w h ρ (.ref c) v := hy
  simp only [VLc, hb, vw] at hp'
  simp only [VLc, hc, vw] at hy'
  obtain ⟨q, cap, rs, r1, r2, rfl⟩ := hp'
  obtain ⟨ia, icap, r3, rfl⟩ := hy'
  obtain ⟨oa2, cap2, rs2, s1, G⟩ := H.gridAt hb
  rw [r1] at s1; cases s1
  have hil := (List.getElem?_eq_some_iff.1 hg).1
  have hcap : 0 < cap := by have := G.hcap; omega
  obtain ⟨q2, u0, a1, a2, a3, a4⟩ := G.each i _ hg
  cases a1
  unfold GAt at a4
  simp only at a4
  have hrl := a4.1
  have hlb : isLive (h b) = true := by rw [hb]; rfl
  have hlc : isLive (h c) = true := by rw [hc]; rfl
  have hq : q.1 ∈ realL (ρ b) := by rw [r1]; exact mem_grid hcap
  have hcr : RowAt T S w e' es ia icap := by
    have h0 := H.hb c
    unfold HB at h0
    rw [hc] at h0
    obtain ⟨oa3, cap3, t1, t2⟩ := h0
    rw [r3] at t1; cases t1
    exact t2
  have hsame : ∀ (d : Nat) (k : Nat), isLive (h d) = true → k ∈ realL (ρ d) → k ≠ q.1 → (w.setCells q.1 (q.2 + i) [.slice (ia.map adr) es.length icap]).heap[k]? = w.heap[k]? := fun d k hd hk hne => same_out (H.own d k hd hk).1 hne
  have hin : (w.setCells q.1 (q.2 + i) [.slice (ia.map adr) es.length icap]).cell? ⟨q.1, q.2 + i, none⟩ = some (.slice (ia.map adr) es.length icap) := by
    have := World.cell?_setCells_in q.1 [.slice (ia.map adr) es.length icap] (q.2 + i) w (fun k hk => by
      have hk : k = 0 := by simpa using hk
      subst hk
      rw [Nat.add_zero, a2]; rfl) 0 (by simp)
    simpa using this
  have hout : ∀ k, k ≠ i → (w.setCells q.1 (q.2 + i) [.slice (ia.map adr) es.length icap]).cell? ⟨q.1, q.2 + k, none⟩ = w.cell? ⟨q.1, q.2 + k, none⟩ := fun k hk =>
    World.cell?_setCells_out q.1 _ (q.2 + i) w _ fun _ _ => by show q.2 + k < q.2 + i ∨ q.2 + i + 1 ≤ q.2 + k; omega
  have hlen : (rs.set i (ia, icap)).length = gs.length := by rw [List.length_set]; exact G.len
  have hdis : ∀ x ∈ realR ia icap, x ∉ realL (ρ b) := fun x hx h2 => H.apart b c x hbc hlb hlc h2 (by rw [r3]; exact hx)
  have hnd : (realL (.grid (some q) cap (rs.set i (ia, icap)))).Nodup := by
    have h0 := G.nd
    simp only [realL] at h0 ⊢
    rw [flatMap_at hrl] at h0
    rw [flatMap_set (by rw [G.len]; exact hil)]
    have hz : realR (none : Option (Nat × Nat)) 0 = [] := rfl
    simp only [hz, List.nil_append] at h0
    rw [← List.append_assoc] at h0 ⊢
    refine nodup_ins h0 (realR_nodup ia icap) fun x hx h2 => hdis x hx ?_
    rw [r1]
    simp only [realL]
    rw [flatMap_at hrl]
    simp only [hz, List.nil_append]
    rw [List.append_assoc] at h2
    exact h2
  obtain ⟨H2, G2⟩ := H.upd (S' := S) (h' := happ h [(c, .dead), (b, .grid e e' (gs.set i (true, es)))]) (ρ' := rset ρ b (.grid (some q) cap (rs.set i (ia, icap)))) (w' := w.setCells q.1 (q.2 + i) [.slice (ia.map adr) es.length icap]) (fun d => d = b ∨ d = c) (r := some q.1) (setCells_grown q.1 _ (q.2 + i) w)
    (fun k hk => ⟨b, .inl rfl, hlb, by cases hk; exact hq⟩) (fun d hd => ⟨(hset_ne _ _ (fun e => hd (.inl e))).trans (hset_ne _ _ (fun e => hd (.inr e))), rset_ne _ _ (fun e => hd (.inl e))⟩)
    (fun d hd => by
      rcases hd with rfl | rfl
      · refine .inr (.inr (.inr ⟨e, e', some q, cap, gns (gs.set i (true, es)), rs.set i (ia, icap), ?_, rset_same _ _ _, .inr ⟨gns gs, rs, by rw [hb]; rfl, r1, by simp [gns], fun k n hk => ?_⟩⟩))
        · show vw (hset _ d _ d) = _
          rw [hset_same]; rfl
        · have hki : k ≠ i := fun e => by subst e; simp [gns, List.getElem?_map, hg] at hk
          refine ⟨?_, List.getElem?_set_ne (Ne.symm hki)⟩
          simp only [gns, List.getElem?_map] at hk ⊢
          rw [List.getElem?_set_ne (Ne.symm hki)]; exact hk
      · refine .inr (.inl ?_)
        show vw (hset (hset h d .dead) b _ d) = _
        rw [hset_ne _ _ (Ne.symm hbc), hset_same]; rfl)
    (fun _ h => h) (fun _ h => .inl h)
    (fun go d hd => by
      rcases hd with rfl | rfl
      · unfold HB
        show match hset (hset h c .dead) d (.grid e e' (gs.set i (true, es))) d with | _ => _
        rw [show happ h [(c, .dead), (d, .grid e e' (gs.set i (true, es)))] d = .grid e e' (gs.set i (true, es)) from hset_same _ _ _]
        refine ⟨some q, cap, rs.set i (ia, icap), rset_same _ _ _, by rw [List.length_set]; exact G.hcap, fun h => (by cases h), G.one, G.pos, by rw [hlen, List.length_set], hnd, fun p hp jj hjj => ?_, fun i2 g hi2 => ?_⟩
        · cases hp
          refine ⟨?_, by rw [World.frozen?_setCells]; exact (G.row q rfl jj hjj).2⟩
          by_cases hji : jj = i
          · subst hji; exact ⟨_, hin, rfl⟩
          · obtain ⟨u1, u2, u3⟩ := (G.row q rfl jj hjj).1
            exact ⟨u1, (hout jj hji).trans u2, u3⟩
        · by_cases hii : i2 = i
          · subst hii
            rw [List.getElem?_set_self hil] at hi2; cases hi2
            refine ⟨q, _, rfl, hin, rfl, ?_⟩
            unfold GAt
            simp only
            refine ⟨ia, icap, by rw [List.getElem?_set_self (by rw [G.len]; exact hil)], rfl, RowAt.keep hcr go fun p hp hpc => hsame c p.1 hlc (by rw [r3, hp]; exact mem_row hpc) fun e => hdis p.1 (by rw [hp]; cases icap with | zero => omega | succ n => simp [realR]) (e ▸ hq)⟩
          · rw [List.getElem?_set_ne (Ne.symm hii)] at hi2
            obtain ⟨p, u1, k1, k2, k3, k4⟩ := G.each i2 g hi2
            cases k1
            refine ⟨q, u1, rfl, (hout i2 hii).trans k2, k3, ?_⟩
            rw [List.getElem?_set_ne (Ne.symm hii)]
            exact k4.keep go fun _ p pc hp hpc => hsame d p.1 hlb (by rw [r1]; exact mem_inner hp rfl hpc) (nd_outer G.nd rfl hcap hp hpc).symm
      · unfold HB
        rw [show happ h [(d, .dead), (b, .grid e e' (gs.set i (true, es)))] d = .dead by show hset (hset h d .dead) b _ d = _; rw [hset_ne _ _ (Ne.symm hbc), hset_same]]
        trivial)
    (fun d k2 hd hl' hk => by
      rcases hd with rfl | rfl
      · rw [rset_same] at hk
        have hk2 : k2 ∈ realL (ρ d) ∨ k2 ∈ realR ia icap := by
          rw [r1]
          simp only [realL] at hk ⊢
          rw [flatMap_set (by rw [G.len]; exact hil)] at hk
          rw [flatMap_at hrl]
          simp only [List.mem_append] at hk ⊢
          rcases hk with hk | hk | hk | hk
          · exact .inl (.inl hk)
          · exact .inl (.inr (.inl hk))
          · exact .inr hk
          · exact .inl (.inr (.inr (.inr hk)))
        rcases hk2 with hk2 | hk2
        · exact ⟨.inr ⟨d, .inl rfl, hlb, hk2⟩, (H.own d k2 hlb hk2).2.1⟩
        · have hk3 : k2 ∈ realL (ρ c) := by rw [r3]; exact hk2
          exact ⟨.inr ⟨c, .inr rfl, hlc, hk3⟩, (H.own c k2 hlc hk3).2.1⟩
      · rw [show happ h [(d, .dead), (b, .grid e e' (gs.set i (true, es)))] d = .dead by show hset (hset h d .dead) b _ d = _; rw [hset_ne _ _ (Ne.symm hbc), hset_same]] at hl'
        cases hl')
    (fun d d2 k2 hd hd2 hne hl hl2 => by
      have hdead : happ h [(c, .dead), (b, .grid e e' (gs.set i (true, es)))] c = .dead := by show hset (hset h c .dead) b _ c = _; rw [hset_ne _ _ (Ne.symm hbc), hset_same]
      rcases hd with rfl | rfl
      · rcases hd2 with rfl | rfl
        · exact absurd rfl hne
        · rw [hdead] at hl2; cases hl2
      · rw [hdead] at hl; cases hl)
  have hcell := G.row q rfl i (by have := G.hcap; omega)
  have hrun := run_store1 (P := P) (w := w) hT ht (blk := q.1) (o := q.2 + i) (u := .slice (ia.map adr) es.length icap) rfl hcell.1.some hcell.2
  rw [G.one, Nat.mul_one, Nat.add_zero]
  exact ⟨_, hrun, hn _ _ _ undef _ S _ hK H2 G2 (VF.und _)⟩

theorem gStore_ok (hT : TabOk P T) (H : HR T Z S h ρ w) (hn : Nexts T Z S w h ρ K N) {t : Nat} {p y : AV} {u v : Value} (hp : VLt T S w h ρ p u) (hy : VLt T S w h ρ y v) (hr : gStore T t p y h nx K) :
    ∃ w', (Instr.storeAt t u v).run P w = .ok () w' ∧ N undef w' := by
  unfold gStore at hr
  cases p with
  | gptr b i j off =>
    simp only at hr
    cases hb : h b with
    | grid e e' gs =>
      rw [hb] at hr
      cases off with
      | succ off => exact hr.p.elim
      | zero =>
        cases y with
        | int k n =>
          simp only at hr
          cases hc : oneOk (T t) && Nat.beq (T e').size 1 with
          | false => rw [hc] at hr; exact hr.p.elim
          | true =>
            rw [hc] at hr
            simp only [Bool.and_eq_true] at hc
            obtain ⟨o, es, g1, g2⟩ := hr.p
            cases o with
            | false => exact g2.p.elim
            | true => exact gStore1_ok hT H hn hb hp (vl_int hy) hc.1 (Nat.eq_of_beq_eq_true hc.2) g1 g2
        | _ => exact hr.p.elim
    | _ => rw [hb] at hr; exact hr.p.elim
  | ptr b i off =>
    simp only at hr
    cases hb : h b with
    | grid e e' gs =>
      rw [hb] at hr
      cases off with
      | succ off => exact hr.p.elim
      | zero =>
        cases y with
        | ref c =>
          simp only at hr
          cases hc : h c with
          | row e2 es =>
            rw [hc] at hr
            simp only at hr
            cases hk : oneOk (T t) && Nat.beq e' e2 with
            | false => rw [hk] at hr; exact hr.p.elim
            | true =>
              rw [hk] at hr
              simp only [Bool.and_eq_true] at hk
              obtain rfl := Nat.eq_of_beq_eq_true hk.2
              obtain ⟨o, es0, g1, g2⟩ := hr.p
              cases o with
              | true => exact g2.p.elim
              | false => exact gStore2_ok hT H hn hb hc hp hy hk.1 g1 g2
          | _ => rw [hc] at hr; exact hr.p.elim
        | _ => exact hr.p.elim
    | _ => rw [hb] at hr; exact hr.p.elim
  | _ => exact hr.p.elim


/-- A row of one value of one cell is made. -/
theorem run_build1 (hT : TabOk P T) {t e : Nat} (hk : (T t).k = .slice e) (h1 : (T e).size = 1) {v : Value} (hv : v.oneCell' = true) :
    (Instr.buildSlice t 1 #[(0, v)]).run P w = .ok (.slice (some ⟨w.heap.size, 0, none⟩) 1 1) (w.alloc (.cells #[v] e)) := by
  obtain ⟨hu, he, hz0⟩ := hT.slice hk
  obtain ⟨z, z1, z2, z3⟩ := hT.zeroValue w he
  have hzs : z.cells.size = 1 := by rw [z2, h1]
  have hvc := cells_one hv
  simp only [Instr.buildSlice, Sem.run_bind, run_underlying hu, Result.andThen_ok, hT.sizeOf w he, h1]
  rw [if_neg (by simp)]
  have hfill : Instr.fill (fun i => some (i * 1, 1)) ((Array.range (1 * 1)).map (z.cells[· % z.cells.size]!)) [(0, v)] = some #[v] := by
    simp only [Instr.fill, hvc]
    rw [if_neg (by simp)]
    refine congrArg some ?_
    apply Array.ext
    · simp
    · intro i h1 h2
      have hi : i = 0 := by simpa using h2
      subst hi
      simp
  simp only [Nat.mul_one, Nat.one_ne_zero, if_false, Sem.run_bind, z1, Sem.run_pure, Result.andThen_ok] at hfill ⊢
  simp only [hfill, newRow, Sem.run_bind, run_newObj, Result.andThen_ok, Sem.run_pure]; rfl

theorem gBuild_ok (hT : TabOk P T) (H : HR T Z S h ρ w) (fr : Fr h nx K) (hn : Nexts T Z S w h ρ K N) {t e c : Nat} (hk : (T t).k = .slice e) {v : Value} (hy : VLt T S w h ρ (.ref c) v) (hr : gBuild T e c h nx K) :
    Gives P (Instr.buildSlice t 1 #[(0, v)]) w N := by
  unfold gBuild at hr
  cases hc : h c with
  | row e' es =>
    rw [hc] at hr
    simp only at hr
    cases ht : Nat.beq (T e).size 1 && kOk (T e).k && Nat.blt 0 (T e').size with
    | false => rw [ht] at hr; exact hr.p.elim
    | true =>
      rw [ht] at hr
      simp only [Bool.and_eq_true] at ht
      have h1 := Nat.eq_of_beq_eq_true ht.1.1
      have hpos : 0 < (T e').size := blt_lt ht.2
      have hnx := fr _ _ _ hr nx (Nat.le_refl _) (by omega)
      have hcn : c ≠ nx := fun e => by rw [← e, hc] at hnx; cases hnx
      have hy' : VLc T S w h ρ (.ref c) v := hy
      simp only [VLc, hc, vw] at hy'
      obtain ⟨ia, icap, r3, rfl⟩ := hy'
      have hlc : isLive (h c) = true := by rw [hc]; rfl
      have hcr : RowAt T S w e' es ia icap := by
        have h0 := H.hb c
        unfold HB at h0
        rw [hc] at h0
        obtain ⟨oa3, cap3, t1, t2⟩ := h0
        rw [r3] at t1; cases t1
        exact t2
      have hrun := run_build1 (P := P) (w := w) hT hk h1 (v := .slice (ia.map adr) es.length icap) rfl
      have hcell : ∀ j, (w.alloc (.cells #[.slice (ia.map adr) es.length icap] e)).cell? ⟨w.heap.size, j, none⟩ = (#[.slice (ia.map adr) es.length icap] : Array Value)[j]? := fun j => World.cell?_alloc_new w _ e j
      have hnew : happ h [(c, .dead), (nx, .grid e e' [(true, es)])] nx = .grid e e' [(true, es)] := hset_same _ _ _
      have hold : happ h [(c, .dead), (nx, .grid e e' [(true, es)])] c = .dead := by show hset (hset h c .dead) nx _ c = _; rw [hset_ne _ _ hcn, hset_same]
      have hlt : ∀ k ∈ realR ia icap, k < w.heap.size := fun k hk => (H.own c k hlc (by rw [r3]; exact hk)).1
      obtain ⟨H2, G2⟩ := H.upd (S' := S) (h' := happ h [(c, .dead), (nx, .grid e e' [(true, es)])]) (ρ' := rset ρ nx (.grid (some (w.heap.size, 0)) 1 [(ia, icap)])) (w' := w.alloc (.cells #[.slice (ia.map adr) es.length icap] e)) (fun d => d = c ∨ d = nx) (r := none)
        ⟨rfl, rfl, rfl, by simp, fun k hk _ => heap_alloc_old w _ hk⟩ (fun k e => by cases e) (fun d hd => ⟨(hset_ne _ _ (fun e => hd (.inr e))).trans (hset_ne _ _ (fun e => hd (.inl e))), rset_ne _ _ (fun e => hd (.inr e))⟩)
        (fun d hd => by
          rcases hd with rfl | rfl
          · exact .inr (.inl (by rw [hold]; rfl))
          · exact .inl (by rw [hnx]; rfl))
        (fun _ h => h) (fun _ h => .inl h)
        (fun go d hd => by
          rcases hd with rfl | rfl
          · unfold HB; rw [hold]; trivial
          · unfold HB
            rw [hnew, rset_same]
            refine ⟨some (w.heap.size, 0), 1, [(ia, icap)], rfl, Nat.le_refl _, fun h => (by cases h), h1, hpos, rfl, ?_, fun p hp jj hjj => ?_, fun i2 g hi2 => ?_⟩
            · simp only [realL, realR, List.flatMap_cons, List.flatMap_nil, List.append_nil, List.cons_append, List.nil_append, List.nodup_cons]
              exact ⟨fun h => by have := hlt _ h; omega, realR_nodup ia icap⟩
            · cases hp
              have hj0 : jj = 0 := by omega
              subst hj0
              exact ⟨⟨_, by rw [Nat.zero_add]; exact hcell 0, rfl⟩, by rw [Nat.zero_add]; exact World.frozen?_alloc_new w _ e 0⟩
            · have hi0 : i2 = 0 := by have := (List.getElem?_eq_some_iff.1 hi2).1; simpa using this
              subst hi0
              simp at hi2; subst hi2
              refine ⟨(w.heap.size, 0), _, rfl, by rw [Nat.zero_add]; exact hcell 0, rfl, ?_⟩
              unfold GAt
              simp only
              exact ⟨ia, icap, rfl, rfl, RowAt.keep hcr go fun p hp hpc => heap_alloc_old w _ (hlt p.1 (by rw [hp]; cases icap with | zero => omega | succ n => simp [realR]))⟩)
        (fun d k2 hd hl' hk => by
          rcases hd with rfl | rfl
          · rw [hold] at hl'; cases hl'
          · rw [rset_same] at hk
            simp only [realL, realR, List.flatMap_cons, List.flatMap_nil, List.append_nil, List.cons_append, List.nil_append, List.mem_cons] at hk
            rcases hk with rfl | hk
            · exact ⟨.inl ⟨Nat.le_refl _, by simp⟩, fun hS => by have := H.sS _ hS; omega⟩
            · have hk3 : k2 ∈ realL (ρ c) := by rw [r3]; exact hk
              exact ⟨.inr ⟨c, .inl rfl, hlc, hk3⟩, (H.own c k2 hlc hk3).2.1⟩)
        (fun d d2 k2 hd hd2 hne hl hl2 => by
          rcases hd with rfl | rfl
          · rw [hold] at hl; cases hl
          · rcases hd2 with rfl | rfl
            · rw [hold] at hl2; cases hl2
            · exact absurd rfl hne)
      refine ⟨_, _, hrun, hn _ _ _ _ _ S _ hr H2 G2 ?_⟩
      show VLc T S (w.alloc (.cells #[.slice (ia.map adr) es.length icap] e)) (happ h [(c, .dead), (nx, .grid e e' [(true, es)])]) (rset ρ nx (.grid (some (w.heap.size, 0)) 1 [(ia, icap)])) (.ref nx) _
      simp only [VLc, hnew, vw]
      exact ⟨some (w.heap.size, 0), 1, [(ia, icap)], rset_same _ _ _, rfl⟩
  | _ => rw [hc] at hr; exact hr.p.elim


theorem GridAt.cells {e e' : Nat} {gs : List (Bool × List AV)} {oa : Option (Nat × Nat)} {cap : Nat} {rs : List (Option (Nat × Nat) × Nat)} (G : GridAt T S w e e' gs oa cap rs) :
    ∃ vs : List Value, vs.length = gs.length ∧ (∀ (k : Nat) (u : Value), vs[k]? = some u → u.oneCell' = true ∧ ∃ g p, gs[k]? = some g ∧ oa = some p ∧ w.cell? ⟨p.1, p.2 + k, none⟩ = some u ∧ GAt T S w e' g rs[k]? u) := by
  refine ⟨(List.range gs.length).map fun k => match oa with | some p => (w.cell? ⟨p.1, p.2 + k, none⟩).getD undef | none => undef, by simp, fun k u hk => ?_⟩
  rw [List.getElem?_map] at hk
  have hkl : k < gs.length := by
    cases hr : (List.range gs.length)[k]? with
    | none => rw [hr] at hk; cases hk
    | some j => have := (List.getElem?_eq_some_iff.1 hr).1; simpa using this
  rw [List.getElem?_range hkl] at hk
  obtain ⟨p, u0, a1, a2, a3, a4⟩ := G.each k _ (List.getElem?_eq_getElem hkl)
  subst a1
  simp only [Option.map_some, a2, Option.getD_some, Option.some.injEq] at hk
  subst hk
  exact ⟨a3, _, p, List.getElem?_eq_getElem hkl, rfl, a2, a4⟩
theorem realL_grid_append (oa : Option (Nat × Nat)) (cap : Nat) (r1 r2 : List (Option (Nat × Nat) × Nat)) : realL (.grid oa cap (r1 ++ r2)) = realL (.grid oa cap r1) ++ r2.flatMap fun r => realR r.1 r.2 := by
  simp only [realL, List.flatMap_append, List.append_assoc]

theorem gAppend_main (hT : TabOk P T) (H : HR T Z S h ρ w) (hn : Nexts T Z S w h ρ K N) {t u ty a c e e' : Nat} (ht : (T t).k = .slice e) (hu : (T u).k = .slice e) (hby : (T e).bytes ≤ 1024) (hzo : zOk (T e).k = true)
    {gs1 gs2 : List (Bool × List AV)} {oa ob : Option (Nat × Nat)} {cap cb : Nat} {rs1 rs2 : List (Option (Nat × Nat) × Nat)} (hla : isLive (h a) = true) (hra : realL (ρ a) = realL (.grid oa cap rs1)) (G1 : GridAt T S w e e' gs1 oa cap rs1)
    (hc : h c = .grid e e' gs2) (hrc : ρ c = .grid ob cb rs2) (hac : a ≠ c) (hnx : h nx = .none) (hroom : gs1.length + gs2.length ≤ 4294967296)
    (hK : K (.ref nx) [(a, .dead), (c, .dead), (nx, .grid e e' (gs1 ++ gs2))] (nx + 1)) : Gives P (Builtin.append_ #[t, u] ty #[.slice (oa.map adr) gs1.length cap, .slice (ob.map adr) gs2.length cb]) w N := by
  obtain ⟨ob2, cb2, rs22, s1, G2⟩ := H.gridAt hc
  rw [hrc] at s1; cases s1
  have hone := G1.one
  have hlc : isLive (h c) = true := by rw [hc]; rfl
  have han : a ≠ nx := fun e => by rw [e, hnx] at hla; cases hla
  have hcn : c ≠ nx := fun e => by rw [← e, hc] at hnx; cases hnx
  have hrcl : realL (ρ c) = realL (.grid ob cb rs2) := by rw [hrc]
  obtain ⟨news, n1, n2⟩ := G2.cells
  obtain ⟨olds, o1, o2⟩ := G1.cells
  have rd : ∀ (w1 : World), w1.heap = w.heap → ∀ {gs : List (Bool × List AV)} {oo : Option (Nat × Nat)} {cc : Nat} {rs : List (Option (Nat × Nat) × Nat)} {vs : List Value}, vs.length = gs.length →
      (∀ (k : Nat) (u : Value), vs[k]? = some u → u.oneCell' = true ∧ ∃ g p, gs[k]? = some g ∧ oo = some p ∧ w.cell? ⟨p.1, p.2 + k, none⟩ = some u ∧ GAt T S w e' g rs[k]? u) →
      (Builtin.firstCells (T e).size gs.length (.slice (oo.map adr) gs.length cc)).run P w1 = .ok vs.toArray w1 := by
    intro w1 hw gs oo cc rs vs v1 v2
    refine run_first (by rw [hone, Nat.mul_one]; exact v1) ?_
    rcases vs with _ | ⟨v0, vs⟩
    · exact .inl rfl
    · obtain ⟨_, g, p, _, hp, _⟩ := v2 0 v0 rfl
      refine .inr ⟨adr p, by rw [hp]; rfl, fun k u hk => ?_⟩
      obtain ⟨_, g, p2, _, hp2, hcell, _⟩ := v2 k u hk
      rw [hp] at hp2; cases hp2
      show w1.cell? (Addr.add ⟨p.1, p.2, none⟩ k) = _
      rw [add_lit]
      unfold World.cell? at hcell ⊢
      rw [hw]; exact hcell
  have hnew : happ h [(a, .dead), (c, .dead), (nx, .grid e e' (gs1 ++ gs2))] nx = .grid e e' (gs1 ++ gs2) := hset_same _ _ _
  have holdc : happ h [(a, .dead), (c, .dead), (nx, .grid e e' (gs1 ++ gs2))] c = .dead := by show hset (hset (hset h a .dead) c .dead) nx _ c = _; rw [hset_ne _ _ hcn, hset_same]
  have holda : happ h [(a, .dead), (c, .dead), (nx, .grid e e' (gs1 ++ gs2))] a = .dead := by show hset (hset (hset h a .dead) c .dead) nx _ a = _; rw [hset_ne _ _ han, hset_ne _ _ hac, hset_same]
  have hout : ∀ d, ¬ (d = a ∨ d = c ∨ d = nx) → happ h [(a, .dead), (c, .dead), (nx, .grid e e' (gs1 ++ gs2))] d = h d := fun d hd => by
    show hset (hset (hset h a .dead) c .dead) nx _ d = _
    rw [hset_ne _ _ fun e => hd (.inr (.inr e)), hset_ne _ _ fun e => hd (.inr (.inl e)), hset_ne _ _ fun e => hd (.inl e)]
  have hdis : ∀ x ∈ rs2.flatMap (fun r => realR r.1 r.2), x ∉ realL (.grid oa cap rs1) := fun x hx h2 => H.apart a c x hac hla hlc (by rw [hra]; exact h2) (by rw [hrcl]; simp only [realL]; exact List.mem_append.2 (.inr hx))
  have hnd2 : (rs2.flatMap fun r => realR r.1 r.2).Nodup := by have := G2.nd; simp only [realL] at this; exact (List.nodup_append.1 this).2.1
  have hrl : (rs1 ++ rs2).length = (gs1 ++ gs2).length := by rw [List.length_append, List.length_append, G1.len, G2.len]
  have inn2 : ∀ {i : Nat} {q : Nat × Nat} {qc : Nat}, rs2[i]? = some (some q, qc) → 0 < qc → q.1 ∈ rs2.flatMap fun r => realR r.1 r.2 := fun h hq => by
    rw [List.mem_flatMap]
    refine ⟨_, List.mem_of_getElem? h, ?_⟩
    rename_i qc
    cases qc with | zero => omega | succ n => simp [realR]
  -- the state behind
  have fin : ∀ (w' : World) (p' : Nat × Nat) (cap' : Nat) (r : Option Nat), w.grownBy w' r → (∀ k, r = some k → ∃ b, (b = a ∨ b = c ∨ b = nx) ∧ isLive (h b) = true ∧ k ∈ realL (ρ b)) → gs1.length + gs2.length ≤ cap' →
      ((oa = some p' ∧ cap = cap') ∨ (w.heap.size ≤ p'.1 ∧ p'.1 < w'.heap.size)) →
      (∀ j, j < cap' → Has w' ⟨p'.1, p'.2 + j, none⟩ ∧ w'.frozen? ⟨p'.1, p'.2 + j, none⟩ = false) →
      (∀ k u, (olds ++ news)[k]? = some u → w'.cell? ⟨p'.1, p'.2 + k, none⟩ = some u) →
      (∀ k, k < w.heap.size → k ≠ p'.1 → w'.heap[k]? = w.heap[k]?) →
      HR T Z S (happ h [(a, .dead), (c, .dead), (nx, .grid e e' (gs1 ++ gs2))]) (rset ρ nx (.grid (some p') cap' (rs1 ++ rs2))) w' ∧ Goes T S w h ρ S w' (happ h [(a, .dead), (c, .dead), (nx, .grid e e' (gs1 ++ gs2))]) (rset ρ nx (.grid (some p') cap' (rs1 ++ rs2))) := by
    intro w' p' cap' r hg hr hfit hp' hrow hcells hsame
    have hin1 : ∀ x, x ∈ rs1.flatMap (fun r => realR r.1 r.2) → x ∈ realL (ρ a) := fun x hx => by rw [hra]; simp only [realL]; exact List.mem_append.2 (.inr hx)
    have hin2 : ∀ x, x ∈ rs2.flatMap (fun r => realR r.1 r.2) → x ∈ realL (ρ c) := fun x hx => by rw [hrcl]; simp only [realL]; exact List.mem_append.2 (.inr hx)
    have hne1 : ∀ x, x ∈ rs1.flatMap (fun r => realR r.1 r.2) → 0 < cap' → x ≠ p'.1 := fun x hx hcp e => by
      rcases hp' with ⟨h1, h2⟩ | ⟨h1, _⟩
      · have := G1.nd
        subst h2
        rw [h1] at this
        simp only [realL] at this
        exact (List.nodup_append.1 this).2.2 p'.1 (by cases cap with | zero => omega | succ n => simp [realR]) x hx e.symm
      · have := (H.own a x hla (hin1 x hx)).1; omega
    have hne2 : ∀ x, x ∈ rs2.flatMap (fun r => realR r.1 r.2) → 0 < cap' → x ≠ p'.1 := fun x hx hcp e => by
      rcases hp' with ⟨h1, h2⟩ | ⟨h1, _⟩
      · refine hdis x hx ?_
        subst h2
        rw [h1, e]; exact mem_grid hcp
      · have := (H.own c x hlc (hin2 x hx)).1; omega
    refine H.upd (S' := S) (fun d => d = a ∨ d = c ∨ d = nx) (r := r) hg hr (fun d hd => ⟨hout d hd, rset_ne _ _ fun e => hd (.inr (.inr e))⟩) (fun d hd => ?_) (fun _ h => h) (fun _ h => .inl h) (fun go d hd => ?_) (fun d k hd hl hk => ?_) (fun d d2 k hd hd2 hne hl hl2 => ?_)
    · rcases hd with rfl | rfl | rfl
      · exact .inr (.inl (by rw [holda]; rfl))
      · exact .inr (.inl (by rw [holdc]; rfl))
      · exact .inl (by rw [hnx]; rfl)
    · rcases hd with rfl | rfl | rfl
      · unfold HB; rw [holda]; trivial
      · unfold HB; rw [holdc]; trivial
      · unfold HB
        rw [hnew, rset_same]
        refine ⟨some p', cap', rs1 ++ rs2, rfl, by rw [List.length_append]; exact hfit, fun h => (by cases h), hone, G1.pos, hrl, ?_, fun p hp j hj => by cases hp; exact hrow j hj, fun i g hi => ?_⟩
        · rw [realL_grid_append]
          have h1 : (realL (.grid (some p') cap' rs1)).Nodup := by
            simp only [realL]
            have h0 := G1.nd
            simp only [realL] at h0
            rw [List.nodup_append]
            refine ⟨realR_nodup _ _, (List.nodup_append.1 h0).2.1, fun x hx y hy e => ?_⟩
            cases cap' with
            | zero => simp [realR] at hx
            | succ n =>
              simp only [realR, List.mem_singleton] at hx
              subst hx
              exact hne1 y hy (by omega) e.symm
          rw [List.nodup_append]
          refine ⟨h1, hnd2, fun x hx y hy e => ?_⟩
          subst e
          simp only [realL] at hx
          rcases List.mem_append.1 hx with hx | hx
          · cases cap' with
            | zero => simp [realR] at hx
            | succ n =>
              simp only [realR, List.mem_singleton] at hx
              subst hx
              exact hne2 _ hy (by omega) rfl
          · exact hdis x hy (by simp only [realL]; exact List.mem_append.2 (.inr hx))
        · have hil := (List.getElem?_eq_some_iff.1 hi).1
          rw [List.length_append] at hil
          have hcp : 0 < cap' := by omega
          by_cases hi1 : i < gs1.length
          · rw [List.getElem?_append_left hi1] at hi
            have hiv : (olds ++ news)[i]? = some (olds[i]'(by omega)) := by rw [List.getElem?_append_left (by omega)]; exact List.getElem?_eq_getElem _
            obtain ⟨q1, g2, p2, q2, q3, q4, q5⟩ := o2 i _ (List.getElem?_eq_getElem (by omega))
            rw [hi] at q2; cases q2
            refine ⟨p', _, rfl, hcells i _ hiv, q1, ?_⟩
            rw [List.getElem?_append_left (by rw [G1.len]; exact hi1)]
            refine q5.keep go fun _ q qc hq hqc => ?_
            have hm : q.1 ∈ rs1.flatMap fun r => realR r.1 r.2 := by
              rw [List.mem_flatMap]
              exact ⟨_, List.mem_of_getElem? hq, by cases qc with | zero => omega | succ n => simp [realR]⟩
            exact hsame q.1 (H.own a q.1 hla (hin1 _ hm)).1 (hne1 _ hm hcp)
          · rw [List.getElem?_append_right (by omega)] at hi
            have hil2 := (List.getElem?_eq_some_iff.1 hi).1
            have hiv : (olds ++ news)[i]? = some (news[i - gs1.length]'(by omega)) := by rw [List.getElem?_append_right (by omega), o1]; exact List.getElem?_eq_getElem _
            obtain ⟨q1, g2, p2, q2, q3, q4, q5⟩ := n2 (i - gs1.length) _ (List.getElem?_eq_getElem (by omega))
            rw [hi] at q2; cases q2
            refine ⟨p', _, rfl, hcells i _ hiv, q1, ?_⟩
            rw [List.getElem?_append_right (by rw [G1.len]; omega), G1.len]
            refine q5.keep go fun _ q qc hq hqc => ?_
            have hm := inn2 hq hqc
            exact hsame q.1 (H.own c q.1 hlc (hin2 _ hm)).1 (hne2 _ hm hcp)
    · rcases hd with rfl | rfl | rfl
      · rw [holda] at hl; cases hl
      · rw [holdc] at hl; cases hl
      · rw [rset_same, realL_grid_append] at hk
        simp only [realL] at hk
        rw [List.mem_append, List.mem_append] at hk
        rcases hk with (hk | hk) | hk
        · have hkp : k = p'.1 ∧ 0 < cap' := by
            cases cap' with
            | zero => simp [realR] at hk
            | succ n => simp [realR] at hk; exact ⟨hk, by omega⟩
          obtain ⟨rfl, hcp⟩ := hkp
          rcases hp' with ⟨h1, h2⟩ | ⟨h1, h2⟩
          · have : p'.1 ∈ realL (ρ a) := by rw [hra, h1]; subst h2; exact mem_grid hcp
            exact ⟨.inr ⟨a, .inl rfl, hla, this⟩, (H.own a p'.1 hla this).2.1⟩
          · exact ⟨.inl ⟨h1, h2⟩, fun hS => by have := H.sS _ hS; omega⟩
        · exact ⟨.inr ⟨a, .inl rfl, hla, hin1 k hk⟩, (H.own a k hla (hin1 k hk)).2.1⟩
        · exact ⟨.inr ⟨c, .inr (.inl rfl), hlc, hin2 k hk⟩, (H.own c k hlc (hin2 k hk)).2.1⟩
    · rcases hd with rfl | rfl | rfl
      · rw [holda] at hl; cases hl
      · rw [holdc] at hl; cases hl
      · rcases hd2 with rfl | rfl | rfl
        · rw [holda] at hl2; cases hl2
        · rw [holdc] at hl2; cases hl2
        · exact absurd rfl hne
  have hval : ∀ (w' : World) (p' : Nat × Nat) (cap' : Nat), VLt T S w' (happ h [(a, .dead), (c, .dead), (nx, .grid e e' (gs1 ++ gs2))]) (rset ρ nx (.grid (some p') cap' (rs1 ++ rs2))) (.ref nx) (.slice (some (adr p')) (gs1.length + gs2.length) cap') := by
    intro w' p' cap'
    show VLc T S w' (happ h [(a, .dead), (c, .dead), (nx, .grid e e' (gs1 ++ gs2))]) (rset ρ nx (.grid (some p') cap' (rs1 ++ rs2))) (.ref nx) _
    simp only [VLc, hnew, vw]
    exact ⟨some p', cap', rs1 ++ rs2, rset_same _ _ _, by simp [gns]⟩
  by_cases hfit : gs1.length + gs2.length ≤ cap
  · cases oa with
    | none =>
      have hc0 := G1.no rfl
      have e1 : gs1 = [] := List.eq_nil_of_length_eq_zero (by omega)
      have e2 : gs2 = [] := List.eq_nil_of_length_eq_zero (by omega)
      subst e1 e2 hc0
      have hr1 : rs1 = [] := List.eq_nil_of_length_eq_zero (by rw [G1.len]; rfl)
      have hr2 : rs2 = [] := List.eq_nil_of_length_eq_zero (by rw [G2.len]; rfl)
      subst hr1 hr2
      have hrun := append_head (P := P) (w := w) (ty := ty) (oa := none) (n := 0) (cap := 0) (olds := []) (m := 0) (c := cb) hT ht hu (rd w rfl n1 n2) (by simp)
      obtain ⟨H2, G2'⟩ := H.upd (S' := S) (w' := w) (h' := happ h [(a, .dead), (c, .dead), (nx, .grid e e' ([] ++ []))]) (ρ' := rset ρ nx (.grid none 0 [])) (fun d => d = a ∨ d = c ∨ d = nx) (r := none) ⟨rfl, rfl, rfl, Nat.le_refl _, fun _ _ _ => rfl⟩ (fun k e => by cases e)
        (fun d hd => ⟨hout d hd, rset_ne _ _ fun e => hd (.inr (.inr e))⟩)
        (fun d hd => by
          rcases hd with rfl | rfl | rfl
          · exact .inr (.inl (by rw [holda]; rfl))
          · exact .inr (.inl (by rw [holdc]; rfl))
          · exact .inl (by rw [hnx]; rfl))
        (fun _ h => h) (fun _ h => .inl h)
        (fun go d hd => by
          rcases hd with rfl | rfl | rfl
          · unfold HB; rw [holda]; trivial
          · unfold HB; rw [holdc]; trivial
          · unfold HB
            rw [hnew, rset_same]
            exact ⟨none, 0, [], rfl, Nat.le_refl _, fun _ => rfl, hone, G1.pos, rfl, by simp [realL, realR], fun p hp => (by cases hp), fun i g hi => (by simp at hi)⟩)
        (fun d k hd hl hk => by
          rcases hd with rfl | rfl | rfl
          · rw [holda] at hl; cases hl
          · rw [holdc] at hl; cases hl
          · rw [rset_same] at hk; simp [realL, realR] at hk)
        (fun d d2 k hd hd2 hne hl hl2 => by
          rcases hd with rfl | rfl | rfl
          · rw [holda] at hl; cases hl
          · rw [holdc] at hl; cases hl
          · rcases hd2 with rfl | rfl | rfl
            · rw [holda] at hl2; cases hl2
            · rw [holdc] at hl2; cases hl2
            · exact absurd rfl hne)
      refine ⟨.slice none 0 0, w, hrun, hn _ _ _ _ w S _ hK H2 G2' ?_⟩
      show VLc T S w (happ h [(a, .dead), (c, .dead), (nx, .grid e e' ([] ++ []))]) (rset ρ nx (.grid none 0 [])) (.ref nx) _
      simp only [VLc, hnew, vw]
      exact ⟨none, 0, [], rset_same _ _ _, rfl⟩
    | some p =>
      have hst := run_storeCells_cells (P := P) p.1 (p.2 + gs1.length) news 0 w (fun j hj => by
          have := (G1.row p rfl (gs1.length + j) (by omega)).1.some
          rwa [show p.2 + gs1.length + 0 + j = p.2 + (gs1.length + j) by omega]) (fun j hj => by
          have := (G1.row p rfl (gs1.length + j) (by omega)).2
          rwa [show p.2 + gs1.length + 0 + j = p.2 + (gs1.length + j) by omega]) (fun z hz => by
          obtain ⟨j, hj, rfl⟩ := List.getElem_of_mem hz
          exact (n2 j _ (List.getElem?_eq_getElem hj)).1)
      have hrun := append_head (P := P) (w := w) (ty := ty) (oa := some (adr p)) (n := gs1.length) (cap := cap) (olds := []) (m := gs2.length) (c := cb) (ob := ob.map adr) hT ht hu (rd w rfl n1 n2) hfit
      have hadd : (adr p).add (gs1.length * (T e).size) = ⟨p.1, p.2 + gs1.length, none⟩ := by
        rw [hone, Nat.mul_one]; exact add_lit _ _ _
      simp only [Nat.add_zero] at hst
      have hrun' : (Builtin.append_ #[t, u] ty #[.slice (some (adr p)) gs1.length cap, .slice (ob.map adr) gs2.length cb]).run P w = .ok (.slice (some (adr p)) (gs1.length + gs2.length) cap) (w.setCells p.1 (p.2 + gs1.length) news) := by
        rw [hrun]; simp only [hadd, hst, Result.andThen_ok]
      have hinn : ∀ j (hj : j < news.length), (w.setCells p.1 (p.2 + gs1.length) news).cell? ⟨p.1, p.2 + gs1.length + j, none⟩ = some news[j] := fun j hj => by
        have := World.cell?_setCells_in p.1 news (p.2 + gs1.length) w (fun k hk => by
          have := (G1.row p rfl (gs1.length + k) (by omega)).1.some
          rwa [show p.2 + (gs1.length + k) = p.2 + gs1.length + k by omega] at this) j hj
        exact this
      have houtc : ∀ k, (k < gs1.length ∨ gs1.length + news.length ≤ k) → (w.setCells p.1 (p.2 + gs1.length) news).cell? ⟨p.1, p.2 + k, none⟩ = w.cell? ⟨p.1, p.2 + k, none⟩ := fun k hk =>
        World.cell?_setCells_out p.1 news (p.2 + gs1.length) w _ fun _ _ => by show p.2 + k < p.2 + gs1.length ∨ p.2 + gs1.length + news.length ≤ p.2 + k; omega
      have hcp : p.1 ∈ realL (ρ a) ∨ cap = 0 := by
        rcases Nat.eq_zero_or_pos cap with h | h
        · exact .inr h
        · exact .inl (by rw [hra]; exact mem_grid h)
      rcases hcp with hpa | hc0
      · obtain ⟨H2, G2'⟩ := fin (w.setCells p.1 (p.2 + gs1.length) news) p cap (some p.1) (setCells_grown p.1 news _ w) (fun k hk => ⟨a, .inl rfl, hla, by cases hk; exact hpa⟩) hfit (.inl ⟨rfl, rfl⟩)
          (fun j hj => ⟨by
            by_cases hjr : gs1.length ≤ j ∧ j < gs1.length + news.length
            · have := hinn (j - gs1.length) (by omega)
              rw [show p.2 + gs1.length + (j - gs1.length) = p.2 + j by omega] at this
              exact ⟨_, this, (n2 _ _ (List.getElem?_eq_getElem (by omega))).1⟩
            · obtain ⟨u1, u2, u3⟩ := (G1.row p rfl j hj).1
              exact ⟨u1, (houtc j (by omega)).trans u2, u3⟩, by rw [World.frozen?_setCells]; exact (G1.row p rfl j hj).2⟩)
          (fun k v hk => by
            by_cases hk1 : k < olds.length
            · rw [List.getElem?_append_left hk1] at hk
              obtain ⟨_, g, p2, _, hp2, hcell, _⟩ := o2 k v hk
              cases hp2
              rw [houtc k (by omega)]; exact hcell
            · rw [List.getElem?_append_right (by omega)] at hk
              have hlt := (List.getElem?_eq_some_iff.1 hk)
              obtain ⟨hl1, hl2⟩ := hlt
              have := hinn (k - olds.length) hl1
              rw [show p.2 + gs1.length + (k - olds.length) = p.2 + k by omega] at this
              rw [this, hl2])
          (fun k hk hne => (setCells_grown p.1 news _ w).block k hk fun e => hne (by cases e; rfl))
        exact ⟨_, _, hrun', hn _ _ _ _ _ S _ hK H2 G2' (hval _ _ _)⟩
      · have e2 : gs2 = [] := List.eq_nil_of_length_eq_zero (by omega)
        have hnl : news = [] := List.eq_nil_of_length_eq_zero (by rw [n1, e2]; rfl)
        have hw : w.setCells p.1 (p.2 + gs1.length) news = w := by rw [hnl]; rfl
        rw [hw] at hrun'
        obtain ⟨H2, G2'⟩ := fin w p cap none ⟨rfl, rfl, rfl, Nat.le_refl _, fun _ _ _ => rfl⟩ (fun k e => by cases e) hfit (.inl ⟨rfl, rfl⟩) (fun j hj => by omega)
          (fun k v hk => by
            have := (List.getElem?_eq_some_iff.1 hk).1
            rw [List.length_append] at this; omega)
          (fun k hk hne => rfl)
        exact ⟨_, _, hrun', hn _ _ _ _ _ S _ hK H2 G2' (hval _ _ _)⟩
  · have rd0 : (Builtin.firstCells (T e).size gs1.length (.slice (oa.map adr) gs1.length cap)).run P w.drew = .ok olds.toArray w.drew := by
      have := rd w.drew rfl (cc := cap) o1 o2
      exact this
    have rd1 := rd w.drew rfl (cc := cb) n1 n2
    obtain ⟨cap', rest, g1, g2, g4, g3⟩ := append_grow (P := P) (w := w) (ty := ty) (oa := oa.map adr) (n := gs1.length) (cap := cap) (m := gs2.length) (c := cb) (ob := ob.map adr) hT ht hu rd0 rd1 hfit hroom hby hzo
    have hcell : ∀ j, (w.drew.alloc (.cells ((olds ++ news).toArray ++ rest) e)).cell? ⟨w.heap.size, j, none⟩ = ((olds ++ news).toArray ++ rest)[j]? := fun j => World.cell?_alloc_new w.drew _ e j
    rw [hone, Nat.mul_one] at g2
    have hsz : ((olds ++ news).toArray ++ rest).size = cap' := by simp [g2, o1, n1]; omega
    obtain ⟨H2, G2'⟩ := fin (w.drew.alloc (.cells ((olds ++ news).toArray ++ rest) e)) (w.heap.size, 0) cap' none ⟨rfl, rfl, rfl, by simp [World.alloc], fun k hk _ => heap_alloc_old w.drew _ hk⟩ (fun k e => by cases e) g1 (.inr ⟨Nat.le_refl _, by simp [World.alloc]⟩)
      (fun j hj => by
        rw [Nat.zero_add]
        have hlt : j < ((olds ++ news).toArray ++ rest).size := by omega
        refine ⟨⟨((olds ++ news).toArray ++ rest)[j], (hcell j).trans (Array.getElem?_eq_getElem hlt), ?_⟩, World.frozen?_alloc_new w.drew _ e j⟩
        have hm : ((olds ++ news).toArray ++ rest)[j] ∈ ((olds ++ news).toArray ++ rest).toList := Array.mem_toList_iff.2 (Array.getElem_mem hlt)
        rw [Array.toList_append, List.mem_append] at hm
        rcases hm with hm | hm
        · have hm : ((olds ++ news).toArray ++ rest)[j] ∈ olds ++ news := by simpa using hm
          rcases List.mem_append.1 hm with hm | hm
          · obtain ⟨i, hi, he⟩ := List.getElem_of_mem hm
            rw [← he]; exact (o2 i _ (List.getElem?_eq_getElem hi)).1
          · obtain ⟨i, hi, he⟩ := List.getElem_of_mem hm
            rw [← he]; exact (n2 i _ (List.getElem?_eq_getElem hi)).1
        · exact g4 _ hm)
      (fun k v hk => by
        rw [Nat.zero_add]
        refine (hcell k).trans ?_
        have hlt := (List.getElem?_eq_some_iff.1 hk).1
        rw [Array.getElem?_append_left (by simpa using hlt)]
        simpa using hk)
      (fun k hk hne => heap_alloc_old w.drew _ hk)
    exact ⟨_, _, g3, hn _ _ _ _ _ S _ hK H2 G2' (hval _ (w.heap.size, 0) cap')⟩


theorem gAppend_ok (hT : TabOk P T) (H : HR T Z S h ρ w) (fr : Fr h nx K) (hn : Nexts T Z S w h ρ K N) {t u ty a c : Nat} {vx vy : Value} (hx : VLt T S w h ρ (.ref a) vx) (hy : VLt T S w h ρ (.ref c) vy) (hr : gAppend T t u a c h nx K) :
    Gives P (Builtin.append_ #[t, u] ty #[vx, vy]) w N := by
  unfold gAppend at hr
  cases ht : (T t).k with
  | slice e0 =>
    cases hu : (T u).k with
    | slice e1 =>
      cases hc : h c with
      | grid e e' gs2 =>
        simp only [ht, hu, hc] at hr
        cases hk : Nat.beq e0 e && Nat.beq e1 e && Nat.ble (T e).bytes 1024 && zOk (T e).k && !(Nat.beq a c) with
        | false => rw [hk] at hr; exact hr.p.elim
        | true =>
          rw [hk] at hr
          simp only [Bool.and_eq_true, Bool.not_eq_true'] at hk
          obtain ⟨⟨⟨⟨k1, k2⟩, k3⟩, k4⟩, k5⟩ := hk
          obtain rfl := Nat.eq_of_beq_eq_true k1
          obtain rfl := Nat.eq_of_beq_eq_true k2
          have hac : a ≠ c := fun e => by rw [e, beq_self] at k5; cases k5
          have hx' : VLc T S w h ρ (.ref a) vx := hx
          have hy' : VLc T S w h ρ (.ref c) vy := hy
          simp only [VLc, hc, vw] at hy'
          obtain ⟨ob, cb, rs2, r2, rfl⟩ := hy'
          have hgl : ∀ gs : List (Bool × List AV), (gns gs).length = gs.length := fun gs => by simp [gns]
          rw [hgl]
          obtain ⟨ob2, cb2, rs22, s1, G2⟩ := H.gridAt hc
          rw [r2] at s1; cases s1
          cases ha : h a with
          | row e2 es =>
            rw [ha] at hr
            simp only at hr
            cases es with
            | cons x xs => cases Nat.beq e2 e1 <;> exact hr.p.elim
            | nil =>
              cases he : Nat.beq e2 e1 with
              | false => rw [he] at hr; exact hr.p.elim
              | true =>
                rw [he] at hr
                obtain rfl := Nat.eq_of_beq_eq_true he
                simp only [VLc, ha, vw] at hx'
                obtain ⟨oa, cap, r1, rfl⟩ := hx'
                have hnx := fr _ _ _ hr.p nx (Nat.le_refl _) (by omega)
                have h0 := H.hb a
                unfold HB at h0
                rw [ha] at h0
                obtain ⟨oa3, cap3, t1, t2, t3, t4, t5, t6⟩ := h0
                rw [r1] at t1; cases t1
                have G1 : GridAt T S w e2 e' [] oa cap [] := ⟨t2, t3, G2.one, G2.pos, rfl, by simp only [realL, List.flatMap_nil, List.append_nil]; exact realR_nodup _ _, fun p hp j hj => (t6 p hp (by omega)).2 j (by rw [G2.one, Nat.mul_one]; exact hj), fun i g hi => by simp at hi⟩
                exact gAppend_main hT H hn ht hu (Nat.le_of_ble_eq_true k3) k4 (gs1 := []) (by rw [ha]; rfl) (by rw [r1]; simp [realL]) G1 hc r2 hac hnx (by have := hr.n; simpa using this) (by simpa using hr.p)
          | grid e2 e3 gs =>
            rw [ha] at hr
            simp only at hr
            cases he : Nat.beq e2 e1 && Nat.beq e3 e' with
            | false => rw [he] at hr; exact hr.p.elim
            | true =>
              rw [he] at hr
              simp only [Bool.and_eq_true] at he
              obtain rfl := Nat.eq_of_beq_eq_true he.1
              obtain rfl := Nat.eq_of_beq_eq_true he.2
              simp only [VLc, ha, vw] at hx'
              obtain ⟨oa, cap, rs1, r1, rfl⟩ := hx'
              rw [hgl]
              have hnx := fr _ _ _ hr.p nx (Nat.le_refl _) (by omega)
              obtain ⟨oa2, cap2, rs3, s1, G1⟩ := H.gridAt ha
              rw [r1] at s1; cases s1
              exact gAppend_main hT H hn ht hu (Nat.le_of_ble_eq_true k3) k4 (by rw [ha]; rfl) (by rw [r1]) G1 hc r2 hac hnx hr.n hr.p
          | _ => rw [ha] at hr; exact hr.p.elim
      | _ => simp only [ht, hu, hc] at hr; exact hr.p.elim
    | _ => simp only [ht, hu] at hr; exact hr.p.elim
  | _ => simp only [ht] at hr; exact hr.p.elim

end
end Go.Ev
