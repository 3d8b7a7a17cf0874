/- Reading, addresses, new variables, storing. -/
import Derived.Test.YtdnelcadmoeeiaaGreatEvOp4
set_option linter.unusedVariables false
set_option linter.unusedSimpArgs false
namespace Go.Ev

section
variable {P : Program} {T : Tab} {Z : Base} {S : Nat → Prop} {w : World} {h : AHeap} {ρ : Rho} {K : AV → Ups → Nat → Prop} {nx : Nat} {N : Value → World → Prop}

theorem HR.var (H : HR T Z S h ρ w) {b : Nat} {x : AV} (hb : h b = .var x) : ∃ blk o, ρ b = .at blk o ∧ CellsAt w (VLc T S w h ρ) blk o x ∧ ∀ j, j < (cells x).length → w.frozen? ⟨blk, o + j, none⟩ = false := by
  have h0 := H.hb b
  unfold HB at h0
  rw [hb] at h0; exact h0
theorem HR.fv (H : HR T Z S h ρ w) {b : Nat} {x : AV} (hb : h b = .fv x) : ∃ blk o, ρ b = .at blk o ∧ S blk ∧ CellsAt w (VF T S w) blk o x := by
  have h0 := H.hb b
  unfold HB at h0
  rw [hb] at h0; exact h0
theorem HR.fz (H : HR T Z S h ρ w) {b e : Nat} {es : List AV} (hb : h b = .fz e es) : ∃ oa cap, ρ b = .row oa cap ∧ VF T S w (.lst e es) (.slice (oa.map adr) es.length cap) := by
  have h0 := H.hb b
  unfold HB at h0
  rw [hb] at h0; exact h0
theorem HR.map (H : HR T Z S h ρ w) {b : Nat} {kt : Nat} {es : List (AV × AV)} (hb : h b = .map kt es) : ∃ r, ρ b = .map r ∧ ∃ rs clock, w.heap[r]? = some (.map rs clock) ∧ MapRel T S w es rs.toList ∧ ∀ p ∈ es, keyOk T kt p.1 = true := by
  have h0 := H.hb b
  unfold HB at h0
  rw [hb] at h0; exact h0
theorem HR.rowAt (H : HR T Z S h ρ w) {b e : Nat} {es : List AV} (hb : h b = .row e es) {p : Nat × Nat} {cap : Nat} (hr : ρ b = .row (some p) cap) (hne : 0 < es.length) :
    0 < cap ∧ es.length ≤ cap ∧ 0 < (T e).size ∧ (∀ x ∈ es, (cells x).length = (T e).size) ∧ (∀ i x, es[i]? = some x → CellsAt w (VF T S w) p.1 (p.2 + i * (T e).size) x) ∧
    (∀ j, j < cap * (T e).size → Has w ⟨p.1, p.2 + j, none⟩ ∧ w.frozen? ⟨p.1, p.2 + j, none⟩ = false) := by
  have h0 := H.hb b
  unfold HB at h0
  rw [hb] at h0
  obtain ⟨oa, cap', h1, h2, h3, h4, h4', h5⟩ := h0
  rw [hr] at h1; cases h1
  have hc : 0 < cap := by omega
  exact ⟨hc, h2, h4'.1 hc, h4, (h5 p rfl hc).1, (h5 p rfl hc).2⟩

theorem read_ok (hT : TabOk P T) (H : HR T Z S h ρ w) {t : Nat} {x : AV} {off blk o : Nat} {V : AV → Value → Prop} (hV : ∀ c u, V c u → VLc T S w h ρ c u) {Q : AV → Prop} (hc : CellsAt w V blk o x) (hr : readAt (T t) x off Q) :
    ∃ v u, Q v ∧ (loadVar t ⟨blk, o + off, none⟩).run P w = .ok u w ∧ VLt T S w h ρ v u := by
  obtain ⟨v, u, h1, h2, h3⟩ := readAt_ok hT hc hr
  refine ⟨v, u, h1, h2, ?_⟩
  rcases h3 with ⟨cs, vs, rfl, rfl, hl, hcs⟩ | ⟨h3, _⟩
  · exact ⟨vs, rfl, hl, fun j c z a b => ⟨hV _ _ (hcs j c z a b).1, (hcs j c z a b).2⟩⟩
  · exact vlv_vlt (vlc_vlv (hV _ _ h3))

theorem load_ok (hT : TabOk P T) (H : HR T Z S h ρ w) {t : Nat} {p : AV} {u : Value} (hp : VLt T S w h ρ p u) {Q : AV → Prop}
    (hr : loadV T t p h Q) :
    ∃ v r, Q v ∧ (Instr.loadAt t u).run P w = .ok r w ∧ VLt T S w h ρ v r := by
  unfold loadV at hr
  cases p with
  | ptr b i off =>
    have hp' : VLc T S w h ρ (.ptr b i off) u := hp
    simp only [VLc] at hp'
    cases hb : h b with
    | var x =>
      simp only [hb] at hp' hr
      simp only [vw] at hp'
      obtain ⟨blk, o, h1, rfl⟩ := hp'
      obtain ⟨blk2, o2, h2, h3, _⟩ := H.var hb
      rw [h1] at h2; cases h2
      cases i with
      | succ i => exact hr.p.elim
      | zero =>
        obtain ⟨v, r, a1, a2, a3⟩ := read_ok hT H (fun _ _ h => h) h3 hr
        exact ⟨v, r, a1, by simpa [Instr.loadAt, Instr.sureAddr] using a2, a3⟩
    | fv x =>
      simp only [hb] at hp' hr
      simp only [vw] at hp'
      obtain ⟨blk, o, h1, rfl⟩ := hp'
      obtain ⟨blk2, o2, h2, _, h3⟩ := H.fv hb
      rw [h1] at h2; cases h2
      cases i with
      | succ i => exact hr.p.elim
      | zero =>
        obtain ⟨v, r, a1, a2, a3⟩ := read_ok hT H (fun _ _ h => vf_vlc h) h3 hr
        exact ⟨v, r, a1, by simpa [Instr.loadAt, Instr.sureAddr] using a2, a3⟩
    | row e es =>
      simp only [hb] at hp' hr
      simp only [vw] at hp'
      obtain ⟨q, cap, h1, h2, rfl⟩ := hp'
      obtain ⟨x, hx, hr⟩ := hr.p
      obtain ⟨_, _, _, _, h3, _⟩ := H.rowAt hb h1 (by omega)
      obtain ⟨v, r, a1, a2, a3⟩ := read_ok hT H (fun _ _ h => vf_vlc h) (h3 i x hx) hr
      exact ⟨v, r, a1, by rw [Nat.add_assoc] at a2; simpa [Instr.loadAt, Instr.sureAddr] using a2, a3⟩
    | fz e es =>
      simp only [hb] at hp' hr
      simp only [vw] at hp'
      obtain ⟨q, cap, h1, h2, rfl⟩ := hp'
      obtain ⟨x, hx, hr⟩ := hr.p
      obtain ⟨oa, cap2, h3, h4⟩ := H.fz hb
      rw [h1] at h3; cases h3
      obtain ⟨oa, cap3, e1, _, e2⟩ := h4.lst_to
      obtain ⟨q2, e3, _, _, e4⟩ := e2 (fun e => by subst e; simp at h2)
      cases e1
      obtain rfl : q = q2 := by
        simp only [Option.map_some, adr, Option.some.injEq, Addr.mk.injEq] at e3
        exact Prod.ext e3.1 e3.2.1
      obtain ⟨v, r, a1, a2, a3⟩ := read_ok hT H (fun _ _ h => vf_vlc h) (e4 i x hx) hr
      exact ⟨v, r, a1, by rw [Nat.add_assoc] at a2; simpa [Instr.loadAt, Instr.sureAddr] using a2, a3⟩
    | _ => simp only [hb] at hr; exact hr.p.elim
  | eptr x off =>
    obtain ⟨blk, o, rfl, _, h3⟩ := VF.eptr_to (show VF T S w (.eptr x off) u from hp)
    obtain ⟨v, r, a1, a2, a3⟩ := read_ok hT H (fun _ _ h => vf_vlc h) h3 hr
    exact ⟨v, r, a1, by simpa [Instr.loadAt, Instr.sureAddr] using a2, a3⟩
  | _ => exact hr.p.elim

theorem alloc_grown (w : World) (o : Obj) : w.grownBy (w.alloc o) none := World.grownBy_alloc w o none

/-- A variable's block, made. -/
theorem HR.newVar (H : HR T Z S h ρ w) (hnx : h nx = .none) {x : AV} {vs : Array Value} {t : Nat} (hl : vs.size = (cells x).length)
    (hv : ∀ (j : Nat) (c : AV) (u : Value), (cells x)[j]? = some c → vs[j]? = some u → VLc T S w h ρ c u ∧ u.oneCell' = true) :
    HR T Z S (hset h nx (.var x)) (rset ρ nx (.at w.heap.size 0)) (w.alloc (.cells vs t)) ∧ Goes T S w h ρ S (w.alloc (.cells vs t)) (hset h nx (.var x)) (rset ρ nx (.at w.heap.size 0)) := by
  refine H.new1 hnx (alloc_grown w _) _ _ (fun go => ?_) (fun _ k hk => by simp [realL] at hk; subst hk; simp)
  unfold HB
  rw [hset_same, rset_same]
  refine ⟨_, _, rfl, fun j c hc => ?_, fun j hj => by rw [Nat.zero_add]; exact World.frozen?_alloc_new w vs t j⟩
  have hj := (List.getElem?_eq_some_iff.1 hc).1
  have hu : vs[j]? = some vs[j] := Array.getElem?_eq_getElem (by omega)
  exact ⟨vs[j], by rw [Nat.zero_add, World.cell?_alloc_new]; exact hu, (hv j c _ hc hu).2, go.vlc (hv j c _ hc hu).1⟩

/-- A row's block, made. -/
theorem HR.newRow (H : HR T Z S h ρ w) (hnx : h nx = .none) {e : Nat} {es : List AV} {vs : List Value} {rest : Array Value} {t cap : Nat} (hz : 0 < (T e).size)
    (f : Flat (VF T S w) (T e).size es vs) (hcap : es.length ≤ cap) (hsz : vs.length + rest.size = cap * (T e).size) (hrest : ∀ u ∈ rest.toList, u.oneCell' = true) (w1 : World) (hw : w1.heap = w.heap) (h1 : w1.os = w.os) (h2 : w1.tape = w.tape) (h3 : w1.output = w.output) :
    HR T Z S (hset h nx (.row e es)) (rset ρ nx (.row (some (w.heap.size, 0)) cap)) (w1.alloc (.cells (vs.toArray ++ rest) t)) ∧
      Goes T S w h ρ S (w1.alloc (.cells (vs.toArray ++ rest) t)) (hset h nx (.row e es)) (rset ρ nx (.row (some (w.heap.size, 0)) cap)) := by
  refine H.new1 hnx (w' := w1.alloc (.cells (vs.toArray ++ rest) t)) ⟨h1, h2, h3, by simp [hw], fun k hk _ => (heap_alloc_old w1 _ k (by rw [hw]; exact hk)).trans (by rw [hw])⟩ (.row e es) (.row (some (w.heap.size, 0)) cap) (fun go => ?_) (fun _ k hk => by cases cap <;> simp [realL, realR] at hk; subst hk; simp [hw])
  have hcell : ∀ j, (w1.alloc (.cells (vs.toArray ++ rest) t)).cell? ⟨w.heap.size, j, none⟩ = (vs.toArray ++ rest)[j]? := fun j => by rw [← hw]; exact World.cell?_alloc_new w1 _ t j
  unfold HB
  rw [hset_same, rset_same]
  refine ⟨_, _, rfl, hcap, fun h => (by cases h), f.size, ⟨fun _ => hz, fun _ p hp _ k => by cases hp; rw [← hw]; exact World.frozen?_alloc_new w1 _ t k⟩, fun p hp hc => ?_⟩
  cases hp
  refine ⟨?_, fun j hj => ⟨?_, ?_⟩⟩
  · refine (f.mono (fun c u h => h.mono go.s go.w)).cellsAt (o := 0) fun k u hk => ?_
    rw [Nat.zero_add]
    refine (hcell k).trans ?_
    have hlt := (List.getElem?_eq_some_iff.1 hk).1
    rw [Array.getElem?_append_left (by simpa using hlt)]
    simpa using hk
  · rw [Nat.zero_add]
    have hlt : j < (vs.toArray ++ rest).size := by simp; omega
    refine ⟨(vs.toArray ++ rest)[j], (hcell j).trans (Array.getElem?_eq_getElem hlt), ?_⟩
    have hm : (vs.toArray ++ rest)[j] ∈ (vs.toArray ++ rest).toList := Array.mem_toList_iff.2 (Array.getElem_mem hlt)
    rw [Array.toList_append, List.mem_append] at hm
    exact hm.elim (fun h => f.one _ (by simpa using h)) (hrest _)
  · rw [Nat.zero_add, ← hw]; exact World.frozen?_alloc_new w1 _ t j

theorem nils_le (cs : List AV) : ∀ n, n ≤ (nils cs n).2.2 := by
  induction cs with
  | nil => intro n; exact Nat.le_refl _
  | cons c cs ih => intro n; cases c <;> simp only [nils] <;> first | exact ih n | exact Nat.le_trans (Nat.le_succ n) (ih (n + 1))
theorem nils_len (cs : List AV) : ∀ n, (nils cs n).1.length = cs.length := by
  induction cs with
  | nil => intro n; rfl
  | cons c cs ih => intro n; cases c <;> simp [nils, ih]
theorem nils_in (cs : List AV) : ∀ n, ∀ p ∈ (nils cs n).2.1, n ≤ p.1 ∧ p.1 < (nils cs n).2.2 := by
  induction cs with
  | nil => intro n p hp; simp [nils] at hp
  | cons c cs ih =>
    intro n p hp
    have := nils_le cs (n + 1)
    cases c with
    | nsl e =>
      simp only [nils, List.mem_cons] at hp ⊢
      rcases hp with rfl | hp
      · exact ⟨Nat.le_refl _, this⟩
      · have := ih (n + 1) p hp; exact ⟨by omega, this.2⟩
    | _ => exact ih n p hp

theorem var_head (v : AV) (r : List AV) (hr : r.length = (cells v).length) : cells (match v with | .agg _ => .agg r | _ => r.headD .und) = r ∨ ∃ c, r = [c] ∧ (match v with | .agg _ => AV.agg r | _ => r.headD .und) = c ∧ ∀ cs, v ≠ .agg cs := by
  cases v with
  | agg cs => exact .inl rfl
  | _ => all_goals
           simp only [cells, List.length_cons, List.length_nil] at hr
           obtain ⟨c, rfl⟩ := List.length_eq_one_iff.1 hr
           exact .inr ⟨c, rfl, rfl, fun cs => by simp⟩

end
end Go.Ev
