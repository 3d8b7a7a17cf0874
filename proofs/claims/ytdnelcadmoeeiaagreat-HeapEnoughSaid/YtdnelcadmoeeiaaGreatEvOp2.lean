/- Frozen values; reading and writing of places. -/
import Derived.Test.YtdnelcadmoeeiaaGreatEvOp1
set_option linter.unusedVariables false
set_option linter.unusedSimpArgs false
namespace Go.Ev

section
variable {T : Tab} {Z : Base} {S S' : Nat → Prop} {w w' : World} {h h' : AHeap} {ρ ρ' : Rho}

theorem VF.sub {e : Nat} {es : List AV} {oa : Option Addr} {cap i n : Nat} (H : VF T S w (.lst e es) (.slice oa es.length cap)) (hi : i + n ≤ es.length) {oa' : Option Addr} {cap' : Nat} (hc : n ≤ cap')
    (ho : n ≠ 0 → ∃ p : Nat × Nat, oa = some (adr p) ∧ oa' = some ⟨p.1, p.2 + i * (T e).size, none⟩) : VF T S w (.lst e ((es.drop i).take n)) (.slice oa' n cap') := by
  rcases Nat.eq_zero_or_pos n with rfl | hn
  · simp only [List.take_zero]; exact .nil _ _ _
  · obtain ⟨p, rfl, rfl⟩ := ho (by omega)
    generalize hv : Value.slice (some (adr p)) es.length cap = v at H
    generalize hx : AV.lst e es = x at H
    cases H with
    | nil e0 oa0 cap0 => cases hx; simp at hi; omega
    | lst e0 es0 blk off cap0 g hS hcap hz hcell h1 hvs =>
      cases hx
      simp only [adr, Value.slice.injEq, Option.some.injEq, Addr.mk.injEq] at hv
      obtain ⟨⟨rfl, rfl, _⟩, _, _⟩ := hv
      have hlen : ((es.drop i).take n).length = n := by simp; omega
      have hget : ∀ (k : Nat) (x : AV), ((es.drop i).take n)[k]? = some x → es[i + k]? = some x := by
        intro k x hk
        rw [List.getElem?_take] at hk
        split at hk
        · simpa [List.getElem?_drop] using hk
        · cases hk
      have := VF.lst (T := T) (S := S) (w := w) e ((es.drop i).take n) p.1 (p.2 + i * (T e).size) cap' (fun k j => g (i + k) j) hS (by rw [hlen]; exact hc)
        (fun x hx => hz x (List.mem_of_mem_drop (List.mem_of_mem_take hx)))
        (fun k x j c a b => by rw [← hcell (i + k) x j c (hget k x a) b]; congr 2; rw [Nat.add_mul]; omega)
        (fun k x j c a b => h1 (i + k) x j c (hget k x a) b) (fun k x j c a b => hvs (i + k) x j c (hget k x a) b)
      rw [hlen] at this; exact this
    | und => cases hx
    | skp => cases hx
    | int => cases hx
    | bool => cases hx
    | str => cases hx
    | npt => cases hx
    | nmp => cases hx
    | nsl => cases hx
    | agg => cases hx
    | eptr => cases hx
    | fn => cases hx

theorem VF.sub0 {e : Nat} {es : List AV} {oa : Option (Nat × Nat)} {cap n : Nat} (H : VF T S w (.lst e es) (.slice (oa.map adr) es.length cap)) (hi : n ≤ es.length) :
    VF T S w (.lst e ((es.drop 0).take n)) (.slice (oa.map adr) n n) := by
  refine H.sub (by omega) (Nat.le_refl _) fun hn => ?_
  generalize hv : Value.slice (oa.map adr) es.length cap = v at H
  generalize hx : AV.lst e es = x at H
  cases H with
  | nil e0 oa0 cap0 => cases hx; simp at hi; omega
  | lst e0 es0 blk off cap0 g hS hcap hz hcell h1 hvs =>
    cases hx
    simp only [Value.slice.injEq] at hv
    obtain ⟨h2, _, _⟩ := hv
    cases oa with
    | none => cases h2
    | some p => exact ⟨p, rfl, by simp [adr]⟩
  | und => cases hx
  | skp => cases hx
  | int => cases hx
  | bool => cases hx
  | str => cases hx
  | npt => cases hx
  | nmp => cases hx
  | nsl => cases hx
  | agg => cases hx
  | eptr => cases hx
  | fn => cases hx

theorem VF.eptr_of {x : AV} {off blk o : Nat} (hS : S blk) (hc : CellsAt w (VF T S w) blk o x) : VF T S w (.eptr x off) (.pointer (some ⟨blk, o + off, none⟩)) :=
  .eptr x off blk o (fun j => (w.cell? ⟨blk, o + j, none⟩).getD undef) hS (fun j c hj => by obtain ⟨u, h1, _, _⟩ := hc j c hj; rw [h1]; rfl)
    (fun j c hj => by obtain ⟨u, h1, h2, _⟩ := hc j c hj; rw [h1]; exact h2) (fun j c hj => by obtain ⟨u, h1, _, h3⟩ := hc j c hj; rw [h1]; exact h3)
theorem VF.eptr_to {x : AV} {off : Nat} {v : Value} (H : VF T S w (.eptr x off) v) : ∃ blk o, v = .pointer (some ⟨blk, o + off, none⟩) ∧ S blk ∧ CellsAt w (VF T S w) blk o x := by
  cases H with
  | eptr x off blk o g hS hc h1 hv => exact ⟨blk, o, rfl, hS, fun j c hj => ⟨g j, hc j c hj, h1 j c hj, hv j c hj⟩⟩
theorem VF.lst_to {e : Nat} {es : List AV} {v : Value} (H : VF T S w (.lst e es) v) : ∃ oa cap, v = .slice oa es.length cap ∧ (es ≠ [] → es.length ≤ cap) ∧ (es ≠ [] → ∃ p : Nat × Nat, oa = some (adr p) ∧ S p.1 ∧
    (∀ x ∈ es, (cells x).length = (T e).size) ∧ ∀ i x, es[i]? = some x → CellsAt w (VF T S w) p.1 (p.2 + i * (T e).size) x) := by
  cases H with
  | nil e oa cap => exact ⟨oa, cap, rfl, fun h => absurd rfl h, fun h => absurd rfl h⟩
  | lst e es blk off cap g hS hcap hz hc h1 hv =>
    exact ⟨_, cap, rfl, fun _ => hcap, fun _ => ⟨(blk, off), rfl, hS, hz, fun i x hi j c hj => ⟨g i j, by rw [← hc i x j c hi hj]; congr 2; show off + i * _ + j = _; omega, h1 i x j c hi hj, hv i x j c hi hj⟩⟩⟩

/-- What was frozen out of a cell. -/
structure FzOk (T : Tab) (Z : Base) (S : Nat → Prop) (w : World) (h : AHeap) (ρ : Rho) (us : Ups) (x : AV) (v : Value) : Prop where
  u : FzUps h us
  v : ∀ S' h', HR T Z S' h' ρ w → Goes T S w h ρ S' w h' ρ → (∀ p ∈ us, h' p.1 = p.2) → VF T S' w x v

theorem fzc_ok (H : HR T Z S h ρ w) {c : AV} {v : Value} (hv : VLc T S w h ρ c v) : FzOk T Z S w h ρ (fzc h c).2 (fzc h c).1 v := by
  have nothing : ∀ x, VF T S w x v → FzOk T Z S w h ρ [] x v := fun x hx => ⟨fun p hp => by simp at hp, fun S' h' _ G _ => hx.mono G.s G.w⟩
  have undef' : FzOk T Z S w h ρ [] .und v := nothing _ (.und v)
  cases c with
  | ref b =>
    cases hb : h b with
    | row e es =>
      simp only [VLc, hb, vw] at hv
      obtain ⟨oa, cap, h1, rfl⟩ := hv
      simp only [fzc, hb]
      refine ⟨fun p hp => ?_, fun S' h' H' G hu => ?_⟩
      · simp at hp; subst hp; exact .inl ⟨e, es, hb, rfl⟩
      · have := H'.hb b
        unfold HB at this
        rw [hu _ (List.mem_singleton_self _)] at this
        obtain ⟨oa2, cap2, h2, h3⟩ := this
        rw [h1] at h2; cases h2; exact h3
    | fz e es =>
      simp only [VLc, hb, vw] at hv
      obtain ⟨oa, cap, h1, rfl⟩ := hv
      simp only [fzc, hb]
      have := H.hb b
      unfold HB at this
      rw [hb] at this
      obtain ⟨oa2, cap2, h2, h3⟩ := this
      rw [h1] at h2; cases h2
      exact nothing _ h3
    | grid e e' gs =>
      simp only [VLc, hb, vw] at hv
      obtain ⟨oa, cap, rs, h1, rfl⟩ := hv
      simp only [fzc, hb]
      refine ⟨fun p hp => ?_, fun S' h' H' G hu => ?_⟩
      · simp at hp; subst hp; exact .inr (.inr ⟨e, e', gs, hb, rfl⟩)
      · have := H'.hb b
        unfold HB at this
        rw [hu _ (List.mem_singleton_self _)] at this
        obtain ⟨oa2, cap2, rs2, h2, h3⟩ := this
        rw [h1] at h2; cases h2
        simp only [gns, List.length_map] at h3 ⊢
        exact h3
    | _ => simp only [fzc, hb]; exact undef'
  | sub b i n =>
    cases hb : h b with
    | row e es =>
      simp only [VLc, hb, vw] at hv
      obtain ⟨oa, cap, oa', h1, h2, rfl, h3⟩ := hv
      simp only [fzc, hb]
      refine ⟨fun p hp => ?_, fun S' h' H' G hu => ?_⟩
      · simp at hp; subst hp; exact .inl ⟨e, es, hb, rfl⟩
      · have h0 := H'.hb b
        unfold HB at h0
        rw [hu _ (List.mem_singleton_self _)] at h0
        obtain ⟨oa2, cap2, r2, r3⟩ := h0
        rw [h1] at r2; cases r2
        have hcap : es.length ≤ cap := by
          have := H.hb b
          unfold HB at this
          rw [hb] at this
          obtain ⟨_, _, s1, s2, _⟩ := this
          rw [h1] at s1; cases s1; exact s2
        exact r3.sub h2 (by omega) fun hn => by obtain ⟨p, e1, e2⟩ := h3 (by omega); exact ⟨p, by rw [e1]; rfl, e2⟩
    | fz e es =>
      simp only [VLc, hb, vw] at hv
      obtain ⟨oa, cap, oa', h1, h2, rfl, h3⟩ := hv
      simp only [fzc, hb]
      have h0 := H.hb b
      unfold HB at h0
      rw [hb] at h0
      obtain ⟨oa2, cap2, r2, r3⟩ := h0
      rw [h1] at r2; cases r2
      refine nothing _ ?_
      rcases Nat.eq_zero_or_pos n with rfl | hn
      · simp only [List.take_zero]; exact .nil _ _ _
      · obtain ⟨_, _, s1, s2, _⟩ := r3.lst_to
        simp at s1
        have hne : es ≠ [] := fun e => by subst e; simp at h2; omega
        have := s2 hne
        rw [← s1.2] at this
        exact r3.sub h2 (by omega) fun hn => by obtain ⟨p, e1, e2⟩ := h3 (by omega); exact ⟨p, by rw [e1]; rfl, e2⟩
    | _ => simp only [fzc, hb]; exact undef'
  | fsub b n =>
    have take0 : ∀ es : List AV, es.take n = (es.drop 0).take n := fun es => by simp
    cases hb : h b with
    | row e es =>
      simp only [VLc, hb, vw] at hv
      obtain ⟨oa, cap, h1, h2, rfl⟩ := hv
      simp only [fzc, hb]
      refine ⟨fun p hp => ?_, fun S' h' H' G hu => ?_⟩
      · simp at hp; subst hp; exact .inl ⟨e, es, hb, rfl⟩
      · have h0 := H'.hb b
        unfold HB at h0
        rw [hu _ (List.mem_singleton_self _)] at h0
        obtain ⟨oa2, cap2, r2, r3⟩ := h0
        rw [h1] at r2; cases r2
        rw [take0]
        exact r3.sub0 h2
    | fz e es =>
      simp only [VLc, hb, vw] at hv
      obtain ⟨oa, cap, h1, h2, rfl⟩ := hv
      simp only [fzc, hb]
      have h0 := H.hb b
      unfold HB at h0
      rw [hb] at h0
      obtain ⟨oa2, cap2, r2, r3⟩ := h0
      rw [h1] at r2; cases r2
      refine nothing _ ?_
      rw [take0]
      exact r3.sub0 h2
    | _ => simp only [fzc, hb]; exact undef'
  | ptr b i off =>
    cases i with
    | succ i => simp only [fzc]; exact undef'
    | zero =>
    cases hb : h b with
    | var x =>
      simp only [VLc, hb, vw] at hv
      obtain ⟨blk, o, h1, rfl⟩ := hv
      simp only [fzc, hb]
      cases hx : (cells x).all isFz with
      | false => exact undef'
      | true =>
        refine ⟨fun p hp => ?_, fun S' h' H' G hu => ?_⟩
        · simp at hp; subst hp; exact .inr (.inl ⟨x, hb, rfl, hx⟩)
        · have h0 := H'.hb b
          unfold HB at h0
          rw [hu _ (List.mem_singleton_self _)] at h0
          obtain ⟨blk2, o2, r2, r3, r4⟩ := h0
          rw [h1] at r2; cases r2
          exact VF.eptr_of r3 r4
    | fv x =>
      simp only [VLc, hb, vw] at hv
      obtain ⟨blk, o, h1, rfl⟩ := hv
      simp only [fzc, hb]
      have h0 := H.hb b
      unfold HB at h0
      rw [hb] at h0
      obtain ⟨blk2, o2, r2, r3, r4⟩ := h0
      rw [h1] at r2; cases r2
      exact nothing _ (VF.eptr_of r3 r4)
    | _ => simp only [fzc, hb]; exact undef'
  | nsl e =>
    have hv' : VF T S w (.nsl e) v := hv
    cases hv'; exact nothing _ (.nil _ _ _)
  | mp b => exact undef'
  | gref b i => exact undef'
  | gptr b i j off => exact undef'
  | agg cs => exact undef'
  | tup xs => exact undef'
  | fn f caps => exact undef'
  | _ => exact nothing _ hv

theorem FzUps.append {u v : Ups} (a : FzUps h u) (b : FzUps h v) : FzUps h (u ++ v) := fun p hp => (List.mem_append.1 hp).elim (a p) (b p)

theorem fzl_ok (H : HR T Z S h ρ w) : ∀ {cs : List AV} {vs : List Value}, (∀ (j : Nat) (c : AV) (u : Value), cs[j]? = some c → vs[j]? = some u → VLc T S w h ρ c u) →
    vs.length = cs.length → (fzl h cs).1.length = cs.length ∧ FzUps h (fzl h cs).2 ∧
    ∀ S' h', HR T Z S' h' ρ w → Goes T S w h ρ S' w h' ρ → (∀ p ∈ (fzl h cs).2, h' p.1 = p.2) → ∀ (j : Nat) (c : AV) (u : Value), (fzl h cs).1[j]? = some c → vs[j]? = some u → VF T S' w c u
  | [], _, _, _ => ⟨rfl, fun p hp => by simp [fzl] at hp, fun _ _ _ _ _ j c u hc => by simp [fzl] at hc⟩
  | c :: cs, [], _, hl => by simp at hl
  | c :: cs, v :: vs, hv, hl => by
    have ih := fzl_ok H (cs := cs) (vs := vs) (fun j c u a b => hv (j + 1) c u (by simpa using a) (by simpa using b)) (by simpa using hl)
    have h0 := fzc_ok H (hv 0 c v rfl rfl)
    refine ⟨by simp [fzl, ih.1], h0.u.append ih.2.1, fun S' h' H' G hu j c' u hc hu' => ?_⟩
    cases j with
    | zero => simp [fzl] at hc hu'; subst hc hu'; exact h0.v S' h' H' G fun p hp => hu p (List.mem_append.2 (.inl hp))
    | succ j => exact ih.2.2 S' h' H' G (fun p hp => hu p (List.mem_append.2 (.inr hp))) j c' u (by simpa [fzl] using hc) (by simpa using hu')

theorem fzv_ok (H : HR T Z S h ρ w) {c : AV} {v : Value} (hv : VLv T S w h ρ c v) : FzOk T Z S w h ρ (fzv h c).2 (fzv h c).1 v := by
  cases c with
  | agg cs =>
    obtain ⟨vs, rfl, hl, hc⟩ := hv
    have := fzl_ok H (cs := cs) (vs := vs.toList) (fun j c u a b => (hc j c u a (by simpa using b)).1) (by simpa using hl)
    refine ⟨this.2.1, fun S' h' H' G hu => ?_⟩
    refine .agg _ vs (by rw [this.1]; exact hl) (fun j c u a b => ?_) (fun j c u a b => this.2.2 S' h' H' G hu j c u a (by simpa using b))
    have hj : j < cs.length := by
      have := (List.getElem?_eq_some_iff.1 a).1
      rw [fzl_ok H (cs := cs) (vs := vs.toList) (fun j c u a b => (hc j c u a (by simpa using b)).1) (by simpa using hl) |>.1] at this; exact this
    exact (hc j _ u (List.getElem?_eq_getElem hj) b).2
  | fn f caps =>
    obtain ⟨vs, rfl, hl, hc⟩ := hv
    have := fzl_ok H (cs := caps) (vs := vs.toList) (fun j c u a b => hc j c u a (by simpa using b)) (by simpa using hl)
    exact ⟨this.2.1, fun S' h' H' G hu => .fn f _ vs (by rw [this.1]; exact hl) (fun j c u a b => this.2.2 S' h' H' G hu j c u a (by simpa using b))⟩
  | _ => simp only [VLv] at hv; exact fzc_ok H hv

theorem fzs_ok (H : HR T Z S h ρ w) : ∀ {cs : List AV} {vs : List Value}, (∀ (j : Nat) (c : AV) (u : Value), cs[j]? = some c → vs[j]? = some u → VLv T S w h ρ c u) →
    vs.length = cs.length → (fzs h cs).1.length = cs.length ∧ FzUps h (fzs h cs).2 ∧
    ∀ S' h', HR T Z S' h' ρ w → Goes T S w h ρ S' w h' ρ → (∀ p ∈ (fzs h cs).2, h' p.1 = p.2) → ∀ (j : Nat) (c : AV) (u : Value), (fzs h cs).1[j]? = some c → vs[j]? = some u → VF T S' w c u
  | [], _, _, _ => ⟨rfl, fun p hp => by simp [fzs] at hp, fun _ _ _ _ _ j c u hc => by simp [fzs] at hc⟩
  | c :: cs, [], _, hl => by simp at hl
  | c :: cs, v :: vs, hv, hl => by
    have ih := fzs_ok H (cs := cs) (vs := vs) (fun j c u a b => hv (j + 1) c u (by simpa using a) (by simpa using b)) (by simpa using hl)
    have h0 := fzv_ok H (hv 0 c v rfl rfl)
    refine ⟨by simp [fzs, ih.1], h0.u.append ih.2.1, fun S' h' H' G hu j c' u hc hu' => ?_⟩
    cases j with
    | zero => simp [fzs] at hc hu'; subst hc hu'; exact h0.v S' h' H' G fun p hp => hu p (List.mem_append.2 (.inl hp))
    | succ j => exact ih.2.2 S' h' H' G (fun p hp => hu p (List.mem_append.2 (.inr hp))) j c' u (by simpa [fzs] using hc) (by simpa using hu')

/-- Freezing gives a state in which the frozen values lie where nobody writes. -/
theorem FzOk.go (H : HR T Z S h ρ w) {us : Ups} {x : AV} {v : Value} (f : FzOk T Z S w h ρ us x v) :
    ∃ S', HR T Z S' (happ h us) ρ w ∧ Goes T S w h ρ S' w (happ h us) ρ ∧ VF T S' w x v := by
  obtain ⟨S', H', G⟩ := H.freeze f.u
  refine ⟨S', H', G, f.v S' _ H' G fun p hp => happ_mem ⟨p, hp, rfl⟩ fun q hq e => ?_⟩
  rcases f.u p hp with ⟨a, b, h1, h2⟩ | ⟨a, h1, h2, _⟩ | ⟨a, b, c0, h1, h2⟩ <;> rcases f.u q hq with ⟨c, d, h3, h4⟩ | ⟨c, h3, h4, _⟩ | ⟨c, d, d0, h3, h4⟩ <;> rw [e, h1] at h3 <;> cases h3 <;> rw [h2, h4]
theorem FzUps.same {us : Ups} (f : FzUps h us) : ∀ p ∈ us, happ h us p.1 = p.2 := fun p hp => happ_mem ⟨p, hp, rfl⟩ fun q hq e => by
  rcases f p hp with ⟨a, b, h1, h2⟩ | ⟨a, h1, h2, _⟩ | ⟨a, b, c0, h1, h2⟩ <;> rcases f q hq with ⟨c, d, h3, h4⟩ | ⟨c, h3, h4, _⟩ | ⟨c, d, d0, h3, h4⟩ <;> rw [e, h1] at h3 <;> cases h3 <;> rw [h2, h4]

/-- Reading a place. -/
theorem readAt_ok {P : Program} (hT : TabOk P T) {t : Nat} {x : AV} {off blk o : Nat} {V : AV → Value → Prop} {K : AV → Prop} (hc : CellsAt w V blk o x) (hr : readAt (T t) x off K) :
    ∃ v u, K v ∧ (loadVar t ⟨blk, o + off, none⟩).run P w = .ok u w ∧
      ((∃ cs vs, v = .agg cs ∧ u = .agg vs ∧ vs.size = cs.length ∧ ∀ (j : Nat) (c : AV) (z : Value), cs[j]? = some c → vs[j]? = some z → V c z ∧ z.oneCell' = true) ∨ (V v u ∧ u.oneCell' = true)) := by
  unfold readAt at hr
  cases hk : kOk (T t).k with
  | false => rw [hk] at hr; exact hr.p.elim
  | true =>
    rw [hk] at hr
    have hag := hT.isAgg w hk
    cases ha : (T t).agg with
    | true =>
      rw [ha] at hr
      cases hl : Nat.ble (off + (T t).size) (cells x).length with
      | false => simp only [hl] at hr; exact hr.p.elim
      | true =>
        simp only [hl] at hr
        have hlen : off + (T t).size ≤ (cells x).length := Nat.le_of_ble_eq_true hl
        have hrun := run_loadCells (P := P) w ⟨blk, o + off, none⟩ (T t).size (fun j => (w.cell? ⟨blk, o + (off + j), none⟩).getD undef) (fun j hj => by
          obtain ⟨u, h1, _, _⟩ := hc (off + j) _ (List.getElem?_eq_getElem (by omega))
          have : (⟨blk, o + off, none⟩ : Addr).add j = ⟨blk, o + (off + j), none⟩ := by unfold Addr.add; split <;> simp_all <;> omega
          rw [this, h1]; rfl)
        refine ⟨_, .agg (((List.range (T t).size).map fun j => (w.cell? ⟨blk, o + (off + j), none⟩).getD undef).toArray), hr, ?_, .inl ⟨_, _, rfl, rfl, ?_, ?_⟩⟩
        · simp only [loadVar, Sem.run_bind, hag, ha, Result.andThen_ok, if_true, hT.sizeOf w hk, hrun, Sem.run_pure]
        · simp; omega
        · intro j c z h1 h2
          have hj : j < (T t).size := by
            have := (Array.getElem?_eq_some_iff.1 h2).1; simpa using this
          simp [hj] at h2
          rw [List.getElem?_take, if_pos hj, List.getElem?_drop] at h1
          obtain ⟨u, a1, a2, a3⟩ := hc (off + j) c h1
          rw [a1] at h2; simp at h2; subst h2
          exact ⟨a3, a2⟩
    | false =>
      rw [ha] at hr
      simp only at hr
      cases hx : (cells x)[off]? with
      | none => rw [hx] at hr; exact hr.p.elim
      | some c =>
        rw [hx] at hr
        obtain ⟨u, a1, a2, a3⟩ := hc off c hx
        have hK : K c := by simp only [force] at hr; cases c <;> exact hr
        refine ⟨c, u, hK, ?_, .inr ⟨a3, a2⟩⟩
        simp only [loadVar, Sem.run_bind, hag, ha, Result.andThen_ok, Bool.false_eq_true, if_false, run_load, a1]

end
end Go.Ev
