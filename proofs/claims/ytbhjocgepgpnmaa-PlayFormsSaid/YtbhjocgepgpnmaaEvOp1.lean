/- What the steps of the abstract run do to a world: new blocks, what is frozen, what is read. -/
import Derived.Test.YtbhjocgepgpnmaaEvTab
set_option linter.unusedVariables false
set_option linter.unusedSimpArgs false
namespace Go.Ev

def rset (ρ : Rho) (b : Nat) (l : Loc) : Rho := fun j => bif Nat.beq j b then l else ρ j
theorem force_eq (v : AV) (K : AV → Prop) : force v K = K v := by cases v <;> rfl
theorem forceN_eq (n : Nat) (K : Nat → Prop) : forceN n K = K n := by unfold forceN; split <;> rfl
theorem forceL_eq (l : List Nat) (K : List Nat → Prop) : forceL l K = K l := by
  induction l generalizing K with
  | nil => rfl
  | cons b l ih => unfold forceL; rw [forceN_eq, ih]
theorem forceC_eq (l : List AV) (K : List AV → Prop) : forceC l K = K l := by
  induction l generalizing K with
  | nil => rfl
  | cons b l ih => unfold forceC; rw [force_eq, ih]
theorem forceV_eq (v : AV) (K : AV → Prop) : forceV v K = K v := by
  unfold forceV
  rw [force_eq]
  cases v <;> first | rfl | exact forceC_eq _ _
theorem forceVs_eq (l : List AV) (K : List AV → Prop) : forceVs l K = K l := by
  induction l generalizing K with
  | nil => rfl
  | cons b l ih => unfold forceVs; rw [forceV_eq, ih]
theorem forceT_eq (v : AV) (K : AV → Prop) : forceT v K = K v := by
  unfold forceT
  rw [forceV_eq]
  cases v <;> first | rfl | exact forceVs_eq _ _
theorem forceB_eq (x : Blk) (K : Blk → Prop) : forceB x K = K x := by
  cases x <;> simp only [forceB, forceV_eq, forceN_eq]
theorem forceU_eq (us : Ups) (K : Ups → Prop) : forceU us K = K us := by
  induction us generalizing K with
  | nil => rfl
  | cons p us ih => obtain ⟨b, x⟩ := p; unfold forceU; rw [forceN_eq, forceB_eq, ih]
theorem forceR_eq (v : AV) (us : Ups) (nx : Nat) (K : AV → Ups → Nat → Prop) : forceR v us nx K = K v us nx := by
  unfold forceR; rw [forceT_eq, forceU_eq, forceN_eq]
theorem beq_self (b : Nat) : Nat.beq b b = true := Nat.beq_refl b
theorem beq_ne {a b : Nat} (h : a ≠ b) : Nat.beq a b = false := by
  cases hb : Nat.beq a b with
  | false => rfl
  | true => exact absurd (Nat.eq_of_beq_eq_true hb) h
@[simp] theorem hset_same (h : AHeap) (b : Nat) (x : Blk) : hset h b x b = x := by simp [hset]
theorem hset_ne (h : AHeap) {b c : Nat} (x : Blk) (hn : c ≠ b) : hset h b x c = h c := by simp [hset, beq_ne hn]
@[simp] theorem rset_same (ρ : Rho) (b : Nat) (x : Loc) : rset ρ b x b = x := by simp [rset]
theorem rset_ne (ρ : Rho) {b c : Nat} (x : Loc) (hn : c ≠ b) : rset ρ b x c = ρ c := by simp [rset, beq_ne hn]
theorem happ_append (h : AHeap) (u v : Ups) : happ h (u ++ v) = happ (happ h u) v := by
  induction u generalizing h with
  | nil => rfl
  | cons p u ih => exact ih _
theorem happ_none {h : AHeap} {u : Ups} {b : Nat} (hb : ∀ p ∈ u, p.1 ≠ b) : happ h u b = h b := by
  induction u generalizing h with
  | nil => rfl
  | cons p u ih =>
    rw [happ, ih (fun q hq => hb q (by simp [hq])), hset_ne _ _ (Ne.symm (hb p (by simp)))]
theorem happ_mem {h : AHeap} {u : Ups} {b : Nat} {x : Blk} (hb : ∃ p ∈ u, p.1 = b) (hx : ∀ p ∈ u, p.1 = b → p.2 = x) : happ h u b = x := by
  induction u generalizing h with
  | nil => obtain ⟨p, hp, _⟩ := hb; simp at hp
  | cons p u ih =>
    rw [happ]
    rcases Classical.em (∃ q ∈ u, q.1 = b) with hq | hq
    · exact ih hq fun q hq' => hx q (by simp [hq'])
    · rw [happ_none (fun q hq' e => hq ⟨q, hq', e⟩)]
      obtain ⟨q, hq', e⟩ := hb
      rcases List.mem_cons.1 hq' with rfl | hq'
      · subst e; rw [hset_same]; exact hx q (by simp) rfl
      · exact absurd ⟨q, hq', e⟩ hq

section
variable {T : Tab} {Z : Base} {S S' : Nat → Prop} {w w' : World} {h h' : AHeap} {ρ ρ' : Rho}

/-- A new block. -/
theorem HR.new1 (H : HR T Z S h ρ w) {nx : Nat} (hnx : h nx = .none) (g : w.grownBy w' none) (B : Blk) (l : Loc)
    (hB : Goes T S w h ρ S w' (hset h nx B) (rset ρ nx l) → HB T S w' (hset h nx B) (rset ρ nx l) nx)
    (hl : isLive B = true → ∀ k, k ∈ realL l → w.heap.size ≤ k ∧ k < w'.heap.size) :
    HR T Z S (hset h nx B) (rset ρ nx l) w' ∧ Goes T S w h ρ S w' (hset h nx B) (rset ρ nx l) := by
  refine H.upd (fun b => b = nx) g (fun k e => by cases e) (fun b hb => ⟨hset_ne _ _ hb, rset_ne _ _ hb⟩) (fun b hb => ?_) (fun _ h => h) (fun _ h => .inl h) (fun go b hb => ?_) (fun b k hb hl' hk => ?_) (fun b c k hb hc hne => absurd (hb.trans hc.symm) hne)
  · subst hb; exact .inl (by rw [hnx]; rfl)
  · subst hb; exact hB go
  · subst hb
    simp only [hset_same, rset_same] at hl' hk
    have := hl hl' k hk
    exact ⟨.inl this, fun hs => by have := H.sS k hs; omega⟩

/-- A row of nothing. -/
theorem HR.row0 (H : HR T Z S h ρ w) {nx : Nat} (hnx : h nx = .none) (e : Nat) (oa : Option (Nat × Nat)) :
    HR T Z S (hset h nx (.row e [])) (rset ρ nx (.row oa 0)) w ∧ Goes T S w h ρ S w (hset h nx (.row e [])) (rset ρ nx (.row oa 0)) := by
  refine H.new1 hnx ⟨rfl, rfl, rfl, Nat.le_refl _, fun _ _ _ => rfl⟩ _ _ (fun _ => ?_) (fun _ k hk => by cases oa <;> simp [realL, realR] at hk)
  unfold HB
  rw [hset_same, rset_same]
  exact ⟨oa, 0, rfl, Nat.le_refl _, fun _ => rfl, fun x hx => by simp at hx, ⟨fun h => by omega, fun _ p _ h => by omega⟩, fun p _ h => by omega⟩

theorem isFz_vf {c : AV} {v : Value} (hc : isFz c = true) (hv : VLc T S w h ρ c v) : VF T S w c v := by
  cases c <;> first | exact hv | (simp [isFz] at hc)

theorem nils_ok {cs : List AV} {vs : List Value} : ∀ {nx : Nat} {h : AHeap} {ρ : Rho}, HR T Z S h ρ w → (∀ b, nx ≤ b → b < (nils cs nx).2.2 → h b = .none) →
    (vs.length = cs.length) → (∀ (j : Nat) (c : AV) (u : Value), cs[j]? = some c → vs[j]? = some u → VLc T S w h ρ c u) →
    ∃ ρ', HR T Z S (happ h (nils cs nx).2.1) ρ' w ∧ Goes T S w h ρ S w (happ h (nils cs nx).2.1) ρ' ∧ (nils cs nx).1.length = cs.length ∧ nx ≤ (nils cs nx).2.2 ∧
      (∀ p ∈ (nils cs nx).2.1, nx ≤ p.1 ∧ p.1 < (nils cs nx).2.2) ∧
      (∀ (j : Nat) (c : AV) (u : Value), (nils cs nx).1[j]? = some c → vs[j]? = some u → VLc T S w (happ h (nils cs nx).2.1) ρ' c u) := by
  induction cs generalizing vs with
  | nil => intro nx h ρ H _ _ _; exact ⟨ρ, H, Goes.refl .., rfl, Nat.le_refl _, fun p hp => by simp [nils] at hp, fun j c u hc => by simp [nils] at hc⟩
  | cons c cs ih =>
    intro nx h ρ H hf hl hv
    cases vs with
    | nil => simp at hl
    | cons v vs =>
      have hv' : ∀ (j : Nat) (c : AV) (u : Value), cs[j]? = some c → vs[j]? = some u → VLc T S w h ρ c u := fun j c u h1 h2 => hv (j + 1) c u (by simpa using h1) (by simpa using h2)
      rcases Classical.em (∃ e, c = .nsl e) with ⟨e, rfl⟩ | hn
      · have hmono : nx + 1 ≤ (nils cs (nx + 1)).2.2 := by
          have : ∀ (cs : List AV) (n : Nat), n ≤ (nils cs n).2.2 := by
            intro cs
            induction cs with
            | nil => intro n; exact Nat.le_refl _
            | cons c cs ih => intro n; cases c <;> simp only [nils] <;> first | exact ih n | exact Nat.le_trans (Nat.le_succ n) (ih (n + 1))
          exact this cs (nx + 1)
        simp only [nils] at hf ⊢
        have hnx : h nx = .none := hf nx (Nat.le_refl _) (by omega)
        have hvv : v = .slice none 0 0 := by
          have := hv 0 (.nsl e) v rfl rfl
          simp only [VLc] at this
          cases this; rfl
        -- the others first, then this one
        obtain ⟨H1, G1⟩ := H.row0 hnx e none
        obtain ⟨ρ', H2, G2, h3, h4, h5, h6⟩ := ih (vs := vs) (nx := nx + 1) H1 (fun b hb hb' => by rw [hset_ne _ _ (by omega)]; exact hf b (by omega) hb') (by simpa using hl) (fun j c u a b => G1.vlc (hv' j c u a b))
        have hcomm : happ h ((nils cs (nx + 1)).2.1) = happ h ((nils cs (nx + 1)).2.1) := rfl
        refine ⟨ρ', ?_, ?_, by simp [h3], by omega, ?_, ?_⟩
        · exact H2
        · exact G1.trans G2
        · intro p hp
          rcases List.mem_cons.1 hp with rfl | hp
          · exact ⟨Nat.le_refl _, by omega⟩
          · have := h5 p hp; exact ⟨by omega, this.2⟩
        · intro j c u hc hu
          cases j with
          | zero =>
            simp at hc hu; subst hc hu; subst hvv
            have hb : vw (happ (hset h nx (.row e [])) (nils cs (nx + 1)).2.1 nx) = .row e 0 ∧ ρ' nx = .row none 0 := by
              rcases (G2.b nx).flat (fun e e' ns hq => by rw [happ_none (fun p hp => by have := (h5 p hp).1; omega), hset_same] at hq; cases hq) with hb | hb | hb
              · rw [hset_same] at hb; cases hb
              · rw [happ_none (fun p hp => by have := (h5 p hp).1; omega), hset_same] at hb; cases hb
              · rw [hset_same, rset_same] at hb; exact hb
            show VLc T S w (happ (hset h nx (.row e [])) (nils cs (nx + 1)).2.1) ρ' (.ref nx) _
            simp only [VLc, hb.1]
            exact ⟨none, 0, hb.2, rfl⟩
          | succ j => exact h6 j c u (by simpa using hc) (by simpa using hu)
      · have hstep : nils (c :: cs) nx = (c :: (nils cs nx).1, (nils cs nx).2.1, (nils cs nx).2.2) := by
          cases c <;> first | rfl | exact absurd ⟨_, rfl⟩ hn
        rw [hstep] at hf ⊢
        obtain ⟨ρ', H2, G2, h3, h4, h5, h6⟩ := ih (vs := vs) H hf (by simpa using hl) hv'
        refine ⟨ρ', H2, G2, by simp [h3], h4, h5, fun j c' u hc hu => ?_⟩
        cases j with
        | zero => simp at hc hu; subst hc hu; exact G2.vlc (hv 0 _ _ rfl rfl)
        | succ j => exact h6 j c' u (by simpa using hc) (by simpa using hu)

/-- What freezing turns. -/
def FzUps (h : AHeap) (us : Ups) : Prop := ∀ p ∈ us, (∃ e es, h p.1 = .row e es ∧ p.2 = .fz e es) ∨ (∃ x, h p.1 = .var x ∧ p.2 = .fv x ∧ (cells x).all isFz = true) ∨
  (∃ e e' gs, h p.1 = .grid e e' gs ∧ p.2 = .fzg e (gs.map fun g => .lst e' g.2))

theorem RowAt.vf {e : Nat} {es : List AV} {oa : Option (Nat × Nat)} {cap : Nat} (H : RowAt T S w e es oa cap) (hS : ∀ k ∈ realR oa cap, S' k) (hV : ∀ c u, VF T S w c u → VF T S' w c u) :
    VF T S' w (.lst e es) (.slice (oa.map adr) es.length cap) := by
  obtain ⟨r2, r3, r4, r4', r5⟩ := H
  rcases Nat.eq_zero_or_pos cap with hc | hc
  · have : es = [] := List.eq_nil_of_length_eq_zero (by omega)
    subst this; exact .nil _ _ _
  · cases oa with
    | none => have := r3 rfl; omega
    | some p =>
      obtain ⟨r6, r7⟩ := r5 p rfl hc
      have hS' : S' p.1 := hS _ (by cases cap with | zero => omega | succ n => simp [realR])
      have rd : ∀ (i : Nat) (x : AV) (j : Nat) (c : AV), es[i]? = some x → (cells x)[j]? = some c → ∃ u, w.cell? ⟨p.1, p.2 + (i * (T e).size + j), none⟩ = some u ∧ u.oneCell' = true ∧ VF T S w c u := by
        intro i x j c hi hj
        obtain ⟨u, a1, a2, a3⟩ := r6 i x hi j c hj
        exact ⟨u, by rw [← a1]; congr 2; omega, a2, a3⟩
      refine .lst e es p.1 p.2 cap (fun i j => (w.cell? ⟨p.1, p.2 + (i * (T e).size + j), none⟩).getD undef) hS' r2 r4 (fun i x j c hi hj => ?_) (fun i x j c hi hj => ?_) (fun i x j c hi hj => ?_) <;> obtain ⟨u, a1, a2, a3⟩ := rd i x j c hi hj
      · rw [a1]; rfl
      · rw [a1]; exact a2
      · rw [a1]; exact hV _ _ a3

theorem GridAt.vf {e e' : Nat} {gs : List (Bool × List AV)} {oa : Option (Nat × Nat)} {cap : Nat} {rs : List (Option (Nat × Nat) × Nat)} (H : GridAt T S w e e' gs oa cap rs) (hS : ∀ k ∈ realL (.grid oa cap rs), S' k) (hV : ∀ c u, VF T S w c u → VF T S' w c u) :
    VF T S' w (.lst e (gs.map fun g => .lst e' g.2)) (.slice (oa.map adr) (gs.map fun g => AV.lst e' g.2).length cap) := by
  rcases Nat.eq_zero_or_pos gs.length with hc | hc
  · have : gs = [] := List.eq_nil_of_length_eq_zero hc
    subst this; exact .nil _ _ _
  · obtain ⟨p, u, k1, _⟩ := H.each 0 gs[0] (by simp)
    subst k1
    have hcap := H.hcap
    have hS' : S' p.1 := hS _ (mem_grid (by omega))
    have rd : ∀ (i : Nat) (x : AV) (j : Nat) (c : AV), (gs.map fun g => AV.lst e' g.2)[i]? = some x → (cells x)[j]? = some c → ∃ u, w.cell? ⟨p.1, p.2 + (i * (T e).size + j), none⟩ = some u ∧ u.oneCell' = true ∧ VF T S' w c u := by
      intro i x j c hi hj
      simp only [List.getElem?_map, Option.map_eq_some_iff] at hi
      obtain ⟨g, hg, rfl⟩ := hi
      cases j with
      | succ j => simp [cells] at hj
      | zero =>
        simp [cells] at hj; subst hj
        obtain ⟨q, u, q1, q2, q3, q4⟩ := H.each i g hg
        cases q1
        refine ⟨u, by rw [H.one, Nat.mul_one, Nat.add_zero]; exact q2, q3, ?_⟩
        unfold GAt at q4
        split at q4
        · exact hV _ _ q4.2
        · obtain ⟨ia, icap, q5, rfl, q6⟩ := q4
          exact RowAt.vf q6 (fun k hk => hS k (by
            simp only [realL, List.mem_append, List.mem_flatMap]
            exact .inr ⟨_, List.mem_of_getElem? q5, hk⟩)) hV
    refine .lst e (gs.map fun g => AV.lst e' g.2) p.1 p.2 cap (fun i j => (w.cell? ⟨p.1, p.2 + (i * (T e).size + j), none⟩).getD undef) hS' (by simpa using hcap) (fun x hx => ?_) (fun i x j c hi hj => ?_) (fun i x j c hi hj => ?_) (fun i x j c hi hj => ?_)
    · obtain ⟨g, _, rfl⟩ := List.mem_map.1 hx
      rw [H.one]; rfl
    all_goals obtain ⟨u, a1, a2, a3⟩ := rd i x j c hi hj
    · rw [a1]; rfl
    · rw [a1]; exact a2
    · rw [a1]; exact a3

theorem HR.freeze (H : HR T Z S h ρ w) {us : Ups} (hu : FzUps h us) :
    ∃ S', HR T Z S' (happ h us) ρ w ∧ Goes T S w h ρ S' w (happ h us) ρ := by
  have hval : ∀ b, (∃ p ∈ us, p.1 = b) → (∃ e es, h b = .row e es ∧ happ h us b = .fz e es) ∨ (∃ x, h b = .var x ∧ happ h us b = .fv x ∧ (cells x).all isFz = true) ∨
      (∃ e e' gs, h b = .grid e e' gs ∧ happ h us b = .fzg e (gs.map fun g => .lst e' g.2)) := by
    rintro b ⟨p, hp, rfl⟩
    rcases hu p hp with ⟨e, es, h1, h2⟩ | ⟨x, h1, h2, h3⟩ | ⟨e, e', gs, h1, h2⟩
    · refine .inl ⟨e, es, h1, happ_mem ⟨p, hp, rfl⟩ fun q hq eq => ?_⟩
      rcases hu q hq with ⟨e2, es2, h3, h4⟩ | ⟨x, h3, _⟩ | ⟨_, _, _, h3, _⟩ <;> rw [eq, h1] at h3 <;> cases h3
      exact h4
    · refine .inr (.inl ⟨x, h1, happ_mem ⟨p, hp, rfl⟩ fun q hq eq => ?_, h3⟩)
      rcases hu q hq with ⟨e2, es2, h4, _⟩ | ⟨x2, h4, h5, _⟩ | ⟨_, _, _, h4, _⟩ <;> rw [eq, h1] at h4 <;> cases h4
      exact h5
    · refine .inr (.inr ⟨e, e', gs, h1, happ_mem ⟨p, hp, rfl⟩ fun q hq eq => ?_⟩)
      rcases hu q hq with ⟨e2, es2, h4, _⟩ | ⟨x2, h4, h5, _⟩ | ⟨_, _, _, h4, h5⟩ <;> rw [eq, h1] at h4 <;> cases h4
      exact h5
  let X : Nat → Prop := fun b => ∃ p ∈ us, p.1 = b
  refine ⟨fun k => S k ∨ ∃ b, X b ∧ isLive (h b) = true ∧ k ∈ realL (ρ b), H.upd X (r := none) ⟨rfl, rfl, rfl, Nat.le_refl _, fun _ _ _ => rfl⟩ (fun k e => by cases e) (fun b hb => ⟨happ_none fun p hp e => hb ⟨p, hp, e⟩, rfl⟩) (fun b hb => ?_) (fun _ h => .inl h) (fun k hk => ?_) (fun go b hb => ?_) (fun b k hb hl hk => ?_) (fun b c k hb hc hne hl => ?_)⟩
  · rcases hval b hb with ⟨e, es, h1, h2⟩ | ⟨x, h1, h2, _⟩ | ⟨e, e', gs, h1, h2⟩
    · exact BSt.same ⟨by rw [h1, h2]; rfl, rfl⟩
    · exact BSt.same ⟨by rw [h1, h2]; rfl, rfl⟩
    · exact .inr (.inl (by rw [h2]; rfl))
  · rcases hk with hk | hk
    · exact .inl hk
    · exact .inr (.inr hk)
  · have hb0 := H.hb b
    rcases hval b hb with ⟨e, es, h1, h2⟩ | ⟨x, h1, h2, h3⟩ | ⟨e, e', gs, h1, h2⟩
    · unfold HB at hb0 ⊢
      rw [h1] at hb0; rw [h2]
      obtain ⟨oa, cap, r1, r2⟩ := hb0
      exact ⟨oa, cap, r1, RowAt.vf r2 (fun k hk => .inr ⟨b, hb, by rw [h1]; rfl, by rw [r1]; exact hk⟩) fun c u hc => hc.mono go.s go.w⟩
    · unfold HB at hb0 ⊢
      rw [h1] at hb0; rw [h2]
      obtain ⟨blk, o, r1, r2, r3⟩ := hb0
      refine ⟨blk, o, r1, .inr ⟨b, hb, by rw [h1]; rfl, by rw [r1]; simp [realL]⟩, fun j c hc => ?_⟩
      obtain ⟨u, a1, a2, a3⟩ := r2 j c hc
      have : isFz c = true := List.all_eq_true.1 h3 c (List.mem_of_getElem? hc)
      exact ⟨u, a1, a2, (isFz_vf this a3).mono go.s go.w⟩
    · unfold HB at hb0 ⊢
      rw [h1] at hb0; rw [h2]
      obtain ⟨oa, cap, rs, r1, r2⟩ := hb0
      exact ⟨oa, cap, rs, r1, r2.vf (fun k hk => .inr ⟨b, hb, by rw [h1]; rfl, by rw [r1]; exact hk⟩) fun c u hc => hc.mono go.s go.w⟩
  · rcases hval b hb with ⟨e, es, h1, h2⟩ | ⟨x, h1, h2, h3⟩ | ⟨e, e', gs, h1, h2⟩ <;> rw [h2] at hl <;> cases hl
  · rcases hval b hb with ⟨e, es, h1, h2⟩ | ⟨x, h1, h2, h3⟩ | ⟨e, e', gs, h1, h2⟩ <;> rw [h2] at hl <;> cases hl

end
end Go.Ev
