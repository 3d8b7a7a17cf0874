/- Blocks under other numbers; calls. -/
import Derived.Test.YtbhjocgepgpnmaaEvOp14
import Derived.Calls
set_option linter.unusedVariables false
set_option linter.unusedSimpArgs false
namespace Go.Ev

section
variable {P : Program} {T : Tab} {Z : Base} {S S' : Nat → Prop} {w w' : World} {h h' : AHeap} {ρ ρ' : Rho} {σ : Nat → Option Nat}

/-- Two numberings of the same blocks. -/
def Same (σ : Nat → Option Nat) (h : AHeap) (ρ : Rho) (h' : AHeap) (ρ' : Rho) : Prop := ∀ b c, σ b = some c → vw (h' c) = vw (h b) ∧ ρ' c = ρ b

theorem vw_ren (σ : Nat → Option Nat) (x : Blk) : vw (renB σ x) = vw x := by cases x <;> rfl
theorem isLive_ren (σ : Nat → Option Nat) (x : Blk) : isLive (renB σ x) = isLive x := by cases x <;> rfl

theorem ren1_ok (hs : Same σ h ρ h' ρ') {x : AV} {v : Value} (hv : VLc T S w h ρ x v) : VLc T S w h' ρ' (ren1 σ x) v := by
  cases x with
  | ref b =>
    cases hb : σ b with
    | none => simp only [ren1, hb]; exact VF.und v
    | some c => obtain ⟨e1, e2⟩ := hs b c hb; simp only [ren1, hb]; simp only [VLc, e1, e2] at hv ⊢; exact hv
  | sub b i n =>
    cases hb : σ b with
    | none => simp only [ren1, hb]; exact VF.und v
    | some c => obtain ⟨e1, e2⟩ := hs b c hb; simp only [ren1, hb]; simp only [VLc, e1, e2] at hv ⊢; exact hv
  | fsub b n =>
    cases hb : σ b with
    | none => simp only [ren1, hb]; exact VF.und v
    | some c => obtain ⟨e1, e2⟩ := hs b c hb; simp only [ren1, hb]; simp only [VLc, e1, e2] at hv ⊢; exact hv
  | ptr b i off =>
    cases hb : σ b with
    | none => simp only [ren1, hb]; exact VF.und v
    | some c => obtain ⟨e1, e2⟩ := hs b c hb; simp only [ren1, hb]; simp only [VLc, e1, e2] at hv ⊢; exact hv
  | mp b =>
    cases hb : σ b with
    | none => simp only [ren1, hb]; exact VF.und v
    | some c => obtain ⟨e1, e2⟩ := hs b c hb; simp only [ren1, hb]; simp only [VLc, e1, e2] at hv ⊢; exact hv
  | gref b i =>
    cases hb : σ b with
    | none => simp only [ren1, hb]; exact VF.und v
    | some c => obtain ⟨e1, e2⟩ := hs b c hb; simp only [ren1, hb]; simp only [VLc, e1, e2] at hv ⊢; exact hv
  | gptr b i j off =>
    cases hb : σ b with
    | none => simp only [ren1, hb]; exact VF.und v
    | some c => obtain ⟨e1, e2⟩ := hs b c hb; simp only [ren1, hb]; simp only [VLc, e1, e2] at hv ⊢; exact hv
  | agg cs => exact VF.und v
  | tup xs => exact VF.und v
  | fn f caps =>
    cases caps with
    | nil => exact hv
    | cons a as => exact VF.und v
  | _ => exact hv

theorem ren1_vf {x : AV} {v : Value} (hv : VF T S w x v) : VF T S w (ren1 σ x) v := by
  cases x with
  | ref b => cases hv
  | sub b i n => cases hv
  | fsub b n => cases hv
  | ptr b i off => cases hv
  | mp b => cases hv
  | gref b i => cases hv
  | gptr b i j off => cases hv
  | agg cs => exact VF.und v
  | tup xs => exact VF.und v
  | fn f caps =>
    cases caps with
    | nil => exact hv
    | cons a as => exact VF.und v
  | _ => exact hv

theorem map_get {l : List AV} {f : AV → AV} {j : Nat} {c : AV} (hj : (l.map f)[j]? = some c) : ∃ d, l[j]? = some d ∧ c = f d := by
  rw [List.getElem?_map, Option.map_eq_some_iff] at hj
  obtain ⟨d, h1, rfl⟩ := hj
  exact ⟨d, h1, rfl⟩

theorem ren2_ok (hs : Same σ h ρ h' ρ') {x : AV} {v : Value} (hv : VLv T S w h ρ x v) : VLv T S w h' ρ' (ren2 σ x) v := by
  cases x with
  | agg cs =>
    obtain ⟨vs, rfl, hl, hc⟩ := hv
    refine ⟨vs, rfl, by simpa using hl, fun j c u a b => ?_⟩
    obtain ⟨d, h1, rfl⟩ := map_get a
    exact ⟨ren1_ok hs (hc j d u h1 b).1, (hc j d u h1 b).2⟩
  | fn f caps =>
    obtain ⟨vs, rfl, hl, hc⟩ := hv
    refine ⟨vs, rfl, by simpa using hl, fun j c u a b => ?_⟩
    obtain ⟨d, h1, rfl⟩ := map_get a
    exact ren1_ok hs (hc j d u h1 b)
  | ref b => simp only [ren2]; exact vlc_vlv (ren1_ok hs hv)
  | sub b i n => simp only [ren2]; exact vlc_vlv (ren1_ok hs hv)
  | fsub b n => simp only [ren2]; exact vlc_vlv (ren1_ok hs hv)
  | ptr b i off => simp only [ren2]; exact vlc_vlv (ren1_ok hs hv)
  | mp b => simp only [ren2]; exact vlc_vlv (ren1_ok hs hv)
  | gref b i => simp only [ren2]; exact vlc_vlv (ren1_ok hs hv)
  | gptr b i j off => simp only [ren2]; exact vlc_vlv (ren1_ok hs hv)
  | tup xs => exact VF.und v
  | _ => exact hv

theorem ren3_ok (hs : Same σ h ρ h' ρ') {x : AV} {v : Value} (hv : VLt T S w h ρ x v) : VLt T S w h' ρ' (ren3 σ x) v := by
  cases x with
  | tup xs =>
    obtain ⟨vs, rfl, hl, hc⟩ := hv
    refine ⟨vs, rfl, by simpa using hl, fun j c u a b => ?_⟩
    obtain ⟨d, h1, rfl⟩ := map_get a
    exact ren2_ok hs (hc j d u h1 b)
  | _ => simp only [ren3]; exact vlv_vlt (ren2_ok hs hv)

/-- A place's cells under other numbers. -/
theorem cells_ren2 {x : AV} {V V' : AV → Value → Prop} {blk o : Nat} (hV : ∀ c v, V c v → V' (ren1 σ c) v) (hF : ∀ f caps v, V (.fn f caps) v → V' (.fn f (caps.map (ren1 σ))) v)
    (hc : CellsAt w V blk o x) : CellsAt w V' blk o (ren2 σ x) ∧ (cells (ren2 σ x)).length = (cells x).length := by
  have one : (∀ cs, x ≠ .agg cs) → (∀ f caps, x ≠ .fn f caps) → CellsAt w V' blk o (ren2 σ x) ∧ (cells (ren2 σ x)).length = (cells x).length := by
    intro h1 h2
    have e1 : ren2 σ x = ren1 σ x := by cases x <;> first | rfl | exact absurd rfl (h1 _) | exact absurd rfl (h2 _ _)
    have e2 : cells x = [x] := by cases x <;> first | rfl | exact absurd rfl (h1 _)
    have e3 : cells (ren1 σ x) = [ren1 σ x] := by
      cases x with
      | agg cs => exact absurd rfl (h1 _)
      | fn f caps => exact absurd rfl (h2 _ _)
      | ref b => simp only [ren1]; split <;> rfl
      | sub b i n => simp only [ren1]; split <;> rfl
      | fsub b n => simp only [ren1]; split <;> rfl
      | ptr b i off => simp only [ren1]; split <;> rfl
      | mp b => simp only [ren1]; split <;> rfl
      | gref b i => simp only [ren1]; split <;> rfl
      | gptr b i j off => simp only [ren1]; split <;> rfl
      | _ => rfl
    rw [e1]
    refine ⟨fun j c hj => ?_, by rw [e2, e3]; rfl⟩
    rw [e3] at hj
    cases j with
    | succ j => simp at hj
    | zero =>
      simp at hj; subst hj
      obtain ⟨u, a1, a2, a3⟩ := hc 0 x (by rw [e2]; rfl)
      exact ⟨u, a1, a2, hV _ _ a3⟩
  cases x with
  | agg cs =>
    refine ⟨fun j c hj => ?_, by simp [ren2, cells]⟩
    obtain ⟨d, h1, rfl⟩ := map_get (show (cs.map (ren1 σ))[j]? = some c from hj)
    obtain ⟨u, a1, a2, a3⟩ := hc j d h1
    exact ⟨u, a1, a2, hV _ _ a3⟩
  | fn f caps =>
    refine ⟨fun j c hj => ?_, rfl⟩
    cases j with
    | succ j => simp [ren2, cells] at hj
    | zero =>
      simp [ren2, cells] at hj; subst hj
      obtain ⟨u, a1, a2, a3⟩ := hc 0 (.fn f caps) rfl
      exact ⟨u, a1, a2, hF _ _ _ a3⟩
  | _ => exact one (fun _ e => by cases e) (fun _ _ e => by cases e)

theorem vf_fn_ren {f : Nat} {caps : List AV} {v : Value} (hv : VF T S w (.fn f caps) v) : VF T S w (.fn f (caps.map (ren1 σ))) v := by
  cases hv with
  | fn f caps vs hl hv =>
    refine .fn f _ vs (by simpa using hl) fun j c u a b => ?_
    obtain ⟨d, h1, rfl⟩ := map_get a
    exact ren1_vf (hv j d u h1 b)

/-- A block under another number. -/
theorem HB.ren {b c : Nat} (H : HB T S w h ρ b) (hs : Same σ h ρ h' ρ') (hb : h' c = renB σ (h b)) (hr : ρ' c = ρ b) : HB T S w h' ρ' c := by
  unfold HB at H ⊢
  rw [hb, hr]
  cases hx : h b with
  | none => trivial
  | dead => trivial
  | var x =>
    rw [hx] at H
    obtain ⟨blk, o, h1, h2, h3⟩ := H
    obtain ⟨c1, c2⟩ := cells_ren2 (σ := σ) (V' := VLc T S w h' ρ') (fun c v => ren1_ok hs) (fun f caps v hv => vf_fn_ren (show VF T S w (.fn f caps) v from hv)) h2
    exact ⟨blk, o, h1, c1, fun j hj => h3 j (by rw [← c2]; exact hj)⟩
  | fv x =>
    rw [hx] at H
    obtain ⟨blk, o, h1, h2, h3⟩ := H
    obtain ⟨c1, c2⟩ := cells_ren2 (σ := σ) (V' := VF T S w) (fun c v => ren1_vf) (fun f caps v hv => vf_fn_ren hv) h3
    exact ⟨blk, o, h1, h2, c1⟩
  | row e es => rw [hx] at H; exact H
  | fz e es => rw [hx] at H; exact H
  | map es => rw [hx] at H; exact H
  | rowc e es c => rw [hx] at H; exact H
  | grid e e' gs => rw [hx] at H; exact H
  | fzg e es => rw [hx] at H; exact H

theorem pos_get {l : List Nat} {b k : Nat} (hp : pos l b = some k) : l[k]? = some b := by
  induction l generalizing k with
  | nil => simp [pos] at hp
  | cons c l ih =>
    simp only [pos] at hp
    cases hb : Nat.beq c b with
    | true => rw [hb] at hp; simp at hp; subst hp; rw [Nat.eq_of_beq_eq_true hb]; rfl
    | false =>
      rw [hb] at hp
      simp only [cond_false] at hp
      cases hq : pos l b with
      | none => rw [hq] at hp; cases hp
      | some n => rw [hq] at hp; simp at hp; subst hp; simpa using ih hq

theorem get_pos {l : List Nat} (nd : l.Nodup) {b k : Nat} (hk : l[k]? = some b) : pos l b = some k := by
  induction l generalizing k with
  | nil => simp at hk
  | cons c l ih =>
    cases k with
    | zero => simp at hk; subst hk; simp [pos]
    | succ k =>
      have hk' : l[k]? = some b := by simpa using hk
      have hne : c ≠ b := fun e => by
        subst e
        exact (List.nodup_cons.1 nd).1 (List.mem_of_getElem? hk')
      simp only [pos, beq_ne hne, cond_false]
      rw [ih (List.nodup_cons.1 nd).2 hk']

theorem pos_mem {l : List Nat} {b : Nat} (hb : b ∈ l) : ∃ k, pos l b = some k := by
  induction l with
  | nil => simp at hb
  | cons c l ih =>
    simp only [pos]
    cases hc : Nat.beq c b with
    | true => exact ⟨0, rfl⟩
    | false =>
      rcases List.mem_cons.1 hb with rfl | hb
      · rw [beq_self] at hc; cases hc
      · obtain ⟨k, hk⟩ := ih hb
        exact ⟨k + 1, by simp [hk]⟩

/-- Where the kept blocks lie. -/
def keptRho (l : List Nat) (ρ : Rho) : Rho := fun i => match l[i]? with | some b => ρ b | none => .no
def keptHeap (l : List Nat) (h : AHeap) : AHeap := ofL (l.map fun b => renB (pos l) (h b))

theorem kept_at {l : List Nat} {i b : Nat} (hi : l[i]? = some b) : keptHeap l h i = renB (pos l) (h b) ∧ keptRho l ρ i = ρ b := by
  constructor
  · simp [keptHeap, ofL, List.getD, hi]
  · simp [keptRho, hi]
theorem kept_out {l : List Nat} {i : Nat} (hi : l[i]? = none) : keptHeap l h i = .none := by
  simp [keptHeap, ofL, List.getD, hi]

theorem kept_same (l : List Nat) (h : AHeap) (ρ : Rho) : Same (pos l) h ρ (keptHeap l h) (keptRho l ρ) := by
  intro b c hb
  have := pos_get hb
  obtain ⟨e1, e2⟩ := kept_at (h := h) (ρ := ρ) this
  exact ⟨by rw [e1, vw_ren], e2⟩

/-- Some blocks alone, newly numbered. -/
theorem HR.gc (H : HR T Z S h ρ w) {l : List Nat} (nd : l.Nodup) : HR T Z S (keptHeap l h) (keptRho l ρ) w := by
  have inv : ∀ i, isLive (keptHeap l h i) = true → ∃ b, l[i]? = some b ∧ isLive (h b) = true ∧ keptRho l ρ i = ρ b := by
    intro i hi
    cases hl : l[i]? with
    | none => rw [kept_out hl] at hi; cases hi
    | some b =>
      obtain ⟨e1, e2⟩ := kept_at (h := h) (ρ := ρ) hl
      rw [e1, isLive_ren] at hi
      exact ⟨b, rfl, hi, e2⟩
  refine ⟨fun i => ?_, fun i blk hi hr => ?_, fun i j blk hne hi hj hr hr' => ?_, H.sS, H.sub, H.prot, H.big, H.os, H.tape, H.output, H.zB⟩
  · cases hl : l[i]? with
    | none => unfold HB; rw [kept_out hl]; trivial
    | some b =>
      obtain ⟨e1, e2⟩ := kept_at (h := h) (ρ := ρ) hl
      exact (H.hb b).ren (kept_same l h ρ) e1 e2
  · obtain ⟨b, hb, h1, h2⟩ := inv i hi
    rw [h2] at hr
    exact H.own b blk h1 hr
  · obtain ⟨b, hb, h1, h2⟩ := inv i hi
    obtain ⟨c, hc, h3, h4⟩ := inv j hj
    rw [h2] at hr; rw [h4] at hr'
    refine H.apart b c blk (fun e => hne ?_) h1 h3 hr hr'
    subst e
    have := get_pos nd hb
    have := get_pos nd hc
    simp_all

/-- The same state, seen from its own world. -/
theorem HR.here (H : HR T Z S h ρ w) (B : Nat → Prop) (hB : ∀ blk, B blk → blk < w.heap.size) (ho : ∀ b blk, isLive (h b) = true → blk ∈ realL (ρ b) → ¬ B blk) : HR T ⟨w, B, S⟩ S h ρ w :=
  ⟨H.hb, fun b blk h1 h2 => ⟨(H.own b blk h1 h2).1, (H.own b blk h1 h2).2.1, ho b blk h1 h2⟩, H.apart, H.sS, fun blk hb => .inl hb, fun _ _ => rfl, Nat.le_refl _, rfl, rfl, rfl, hB⟩

end
end Go.Ev
