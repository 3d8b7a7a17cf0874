/- A whole body. -/
import Derived.Test.YtdnelcadmoeeiaaGreatEvDraw2
import Derived.Deep.LoopGhost
set_option linter.unusedVariables false
set_option linter.unusedSimpArgs false
namespace Go.Ev

structure GoesN (n : Nat) (T : Tab) (S : Nat → Prop) (w : World) (h : AHeap) (ρ : Rho) (S' : Nat → Prop) (w' : World) (h' : AHeap) (ρ' : Rho) : Prop where
  s : ∀ b, S b → S' b
  w : ∀ b, S b → w'.heap[b]? = w.heap[b]?
  b : ∀ b, b < n → BSt (h b) (ρ b) (h' b) (ρ' b)

section
variable {P : Program} {T : Tab} {Z : Base} {S S' S'' : Nat → Prop} {w w' w'' : World} {h h' h'' : AHeap} {ρ ρ' ρ'' : Rho} {nx n N : Nat}
  {a : Act} {s : St}

theorem Goes.toN (g : Goes T S w h ρ S' w' h' ρ') (n : Nat) : GoesN n T S w h ρ S' w' h' ρ' := ⟨g.s, g.w, fun b _ => g.b b⟩
theorem GoesN.trans (a : GoesN n T S w h ρ S' w' h' ρ') (b : GoesN n T S' w' h' ρ' S'' w'' h'' ρ'') : GoesN n T S w h ρ S'' w'' h'' ρ'' :=
  ⟨fun k h => b.s k (a.s k h), fun k h => (b.w k (a.s k h)).trans (a.w k h), fun k hk => BSt.trans (a.b k hk) (b.b k hk)⟩

theorem nodupB_ok : ∀ {l : List Nat}, nodupB l = true → l.Nodup
  | [], _ => by simp
  | b :: l, h => by
    simp only [nodupB, Bool.and_eq_true] at h
    refine List.nodup_cons.2 ⟨fun hm => ?_, nodupB_ok h.2⟩
    have : l.contains b = true := by simpa using hm
    rw [this] at h; simp at h

theorem masked_map (live : List Nat) (f : Nat → AV) (t : Nat) : masked live (live.map f) t = f t ∨ masked live (live.map f) t = .und := by
  induction live with
  | nil => exact .inr rfl
  | cons x l ih =>
    simp only [List.map_cons, masked]
    cases hb : Nat.beq t x with
    | true => rw [Nat.eq_of_beq_eq_true hb]; exact .inl rfl
    | false => exact ih

/-- Some blocks and slots alone. -/
theorem Inv.gc (I : Inv T Z S h ρ w s nx a) {kept live : List Nat} (nd : nodupB (List.range n ++ kept) = true) :
    Inv T Z S (ofL ((List.range n ++ kept).map fun b => renB (pos (List.range n ++ kept)) (h b))) (keptRho (List.range n ++ kept) ρ) w
      (masked live (live.map fun t => ren3 (pos (List.range n ++ kept)) (s t))) ((List.range n ++ kept).map fun b => renB (pos (List.range n ++ kept)) (h b)).length a ∧
    GoesN n T S w h ρ S w (ofL ((List.range n ++ kept).map fun b => renB (pos (List.range n ++ kept)) (h b))) (keptRho (List.range n ++ kept) ρ) := by
  have nd' := nodupB_ok nd
  refine ⟨⟨I.H.gc nd', fun b hb => ?_, fun t => ?_⟩, ⟨fun _ h => h, fun _ _ => rfl, fun b hb => ?_⟩⟩
  · simp only [ofL, List.getD]
    rw [List.getElem?_eq_none hb]; rfl
  · rcases masked_map live (fun t => ren3 (pos (List.range n ++ kept)) (s t)) t with h1 | h1 <;> rw [h1]
    · exact ren3_ok (kept_same _ h ρ) (I.tm t)
    · exact VF.und _
  · have hl : (List.range n ++ kept)[b]? = some b := by
      rw [List.getElem?_append_left (by simpa using hb)]; simp [hb]
    obtain ⟨e1, e2⟩ := kept_at (h := h) (ρ := ρ) hl
    right; right; left
    refine ⟨?_, e2⟩
    show vw (keptHeap _ h b) = _
    rw [e1, vw_ren]

/-- One value is laid where nobody writes. -/
theorem fz1_ok (H : HR T Z S h ρ w) (free : ∀ b, nx ≤ b → h b = .none) {c : AV} {v : Value} (hv : VLt T S w h ρ c v) :
    ∃ S', HR T Z S' (happ h (fzv h c).2) ρ w ∧ Goes T S w h ρ S' w (happ h (fzv h c).2) ρ ∧ VF T S' w (fzv h c).1 v ∧ ∀ b, nx ≤ b → happ h (fzv h c).2 b = .none := by
  have tup : ∀ xs, c = .tup xs → ∃ S', HR T Z S' (happ h (fzv h c).2) ρ w ∧ Goes T S w h ρ S' w (happ h (fzv h c).2) ρ ∧ VF T S' w (fzv h c).1 v ∧ ∀ b, nx ≤ b → happ h (fzv h c).2 b = .none := by
    rintro xs rfl
    exact ⟨S, H, Goes.refl .., VF.und v, free⟩
  have other : VLv T S w h ρ c v → ∃ S', HR T Z S' (happ h (fzv h c).2) ρ w ∧ Goes T S w h ρ S' w (happ h (fzv h c).2) ρ ∧ VF T S' w (fzv h c).1 v ∧ ∀ b, nx ≤ b → happ h (fzv h c).2 b = .none := by
    intro hc
    have f := fzv_ok H hc
    obtain ⟨S', H', G', hx⟩ := f.go H
    refine ⟨S', H', G', hx, fun b hb => ?_⟩
    rw [happ_none fun p hp e => ?_]
    · exact free b hb
    · have e1 := free b hb
      rcases f.u p hp with ⟨a, b, h1, _⟩ | ⟨a, h1, _⟩ | ⟨a, b, c0, h1, _⟩ <;> rw [e, e1] at h1 <;> cases h1
  cases c with
  | tup xs => exact tup xs rfl
  | _ => exact other hv

theorem fzc_cells (h : AHeap) (c : AV) : cells (fzc h c).1 = [(fzc h c).1] := by
  cases c <;> (unfold fzc; (repeat' split)) <;> rfl
theorem cells_setCell {x c : AV} {j : Nat} (hc : cells c = [c]) (hj : j < (cells x).length) : cells (setCell x j c) = (cells x).set j c := by
  cases x with
  | agg cs => rfl
  | _ =>
    simp only [cells, List.length_singleton] at hj
    have : j = 0 := by omega
    subst this; exact hc
/-- One cell of a variable is laid where nobody writes. -/
theorem frzV_ok (H : HR T Z S h ρ w) (free : ∀ b, nx ≤ b → h b = .none) (b j : Nat) :
    ∃ S', HR T Z S' (frzV h b j) ρ w ∧ Goes T S w h ρ S' w (frzV h b j) ρ ∧ ∀ k, nx ≤ k → frzV h b j k = .none := by
  have same : ∃ S', HR T Z S' h ρ w ∧ Goes T S w h ρ S' w h ρ ∧ ∀ k, nx ≤ k → h k = .none := ⟨S, H, Goes.refl .., free⟩
  unfold frzV
  cases hb : h b with
  | var x =>
    simp only
    cases hc : (cells x)[j]? with
    | none => exact same
    | some c =>
      simp only
      cases ha : (fzc h c).2.all fun u => !(Nat.beq u.1 b) with
      | false => exact same
      | true =>
        simp only
        have hj := (List.getElem?_eq_some_iff.1 hc).1
        obtain ⟨blk, o, h1, h2, h3⟩ := H.var hb
        obtain ⟨u, u1, u2, u3⟩ := h2 j c hc
        have f := fzc_ok H u3
        obtain ⟨S', H', G', hx⟩ := f.go H
        have hnb : ∀ p ∈ (fzc h c).2, p.1 ≠ b := fun p hp e => by
          have := List.all_eq_true.1 ha p hp
          rw [e] at this; simp at this
        have hb' : happ h (fzc h c).2 b = .var x := by rw [happ_none hnb]; exact hb
        have hcell := cells_setCell (x := x) (j := j) (fzc_cells h c) hj
        have hfree : ∀ k, nx ≤ k → hset (happ h (fzc h c).2) b (.var (setCell x j (fzc h c).1)) k = .none := by
          intro k hk
          have hkb : k ≠ b := fun e => by have := free k hk; rw [e, hb] at this; cases this
          rw [hset_ne _ _ hkb, happ_none fun p hp e => ?_]
          · exact free k hk
          · have e1 := free k hk
            rcases f.u p hp with ⟨a, q, h4, _⟩ | ⟨a, h4, _⟩ | ⟨a, q, c0, h4, _⟩ <;> rw [e, e1] at h4 <;> cases h4
        obtain ⟨H2, G2⟩ := H'.retag (b := b) (B := .var (setCell x j (fzc h c).1)) (by rw [hb']; rfl) (by rw [hb']; rfl) (fun go => by
          unfold HB
          rw [hset_same]
          refine ⟨blk, o, h1, fun i c0 hi => ?_, fun i hi => h3 i (by rw [hcell, List.length_set] at hi; exact hi)⟩
          rw [hcell, List.getElem?_set] at hi
          by_cases e : j = i
          · subst e
            rw [if_pos rfl, if_pos hj] at hi
            cases hi
            exact ⟨u, u1, u2, go.vlc (vf_vlc hx)⟩
          · rw [if_neg e] at hi
            obtain ⟨v, v1, v2, v3⟩ := h2 i c0 hi
            exact ⟨v, v1, v2, go.vlc (G'.vlc v3)⟩)
        exact ⟨S', H2, G'.trans G2, hfree⟩
  | _ => exact same

/-- Some slots' values are. -/
theorem Inv.frz : ∀ (l : List Nat) {S : Nat → Prop} {h : AHeap} {s : St}, Inv T Z S h ρ w s nx a →
    ∃ S', Inv T Z S' (frz s h l).2 ρ w (frz s h l).1 nx a ∧ Goes T S w h ρ S' w (frz s h l).2 ρ
  | [], S, h, s, I => ⟨S, I, Goes.refl ..⟩
  | t :: ts, S, h, s, I => by
    unfold Go.Ev.frz
    cases Nat.ble 1000 t with
    | true =>
      have : ∃ S', HR T Z S' (frzP h (t % 1000) (s (t / 1000 - 1))) ρ w ∧ Goes T S w h ρ S' w (frzP h (t % 1000) (s (t / 1000 - 1))) ρ ∧ ∀ k, nx ≤ k → frzP h (t % 1000) (s (t / 1000 - 1)) k = .none := by
        cases s (t / 1000 - 1) with
        | ptr b i off => exact frzV_ok I.H I.free b (t % 1000)
        | _ => exact ⟨S, I.H, Goes.refl .., I.free⟩
      obtain ⟨S1, H1, G1, f1⟩ := this
      have I1 : Inv T Z S1 (frzP h (t % 1000) (s (t / 1000 - 1))) ρ w s nx a := ⟨H1, f1, fun j => G1.vlt (I.tm j)⟩
      obtain ⟨S2, I2, G2⟩ := Inv.frz ts I1
      exact ⟨S2, I2, G1.trans G2⟩
    | false =>
      obtain ⟨S1, H1, G1, v1, f1⟩ := fz1_ok I.H I.free (I.tm t)
      have I1 : Inv T Z S1 (happ h (fzv h (s t)).2) ρ w (aset s t (fzv h (s t)).1) nx a := by
        refine ⟨H1, f1, fun j => ?_⟩
        by_cases hj : j = t
        · subst hj
          simp only [aset, beq_self, cond_true]
          exact vf_vlt v1
        · simp only [aset, beq_ne hj, cond_false]
          exact G1.vlt (I.tm j)
      obtain ⟨S2, I2, G2⟩ := Inv.frz ts I1
      exact ⟨S2, I2, G1.trans G2⟩

def exOf : Ex → Exit
  | .normal => .normal
  | .exit id => .exit id
  | .ret => .ret

theorem ev_ok (hT : TabOk P T) (hm : P.follows .mixedOrders = true) (c : Code) : ∀ (s : St) (h : AHeap) (nx : Nat) (QA : Post) (a : Act) (w : World) (S : Nat → Prop) (ρ : Rho) (Q : Exit → Act → World → Prop),
    dstB N c = true → Inv T Z S h ρ w s nx a → a.tmps.size = N → EV (Told P T) T n c s h nx QA →
    (∀ e s' h' nx' a' w' S' ρ', QA e s' h' nx' → Inv T Z S' h' ρ' w' s' nx' a' → GoesN n T S w h ρ S' w' h' ρ' → a'.tmps.size = N → a'.defers = a.defers → Q (exOf e) a' w') → c.wp P Q a w := by
  induction c with
  | skip =>
    intro s h nx QA a w S ρ Q hd I hN hr post
    exact wp_skip (post .normal s h nx a w S ρ hr I ((Goes.refl ..).toN n) hN rfl)
  | region id ops draw =>
    intro s h nx QA a w S ρ Q hd I hN hr post
    have hd' : ∀ o ∈ ops.toList, ∀ d, o.dst = some d → d < a.tmps.size := by
      intro o ho d e
      simp only [dstB] at hd
      have := List.all_eq_true.1 hd o ho
      rw [e] at this
      rw [hN]; exact Nat.le_of_ble_eq_true this
    cases draw with
    | false =>
      exact wp_region_list (evOps_ok (Q := Q) hT ops.toList s h nx a w S ρ hd' I hr fun s' h' nx' a' w' S' ρ' k I' G e1 e2 => post .normal s' h' nx' a' w' S' ρ' k I' (G.toN n) (e1.trans hN) e2)
    | true =>
      exact evDraw_ok (Q := Q) (K := QA .normal) hT hm hd' I hr fun s' h' nx' a' w' S' ρ' k I' G e1 e2 => post .normal s' h' nx' a' w' S' ρ' k I' (G.toN n) (e1.trans hN) e2
  | seq x y ia ib =>
    intro s h nx QA a w S ρ Q hd I hN hr post
    simp only [dstB, Bool.and_eq_true] at hd
    refine wp_seq (ia s h nx _ a w S ρ _ hd.1 I hN hr ?_)
    intro e s' h' nx' a' w' S' ρ' q I' G e1 e2
    cases e with
    | normal =>
      refine ib s' h' nx' QA a' w' S' ρ' Q hd.2 I' e1 q ?_
      intro e s2 h2 nx2 a2 w2 S2 ρ2 q2 I2 G2 f1 f2
      exact post e s2 h2 nx2 a2 w2 S2 ρ2 q2 I2 (G.trans G2) f1 (f2.trans e2)
    | exit id => exact post (.exit id) s' h' nx' a' w' S' ρ' q I' G e1 e2
    | ret => exact post .ret s' h' nx' a' w' S' ρ' q I' G e1 e2
  | cond c x y ia ib =>
    intro s h nx QA a w S ρ Q hd I hN hr post
    simp only [dstB, Bool.and_eq_true] at hd
    have hc := opnd_ok I.tm 0 c
    change (match opnd T 0 s c with | .bool b => IfB b (EV (Told P T) T n x s h nx QA) (EV (Told P T) T n y s h nx QA) | _ => Stuck) at hr
    generalize opnd T 0 s c = q at hr hc
    cases q with
    | bool b =>
      have hb := vl_bool hc
      cases b with
      | true => exact wp_cond_true hb (ia s h nx QA a w S ρ Q hd.1 I hN (hr.t rfl) post)
      | false => exact wp_cond_false hb (ib s h nx QA a w S ρ Q hd.2 I hN (hr.f rfl) post)
    | _ => exact hr.p.elim
  | block id c ia =>
    intro s h nx QA a w S ρ Q hd I hN hr post
    refine wp_block (ia s h nx _ a w S ρ _ hd I hN hr ?_)
    intro e s' h' nx' a' w' S' ρ' q I' G e1 e2
    cases e with
    | normal => exact post .normal s' h' nx' a' w' S' ρ' q I' G e1 e2
    | exit j =>
      simp only [exOf, Exit.inBlock]
      by_cases hj : j = id
      · subst hj
        rw [if_pos rfl]
        simp only [beq_self, cond_true] at q
        exact post .normal s' h' nx' a' w' S' ρ' q I' G e1 e2
      · rw [if_neg hj]
        simp only [beq_ne hj, cond_false] at q
        exact post (.exit j) s' h' nx' a' w' S' ρ' q I' G e1 e2
    | ret => exact post .ret s' h' nx' a' w' S' ρ' q I' G e1 e2
  | loop c ia =>
    intro s h nx QA a w S ρ Q hd I hN hr post
    obtain ⟨live, J, m, fz, kept, nd, start, round⟩ := (show LoopN n s h (EV (Told P T) T n c) QA from hr).p
    obtain ⟨Sf, If, Gf⟩ := I.frz fz
    obtain ⟨I0, G0⟩ := If.gc (live := live) nd
    refine wp_loop_ghost (fun k a' w' => ∃ vs L S' ρ', J vs L ∧ m vs L = k ∧ Inv T Z S' (ofL L) ρ' w' (masked live vs) L.length a' ∧ GoesN n T S w h ρ S' w' (ofL L) ρ' ∧ a'.tmps.size = N ∧ a'.defers = a.defers)
      _ ⟨_, _, Sf, _, start, rfl, I0, (Gf.toN n).trans G0, hN, rfl⟩ ?_
    rintro k a1 w1 ⟨vs, L, S1, ρ1, hJ, hk, I1, G1, e1, e2⟩
    refine ia _ _ _ _ a1 w1 S1 ρ1 _ hd I1 e1 (round vs L hJ) ?_
    intro e s' h' nx' a' w' S' ρ' q I' G e3 e4
    cases e with
    | normal =>
      obtain ⟨fz', kept', nd', j1, j2⟩ := q
      obtain ⟨Sf', If', Gf'⟩ := I'.frz fz'
      obtain ⟨I2, G2⟩ := If'.gc (live := live) nd'
      exact ⟨_, by rw [← hk]; exact j2, _, _, Sf', _, j1, rfl, I2, ((G1.trans G).trans (Gf'.toN n)).trans G2, e3, e4.trans e2⟩
    | exit id => exact post (.exit id) s' h' nx' a' w' S' ρ' q I' (G1.trans G) e3 (e4.trans e2)
    | ret => exact post .ret s' h' nx' a' w' S' ρ' q I' (G1.trans G) e3 (e4.trans e2)
  | exit id =>
    intro s h nx QA a w S ρ Q hd I hN hr post
    exact wp_exit (post (.exit id) s h nx a w S ρ hr I ((Goes.refl ..).toN n) hN rfl)
  | label id =>
    intro s h nx QA a w S ρ Q hd I hN hr post
    exact wp_label (post .normal s h nx a w S ρ hr I ((Goes.refl ..).toN n) hN rfl)
  | ret =>
    intro s h nx QA a w S ρ Q hd I hN hr post
    exact wp_ret (post .ret s h nx a w S ρ hr I ((Goes.refl ..).toN n) hN rfl)
  | _ =>
    intro s h nx QA a w S ρ Q hd I hN hr post
    exact (show Stuck from hr).p.elim

end
end Go.Ev
