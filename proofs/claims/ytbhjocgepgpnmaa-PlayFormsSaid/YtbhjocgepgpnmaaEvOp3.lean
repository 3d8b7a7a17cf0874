/- Rows of elements, flat. -/
import Derived.Test.YtbhjocgepgpnmaaEvOp2
set_option linter.unusedVariables false
set_option linter.unusedSimpArgs false
namespace Go.Ev

section
variable {T : Tab} {Z : Base} {S S' : Nat → Prop} {w w' : World} {h h' : AHeap} {ρ ρ' : Rho} {P : Program}

theorem setCells_grown (b : Nat) : ∀ (vs : List Value) (o : Nat) (w : World), w.grownBy (w.setCells b o vs) (some b)
  | [], _, w => ⟨rfl, rfl, rfl, Nat.le_refl _, fun _ _ _ => rfl⟩
  | v :: vs, o, w => by
    have ih := setCells_grown b vs (o + 1) (w.setCell ⟨b, o, none⟩ v)
    refine ⟨ih.os, ih.tape, ih.output, by have := ih.size; simpa [World.setCells] using this, fun k hk hne => ?_⟩
    rw [World.setCells, ih.block k (by simpa using hk) hne]
    simp only [World.setCell, Array.getElem?_modify]
    rw [if_neg (fun e => hne (by rw [← e]))]

/-- Elements as a flat row of values. -/
structure Flat (V : AV → Value → Prop) (z : Nat) (es : List AV) (vs : List Value) : Prop where
  len : vs.length = es.length * z
  size : ∀ x ∈ es, (cells x).length = z
  one : ∀ u ∈ vs, u.oneCell' = true
  v : ∀ (i : Nat) (x : AV) (j : Nat) (c : AV), es[i]? = some x → (cells x)[j]? = some c → ∃ u, vs[i * z + j]? = some u ∧ V c u

theorem Flat.nil (V : AV → Value → Prop) (z : Nat) : Flat V z [] [] := ⟨by simp, fun x hx => by simp at hx, fun x hx => by simp at hx, fun i x j c h => by simp at h⟩
theorem Flat.mono {V V' : AV → Value → Prop} {z : Nat} {es : List AV} {vs : List Value} (f : Flat V z es vs) (hV : ∀ c u, V c u → V' c u) : Flat V' z es vs :=
  ⟨f.len, f.size, f.one, fun i x j c h1 h2 => by obtain ⟨u, a, b⟩ := f.v i x j c h1 h2; exact ⟨u, a, hV _ _ b⟩⟩
theorem idx_lt {i z j n : Nat} (hi : i < n) (hj : j < z) : i * z + j < n * z := by
  have := Nat.mul_le_mul_right z hi
  rw [Nat.succ_mul] at this
  omega
theorem Flat.append {V : AV → Value → Prop} {z : Nat} {es fs : List AV} {vs us : List Value} (f : Flat V z es vs) (g : Flat V z fs us) : Flat V z (es ++ fs) (vs ++ us) := by
  refine ⟨by simp [f.len, g.len, Nat.add_mul], fun x hx => (List.mem_append.1 hx).elim (f.size x) (g.size x), fun x hx => (List.mem_append.1 hx).elim (f.one x) (g.one x), fun i x j c h1 h2 => ?_⟩
  have hj : j < z := by
    have hm : x ∈ es ++ fs := List.mem_of_getElem? h1
    have := (List.getElem?_eq_some_iff.1 h2).1
    rcases List.mem_append.1 hm with hm | hm
    · rw [f.size x hm] at this; exact this
    · rw [g.size x hm] at this; exact this
  by_cases hi : i < es.length
  · rw [List.getElem?_append_left hi] at h1
    obtain ⟨u, a, b⟩ := f.v i x j c h1 h2
    exact ⟨u, by rw [List.getElem?_append_left (by rw [f.len]; exact idx_lt hi hj)]; exact a, b⟩
  · rw [List.getElem?_append_right (by omega)] at h1
    obtain ⟨u, a, b⟩ := g.v (i - es.length) x j c h1 h2
    have hle : es.length * z ≤ i * z := Nat.mul_le_mul_right z (by omega)
    have hs : (i - es.length) * z = i * z - es.length * z := Nat.sub_mul ..
    refine ⟨u, ?_, b⟩
    rw [List.getElem?_append_right (by rw [f.len]; omega), f.len, ← a]
    congr 1; omega
theorem Flat.take {V : AV → Value → Prop} {z : Nat} {es : List AV} {vs : List Value} (f : Flat V z es vs) (n : Nat) : Flat V z (es.take n) (vs.take (n * z)) := by
  refine ⟨?_, fun x hx => f.size x (List.mem_of_mem_take hx), fun x hx => f.one x (List.mem_of_mem_take hx), fun i x j c h1 h2 => ?_⟩
  · simp only [List.length_take, f.len]
    rcases Nat.le_total n es.length with h | h
    · rw [Nat.min_eq_left h, Nat.min_eq_left (Nat.mul_le_mul_right z h)]
    · rw [Nat.min_eq_right h, Nat.min_eq_right (Nat.mul_le_mul_right z h)]
  · rw [List.getElem?_take] at h1
    split at h1
    · rename_i hi
      obtain ⟨u, a, b⟩ := f.v i x j c h1 h2
      have hj : j < z := by
        have := (List.getElem?_eq_some_iff.1 h2).1
        rw [f.size x (List.mem_of_getElem? h1)] at this; exact this
      exact ⟨u, by rw [List.getElem?_take, if_pos (idx_lt hi hj)]; exact a, b⟩
    · cases h1
theorem Flat.drop {V : AV → Value → Prop} {z : Nat} {es : List AV} {vs : List Value} (f : Flat V z es vs) (n : Nat) : Flat V z (es.drop n) (vs.drop (n * z)) := by
  refine ⟨by simp [f.len, Nat.sub_mul], fun x hx => f.size x (List.mem_of_mem_drop hx), fun x hx => f.one x (List.mem_of_mem_drop hx), fun i x j c h1 h2 => ?_⟩
  rw [List.getElem?_drop] at h1
  obtain ⟨u, a, b⟩ := f.v (n + i) x j c h1 h2
  exact ⟨u, by rw [List.getElem?_drop, ← a]; congr 1; rw [Nat.add_mul]; omega, b⟩
theorem Flat.one1 {V : AV → Value → Prop} {z : Nat} {x : AV} {vs : List Value} (hl : (cells x).length = z) (hv : vs.length = z) (h1 : ∀ u ∈ vs, u.oneCell' = true)
    (h : ∀ (j : Nat) (c : AV), (cells x)[j]? = some c → ∃ u, vs[j]? = some u ∧ V c u) : Flat V z [x] vs :=
  ⟨by simp [hv], fun y hy => by simp at hy; subst hy; exact hl, h1, fun i y j c hi hj => by
    cases i with
    | zero => simp at hi; subst hi; obtain ⟨u, a, b⟩ := h j c hj; exact ⟨u, by simpa using a, b⟩
    | succ i => simp at hi⟩
theorem Flat.replicate {V : AV → Value → Prop} {z : Nat} {x : AV} {vs : List Value} (f : Flat V z [x] vs) : ∀ n, Flat V z (List.replicate n x) ((List.replicate n vs).flatten)
  | 0 => Flat.nil V z
  | n + 1 => by
    have := f.append (f.replicate n)
    simpa [List.replicate_succ] using this

/-- What lies flat in a block lies there element by element. -/
theorem Flat.cellsAt {V : AV → Value → Prop} {z : Nat} {es : List AV} {vs : List Value} (f : Flat V z es vs) {blk o : Nat}
    (hc : ∀ (k : Nat) (u : Value), vs[k]? = some u → w.cell? ⟨blk, o + k, none⟩ = some u) : ∀ i x, es[i]? = some x → CellsAt w V blk (o + i * z) x := by
  intro i x hi j c hj
  obtain ⟨u, a, b⟩ := f.v i x j c hi hj
  exact ⟨u, by rw [Nat.add_assoc]; exact hc _ u a, f.one u (List.mem_of_getElem? a), b⟩
/-- And the other way. -/
theorem Flat.of_cells {V : AV → Value → Prop} {z : Nat} {es : List AV} {blk o : Nat} (hz : ∀ x ∈ es, (cells x).length = z) (hc : ∀ i x, es[i]? = some x → CellsAt w V blk (o + i * z) x) :
    ∃ vs, Flat V z es vs ∧ ∀ (k : Nat) (u : Value), vs[k]? = some u → w.cell? ⟨blk, o + k, none⟩ = some u := by
  have rd : ∀ k, k < es.length * z → ∃ u, w.cell? ⟨blk, o + k, none⟩ = some u ∧ u.oneCell' = true := by
    intro k hk
    have hz0 : 0 < z := by rcases Nat.eq_zero_or_pos z with h | h; · simp [h] at hk
                           · exact h
    have hi : k / z < es.length := Nat.div_lt_of_lt_mul (by rw [Nat.mul_comm]; exact hk)
    have hj : k % z < (Ev.cells es[k / z]).length := by rw [hz _ (List.getElem_mem hi)]; exact Nat.mod_lt _ hz0
    obtain ⟨u, a, b, _⟩ := hc (k / z) _ (List.getElem?_eq_getElem hi) (k % z) _ (List.getElem?_eq_getElem hj)
    refine ⟨u, ?_, b⟩
    rw [← a]; congr 2
    have := Nat.div_add_mod k z
    rw [Nat.mul_comm] at this; omega
  let g : Nat → Value := fun k => (w.cell? ⟨blk, o + k, none⟩).getD undef
  have gk : ∀ k, k < es.length * z → w.cell? ⟨blk, o + k, none⟩ = some (g k) := fun k hk => by
    obtain ⟨u, a, _⟩ := rd k hk; show _ = some (Option.getD _ _); rw [a]; rfl
  have hget : ∀ k, k < es.length * z → ((List.range (es.length * z)).map g)[k]? = some (g k) := fun k hk => by simp [hk]
  refine ⟨(List.range (es.length * z)).map g, ⟨by simp, hz, ?_, ?_⟩, ?_⟩
  · intro u hu
    obtain ⟨k, hk, rfl⟩ := List.mem_map.1 hu
    have hk := List.mem_range.1 hk
    obtain ⟨u, a, b⟩ := rd k hk
    have := gk k hk; rw [a] at this; cases this; exact b
  · intro i x j c hi hj
    have hj' : j < z := by
      have := (List.getElem?_eq_some_iff.1 hj).1
      rw [hz x (List.mem_of_getElem? hi)] at this; exact this
    have hlt := idx_lt (List.getElem?_eq_some_iff.1 hi).1 hj'
    obtain ⟨u, a, _, b⟩ := hc i x hi j c hj
    rw [Nat.add_assoc, gk _ hlt] at a; cases a
    exact ⟨_, hget _ hlt, b⟩
  · intro k u hk
    have hlt : k < es.length * z := by have := (List.getElem?_eq_some_iff.1 hk).1; simpa using this
    rw [hget k hlt] at hk; cases hk
    exact gk k hlt

theorem add_lit (b o k : Nat) : (⟨b, o, none⟩ : Addr).add k = ⟨b, o + k, none⟩ := by unfold Addr.add; split <;> simp_all

/-- What a slice's elements are, flat. -/
theorem VF.flat {e : Nat} {es : List AV} {v : Value} (H : VF T S w (.lst e es) v) : ∃ oa cap vs, v = .slice oa es.length cap ∧ Flat (VF T S w) (T e).size es vs ∧
    (vs = [] ∨ ∃ a : Addr, oa = some a ∧ ∀ (k : Nat) (u : Value), vs[k]? = some u → w.cell? (a.add k) = some u) := by
  obtain ⟨oa, cap, rfl, _, hne⟩ := H.lst_to
  rcases es with _ | ⟨x, es⟩
  · exact ⟨oa, cap, [], rfl, Flat.nil _ _, .inl rfl⟩
  · obtain ⟨p, rfl, hS, hz, hc⟩ := hne (by simp)
    obtain ⟨vs, f, hk⟩ := Flat.of_cells hz hc
    exact ⟨_, cap, vs, rfl, f, .inr ⟨_, rfl, fun k u hu => by show w.cell? (Addr.add ⟨p.1, p.2, none⟩ k) = _; rw [add_lit]; exact hk k u hu⟩⟩

theorem HR.rowFlat (H : HR T Z S h ρ w) {b e : Nat} {es : List AV} (hb : h b = .row e es) : ∃ oa cap vs, ρ b = .row oa cap ∧ es.length ≤ cap ∧ Flat (VF T S w) (T e).size es vs ∧
    (vs = [] ∨ ∃ p : Nat × Nat, oa = some p ∧ 0 < cap ∧ ∀ (k : Nat) (u : Value), vs[k]? = some u → w.cell? ⟨p.1, p.2 + k, none⟩ = some u) := by
  have h0 := H.hb b
  unfold HB at h0
  rw [hb] at h0
  obtain ⟨oa, cap, h1, h2, h3, h4, h4', h5⟩ := h0
  rcases Nat.eq_zero_or_pos cap with hc | hc
  · have : es = [] := List.eq_nil_of_length_eq_zero (by omega)
    subst this
    exact ⟨oa, cap, [], h1, h2, Flat.nil _ _, .inl rfl⟩
  · cases oa with
    | none => have := h3 rfl; omega
    | some p =>
      obtain ⟨vs, f, hk⟩ := Flat.of_cells h4 (h5 p rfl hc).1
      exact ⟨_, cap, vs, h1, h2, f, .inr ⟨p, rfl, hc, hk⟩⟩

theorem HR.rowCap (H : HR T Z S h ρ w) {b e : Nat} {es : List AV} {oa : Option (Nat × Nat)} {cap : Nat} (hb : h b = .row e es) (hr : ρ b = .row oa cap) : es.length ≤ cap := by
  have h0 := H.hb b
  unfold HB at h0
  rw [hb] at h0
  obtain ⟨_, _, h1, h2, _⟩ := h0
  rw [hr] at h1; cases h1; exact h2

theorem elems_ok (H : HR T Z S h ρ w) {y : AV} {v : Value} {ys : List AV} (hv : VLc T S w h ρ y v) (hy : elems h y = some ys) :
    ∃ oa cap vs, v = .slice oa ys.length cap ∧ Flat (VF T S w) (T (elemT h y)).size ys vs ∧
      (vs = [] ∨ ∃ a : Addr, oa = some a ∧ ∀ (k : Nat) (u : Value), vs[k]? = some u → w.cell? (a.add k) = some u) := by
  cases y with
  | lst e es => simp only [elems, Option.some.injEq] at hy; subst hy; exact VF.flat (e := e) hv
  | nsl e =>
    simp only [elems, Option.some.injEq] at hy; subst hy
    have hv' : VF T S w (.nsl e) v := hv
    cases hv'; exact ⟨none, 0, [], rfl, Flat.nil _ _, .inl rfl⟩
  | ref b =>
    cases hb : h b with
    | row e es =>
      simp only [elems, hb, Option.some.injEq] at hy; subst hy
      simp only [VLc, hb, vw] at hv
      obtain ⟨oa, cap, h1, rfl⟩ := hv
      obtain ⟨oa2, cap2, vs, h2, _, f, hk⟩ := H.rowFlat hb
      rw [h1] at h2; cases h2
      refine ⟨_, _, vs, rfl, by simp only [elemT, hb]; exact f, hk.imp id fun ⟨p, hp, _, hk⟩ => ⟨adr p, by rw [hp]; rfl, fun k u hu => by show w.cell? (Addr.add ⟨p.1, p.2, none⟩ k) = _; rw [add_lit]; exact hk k u hu⟩⟩
    | fz e es =>
      simp only [elems, hb, Option.some.injEq] at hy; subst hy
      simp only [VLc, hb, vw] at hv
      obtain ⟨oa, cap, h1, rfl⟩ := hv
      have h0 := H.hb b
      unfold HB at h0
      rw [hb] at h0
      obtain ⟨oa2, cap2, h2, h3⟩ := h0
      rw [h1] at h2; cases h2
      have := h3.flat
      simpa [elemT, hb] using this
    | _ => simp [elems, hb] at hy
  | sub b i n =>
    cases hb : h b with
    | row e es =>
      simp only [elems, hb, Option.some.injEq] at hy; subst hy
      simp only [VLc, hb, vw] at hv
      obtain ⟨oa, cap, oa', h1, h2, rfl, h3⟩ := hv
      obtain ⟨oa2, cap2, vs, h4, _, f, hk⟩ := H.rowFlat hb
      rw [h1] at h4; cases h4
      have hlen : ((es.drop i).take n).length = n := by simp; omega
      refine ⟨_, _, _, by rw [hlen], by simp only [elemT, hb]; exact (f.drop i).take n, ?_⟩
      rcases Nat.eq_zero_or_pos n with rfl | hn
      · exact .inl (by simp)
      · rcases hk with hk | ⟨p, hp, _, hk⟩
        · exact .inl (by simp [hk])
        · obtain ⟨q, e1, e2⟩ := h3 (by omega)
          rw [hp] at e1; cases e1
          refine .inr ⟨_, e2, fun k u hu => ?_⟩
          rw [add_lit, Nat.add_assoc]
          refine hk _ u ?_
          rw [List.getElem?_take] at hu
          split at hu
          · rw [List.getElem?_drop] at hu; exact hu
          · cases hu
    | fz e es =>
      simp only [elems, hb, Option.some.injEq] at hy; subst hy
      have hf := fzc_ok H hv
      simp only [fzc, hb] at hf
      have := hf.v S h H (Goes.refl ..) (fun p hp => by simp at hp)
      have := this.flat
      simpa [elemT, hb] using this
    | _ => simp [elems, hb] at hy
  | fsub b n =>
    cases hb : h b with
    | row e es =>
      simp only [elems, hb, Option.some.injEq] at hy; subst hy
      simp only [VLc, hb, vw] at hv
      obtain ⟨oa, cap, h1, h2, rfl⟩ := hv
      obtain ⟨oa2, cap2, vs, h4, _, f, hk⟩ := H.rowFlat hb
      rw [h1] at h4; cases h4
      have hlen : (es.take n).length = n := by simp; omega
      refine ⟨_, _, _, by rw [hlen], by simp only [elemT, hb]; exact f.take n, ?_⟩
      rcases Nat.eq_zero_or_pos n with rfl | hn
      · exact .inl (by simp)
      · rcases hk with hk | ⟨p, hp, _, hk⟩
        · exact .inl (by simp [hk])
        · refine .inr ⟨adr p, by rw [hp]; rfl, fun k u hu => ?_⟩
          show w.cell? (Addr.add ⟨p.1, p.2, none⟩ k) = _
          rw [add_lit]
          refine hk _ u ?_
          rw [List.getElem?_take] at hu
          split at hu
          · exact hu
          · cases hu
    | fz e es =>
      simp only [elems, hb, Option.some.injEq] at hy; subst hy
      have hf := fzc_ok H hv
      simp only [fzc, hb] at hf
      have := hf.v S h H (Goes.refl ..) (fun p hp => by simp at hp)
      have := this.flat
      simpa [elemT, hb] using this
    | _ => simp [elems, hb] at hy
  | _ => simp [elems] at hy

end
end Go.Ev
