/- Rows of pointers: what they tell. -/
import Derived.Test.YtbhjocgepgpnmaaEvGrid
set_option linter.unusedVariables false
set_option linter.unusedSimpArgs false
namespace Go.Ev

section
variable {P : Program} {T : Tab} {Z : Base} {S : Nat → Prop} {w : World} {h : AHeap} {ρ : Rho} {K : AV → Ups → Nat → Prop} {nx : Nat}
  {Q : AV → Prop} {N : Value → World → Prop}

theorem fill_one : ∀ (l : List (Nat × Value)) (k n : Nat) (acc : Array Value), acc.size = n → k + l.length = n →
    (∀ (i : Nat) (q : Nat × Value), l[i]? = some q → q.1 = k + i ∧ q.2.oneCell' = true) →
    ∃ r, Instr.fill (fun i => some (i * 1, 1)) acc l = some r ∧ r.size = n ∧ (∀ j, j < k → r[j]? = acc[j]?) ∧ ∀ (i : Nat) (q : Nat × Value), l[i]? = some q → r[k + i]? = some q.2
  | [], k, n, acc, h1, h2, _ => ⟨acc, rfl, h1, fun j _ => rfl, fun i q h => by simp at h⟩
  | (i0, v) :: l, k, n, acc, h1, h2, h3 => by
    obtain ⟨q1, q2⟩ := h3 0 (i0, v) rfl
    simp only [Nat.add_zero] at q1 q2
    subst q1
    have hvc := cells_one q2
    obtain ⟨r, r1, r2, r3, r4⟩ := fill_one l (i0 + 1) n (acc.setIfInBounds i0 v) (by simpa using h1) (by simp only [List.length_cons] at h2; omega) (fun i q hq => by
      have := h3 (i + 1) q (by simpa using hq); exact ⟨by omega, this.2⟩)
    have hlt : i0 < acc.size := by simp only [List.length_cons] at h2; omega
    refine ⟨r, ?_, r2, fun j hj => ?_, fun i q hi => ?_⟩
    · simp only [Instr.fill, hvc, Nat.mul_one]
      rw [if_neg (by simp; omega)]
      have : (#[v] : Array Value).zipIdx.foldl (fun cs (c, j) => cs.setIfInBounds (i0 + j) c) acc = acc.setIfInBounds i0 v := by
        simp
      simpa [this] using r1
    · rw [r3 j (by omega), Array.getElem?_setIfInBounds_ne (by omega)]
    · cases i with
      | zero =>
        simp at hi; subst hi
        rw [Nat.add_zero, r3 _ (by omega)]
        simp [hlt]
      | succ i => have := r4 i q (by simpa using hi); rwa [show i0 + 1 + i = i0 + (i + 1) by omega] at this

theorem run_buildP (hT : TabOk P T) {t e n : Nat} (hk : (T t).k = .slice e) (h1 : (T e).size = 1) (hn0 : 0 < n) (hn : n ≤ 1000) {qs : Array (Nat × Value)} (hs : qs.size = n)
    (hq : ∀ (i : Nat) (q : Nat × Value), qs[i]? = some q → q.1 = i ∧ q.2.oneCell' = true) :
    ∃ r : Array Value, (Instr.buildSlice t n qs).run P w = .ok (.slice (some ⟨w.heap.size, 0, none⟩) n n) (w.alloc (.cells r e)) ∧ r.size = n ∧ ∀ (i : Nat) (q : Nat × Value), qs[i]? = some q → r[i]? = some q.2 := by
  obtain ⟨hu, he, hz0⟩ := hT.slice hk
  obtain ⟨z, z1, z2, z3⟩ := hT.zeroValue w he
  have hzs : z.cells.size = 1 := by rw [z2, h1]
  obtain ⟨r, r1, r2, _, r4⟩ := fill_one qs.toList 0 n ((Array.range (n * 1)).map (z.cells[· % z.cells.size]!)) (by simp) (by simp; omega) (fun i q hq' => by
    have := hq i q (by simpa using hq'); exact ⟨by omega, this.2⟩)
  refine ⟨r, ?_, r2, fun i q hi => by have := r4 i q (by simpa using hi); simpa using this⟩
  simp only [Instr.buildSlice, Sem.run_bind, run_underlying hu, Result.andThen_ok, hT.sizeOf w he, h1]
  rw [if_neg (by simp; omega)]
  have hn1 : n * 1 ≠ 0 := by omega
  simp only [Nat.mul_one] at hn1 r1 ⊢
  simp only [hn1, if_false, Sem.run_bind, z1, Sem.run_pure, Result.andThen_ok] at r1 ⊢
  simp only [r1, newRow, Sem.run_bind, run_newObj, Result.andThen_ok, Sem.run_pure]; rfl

theorem pBuild_ok (hT : TabOk P T) (H : HR T Z S h ρ w) (fr : Fr h nx K) (hn : Nexts T Z S w h ρ K N) {t e n : Nat} (hk : (T t).k = .slice e) {ps : List (Nat × AV)} {qs : Array (Nat × Value)} (hl : ps.length = qs.size) (hn0 : 0 < n)
    (hpq : ∀ (k : Nat) (p : Nat × AV) (q : Nat × Value), ps[k]? = some p → qs[k]? = some q → p.1 = q.1 ∧ VLt T S w h ρ p.2 q.2) (hp : ∀ p ∈ ps, isPtrV p.2 = true) (hr : pBuild T e n ps nx K) :
    Gives P (Instr.buildSlice t n qs) w N := by
  unfold pBuild at hr
  cases hc : Nat.beq n ps.length && (ps.map (·.1) == List.range n) && Nat.beq (T e).size 1 && Nat.ble n 1000 with
  | false => rw [hc] at hr; exact hr.p.elim
  | true =>
    rw [hc] at hr
    simp only [Bool.and_eq_true] at hc
    obtain ⟨⟨⟨c1, c2⟩, c3⟩, c4⟩ := hc
    have c1 := Nat.eq_of_beq_eq_true c1
    have c2 : ps.map (·.1) = List.range n := by simpa using c2
    have c3 := Nat.eq_of_beq_eq_true c3
    have c4 := Nat.le_of_ble_eq_true c4
    have pv : ∀ (k : Nat) (p : Nat × AV) (q : Nat × Value), ps[k]? = some p → qs[k]? = some q → q.1 = k ∧ VLc T S w h ρ p.2 q.2 ∧ q.2.oneCell' = true := by
      intro k p q h1 h2
      obtain ⟨a1, a2⟩ := hpq k p q h1 h2
      have hi : p.1 = k := by
        have h3 : (ps.map (·.1))[k]? = some p.1 := by simp [h1]
        rw [c2] at h3
        have hlt := (List.getElem?_eq_some_iff.1 h3).1
        simp at hlt
        rw [List.getElem?_range hlt] at h3
        exact (Option.some.inj h3).symm
      have hpp := hp p (List.mem_of_getElem? h1)
      obtain ⟨p1, x⟩ := p
      simp only at a1 a2 hi hpp ⊢
      cases x with
      | ptr b i off =>
        have a3 : VLc T S w h ρ (.ptr b i off) q.2 := a2
        exact ⟨by omega, a3, a3.one rfl⟩
      | _ => cases hpp
    have hnx := fr _ _ _ hr nx (Nat.le_refl _) (by omega)
    obtain ⟨r, hrun, r2, r3⟩ := run_buildP (P := P) (w := w) hT hk c3 hn0 c4 (qs := qs) (by omega) (fun i q hq => by
      have hlt : i < ps.length := by have := (Array.getElem?_eq_some_iff.1 hq).1; omega
      have := pv i _ q (List.getElem?_eq_getElem hlt) hq
      exact ⟨this.1, this.2.2⟩)
    have hcell : ∀ j, (w.alloc (.cells r e)).cell? ⟨w.heap.size, j, none⟩ = r[j]? := fun j => World.cell?_alloc_new w _ e j
    have hnew : happ h [(nx, .var (.agg (ps.map (·.2))))] nx = .var (.agg (ps.map (·.2))) := hset_same _ _ _
    obtain ⟨H2, G2⟩ := H.upd (S' := S) (h' := happ h [(nx, .var (.agg (ps.map (·.2))))]) (ρ' := rset ρ nx (.at w.heap.size 0)) (w' := w.alloc (.cells r e)) (fun d => d = nx) (r := none)
      ⟨rfl, rfl, rfl, by simp, fun k hk _ => heap_alloc_old w _ hk⟩ (fun k e => by cases e) (fun d hd => ⟨hset_ne _ _ hd, rset_ne _ _ hd⟩)
      (fun d hd => by subst hd; exact .inl (by rw [hnx]; rfl))
      (fun _ h => h) (fun _ h => .inl h)
      (fun go d hd => by
        subst hd
        unfold HB
        rw [hnew]
        refine ⟨w.heap.size, 0, rset_same _ _ _, fun j c hj => ?_, fun j hj => ?_⟩
        · have hj' : (ps.map (·.2))[j]? = some c := hj
          rw [List.getElem?_map] at hj'
          cases hp2 : ps[j]? with
          | none => rw [hp2] at hj'; cases hj'
          | some p =>
            rw [hp2] at hj'
            simp at hj'
            subst hj'
            have hlt := (List.getElem?_eq_some_iff.1 hp2).1
            obtain ⟨q, hq⟩ : ∃ q, qs[j]? = some q := ⟨_, Array.getElem?_eq_getElem (by omega)⟩
            obtain ⟨_, a2, a3⟩ := pv j p q hp2 hq
            refine ⟨q.2, by rw [Nat.zero_add]; exact (hcell j).trans (r3 j q hq), a3, go.vlc a2⟩
        · rw [Nat.zero_add]; exact World.frozen?_alloc_new w _ e j)
      (fun d k2 hd hl' hk => by
        subst hd
        rw [rset_same] at hk
        simp only [realL, List.mem_singleton] at hk
        subst hk
        exact ⟨.inl ⟨Nat.le_refl _, by simp⟩, fun hS => by have := H.sS _ hS; omega⟩)
      (fun d d2 k2 hd hd2 hne hl hl2 => by subst hd; subst hd2; exact absurd rfl hne)
    refine ⟨_, _, hrun, hn _ _ _ _ _ S _ hr H2 G2 ?_⟩
    show VLc T S (w.alloc (.cells r e)) (happ h [(nx, .var (.agg (ps.map (·.2))))]) (rset ρ nx (.at w.heap.size 0)) (.fsub nx n) _
    simp only [VLc, hnew, vw]
    exact ⟨w.heap.size, 0, rset_same _ _ _, rfl⟩

theorem isP_iff {x : AV} (hx : isP h x = true) : ∃ b n y, x = .fsub b n ∧ h b = .var y := by
  cases x with
  | fsub b n =>
    simp only [isP] at hx
    cases hb : h b with
    | var y => exact ⟨b, n, y, rfl, hb⟩
    | _ => rw [hb] at hx; cases hx
  | _ => cases hx

theorem pIndex_ok (hT : TabOk P T) (H : HR T Z S h ρ w) {t : Nat} {x i : AV} {u ui : Value} (hP : isP h x = true) (hx : VLt T S w h ρ x u) (hi : VLt T S w h ρ i ui) (hr : pIndex T t x i Q) :
    ∃ v r, Q v ∧ (Instr.indexAt t u ui).run P w = .ok r w ∧ VLt T S w h ρ v r := by
  obtain ⟨b, n, y, rfl, hb⟩ := isP_iff hP
  unfold pIndex at hr
  cases i with
  | int k m =>
    obtain rfl := vl_int hi
    cases hk : (T t).k with
    | slice e =>
      simp only [hk] at hr
      have hx' : VLc T S w h ρ (.fsub b n) u := hx
      simp only [VLc, hb, vw] at hx'
      obtain ⟨blk, o, r1, rfl⟩ := hx'
      cases hs : Nat.beq (T e).size 1 with
      | false => rw [hs] at hr; exact hr.p.elim
      | true =>
        rw [hs] at hr
        have hs := Nat.eq_of_beq_eq_true hs
        have l0 := hr.lo
        have l1 := hr.hi
        refine ⟨_, _, hr.p, run_indexAtS hT hk l0 l1, ?_⟩
        show VLc T S w h ρ (.ptr b 0 m.toNat) _
        simp only [VLc, hb, vw]
        exact ⟨blk, o, r1, by rw [hs]; simp [Addr.add]⟩
    | _ => simp only [hk] at hr; exact hr.p.elim
  | _ => exact hr.p.elim

theorem pLen_ok (hT : TabOk P T) (H : HR T Z S h ρ w) {t ty : Nat} {x : AV} {u : Value} {ts : Array Nat} {us : Array Value} (h0 : ts[0]? = some t) (h1 : us[0]? = some u) (hP : isP h x = true) (hx : VLt T S w h ρ x u) (hr : pLen T t x Q) :
    ∃ v r, Q v ∧ (Builtin.len_ ts ty us).run P w = .ok r w ∧ VLt T S w h ρ v r := by
  obtain ⟨b, n, y, rfl, hb⟩ := isP_iff hP
  unfold pLen at hr
  cases hk : (T t).k with
  | slice e =>
    simp only [hk] at hr
    have hx' : VLc T S w h ρ (.fsub b n) u := hx
    simp only [VLc, hb, vw] at hx'
    obtain ⟨blk, o, r1, rfl⟩ := hx'
    refine ⟨_, _, hr, ?_, vl_mkint _ _⟩
    unfold Builtin.len_
    simp only [h0, h1, Sem.run_bind, run_underlying (hT.slice hk).1, Result.andThen_ok]
    rfl
  | _ => simp only [hk] at hr; exact hr.p.elim
end
end Go.Ev
