/- copy, clear, make. -/
import Derived.Test.YtdnelcadmoeeiaaGreatEvOp11
import Derived.Laws.MakeOwn
import Derived.Laws.OwnMore
set_option linter.unusedVariables false
set_option linter.unusedSimpArgs false
namespace Go.Ev

section
variable {P : Program} {T : Tab} {Z : Base} {S : Nat → Prop} {w : World} {h : AHeap} {ρ : Rho} {K : AV → Ups → Nat → Prop} {nx : Nat} {N : Value → World → Prop} {Q : AV → Prop}

/-- Elements are written over a part of a row. -/
theorem HR.spliceRow (H : HR T Z S h ρ w) {b e : Nat} {es ms : List AV} {oa : Option (Nat × Nat)} {cap i : Nat} {vs : List Value} (hb : h b = .row e es) (hr : ρ b = .row oa cap) (hi : i + ms.length ≤ es.length)
    (f : Flat (VF T S w) (T e).size ms vs) (hm : 0 < ms.length) :
    ∃ p : Nat × Nat, oa = some p ∧ (storeCells ⟨p.1, p.2 + i * (T e).size, none⟩ vs).run P w = .ok () (w.setCells p.1 (p.2 + i * (T e).size) vs) ∧
      HR T Z S (hset h b (.row e (es.take i ++ (ms ++ es.drop (i + ms.length))))) ρ (w.setCells p.1 (p.2 + i * (T e).size) vs) ∧
      Goes T S w h ρ S (w.setCells p.1 (p.2 + i * (T e).size) vs) (hset h b (.row e (es.take i ++ (ms ++ es.drop (i + ms.length))))) ρ := by
  have h0 := H.hb b
  unfold HB at h0
  rw [hb] at h0
  obtain ⟨oa2, cap2, s1, s2, s3, s4, s4', s5⟩ := h0
  rw [hr] at s1; cases s1
  have hcap : 0 < cap := by omega
  cases oa with
  | none => have := s3 rfl; omega
  | some p =>
    obtain ⟨s6, s7⟩ := s5 p rfl hcap
    have hin : i * (T e).size + vs.length ≤ cap * (T e).size := by
      rw [f.len, ← Nat.add_mul]; exact Nat.mul_le_mul_right _ (by omega)
    have hst := run_storeCells_cells (P := P) p.1 (p.2 + i * (T e).size) vs 0 w (fun j hj => by
        have := (s7 (i * (T e).size + j) (by omega)).1.some
        rwa [show p.2 + i * (T e).size + 0 + j = p.2 + (i * (T e).size + j) by omega]) (fun j hj => by
        have := (s7 (i * (T e).size + j) (by omega)).2
        rwa [show p.2 + i * (T e).size + 0 + j = p.2 + (i * (T e).size + j) by omega]) f.one
    simp only [Nat.add_zero] at hst
    refine ⟨p, rfl, hst, ?_⟩
    have hlen : (es.take i ++ (ms ++ es.drop (i + ms.length))).length = es.length := by simp; omega
    have same : ∀ blk, S blk → (w.setCells p.1 (p.2 + i * (T e).size) vs).heap[blk]? = w.heap[blk]? := by
      intro blk hS
      refine (setCells_grown p.1 vs _ w).block blk (H.sS blk hS) fun e' => ?_
      cases e'
      have := H.own b p.1 (by rw [hb]; rfl) (by rw [hr]; exact mem_row (by omega))
      exact this.2.1 hS
    have kF : ∀ c u, VF T S w c u → VF T S (w.setCells p.1 (p.2 + i * (T e).size) vs) c u := fun c u hv => hv.mono (fun _ h => h) same
    have hmem : ∀ x ∈ es.take i ++ (ms ++ es.drop (i + ms.length)), (cells x).length = (T e).size := by
      intro x hx
      simp only [List.mem_append] at hx
      rcases hx with hx | hx | hx
      · exact s4 x (List.mem_of_mem_take hx)
      · exact f.size x hx
      · exact s4 x (List.mem_of_mem_drop hx)
    refine H.storeRow (vs := vs) hb hr hcap hlen hmem ?_ hin f.one
    intro k x hx
    have oldc : es[k]? = some x → (k < i ∨ i + ms.length ≤ k) → CellsAt (w.setCells p.1 (p.2 + i * (T e).size) vs) (VF T S (w.setCells p.1 (p.2 + i * (T e).size) vs)) p.1 (p.2 + k * (T e).size) x := by
      intro hk hd j c hj
      obtain ⟨u, u1, u2, u3⟩ := s6 k x hk j c hj
      refine ⟨u, ?_, u2, kF _ _ u3⟩
      rw [World.cell?_setCells_out p.1 vs _ w _ (fun _ _ => ?_)]; exact u1
      have hj' : j < (T e).size := by
        have := (List.getElem?_eq_some_iff.1 hj).1
        rw [s4 x (List.mem_of_getElem? hk)] at this; exact this
      show p.2 + k * (T e).size + j < p.2 + i * (T e).size ∨ p.2 + i * (T e).size + vs.length ≤ p.2 + k * (T e).size + j
      rw [f.len]
      rcases hd with hd | hd
      · left
        have := Nat.mul_le_mul_right (T e).size (show k + 1 ≤ i by omega)
        rw [Nat.succ_mul] at this; omega
      · right
        have := Nat.mul_le_mul_right (T e).size hd
        rw [Nat.add_mul] at this; omega
    have htl : (es.take i).length = i := by simp; omega
    by_cases h1 : k < i
    · rw [List.getElem?_append_left (by omega), List.getElem?_take, if_pos h1] at hx
      exact oldc hx (.inl h1)
    · rw [List.getElem?_append_right (by omega), htl] at hx
      by_cases h2 : k - i < ms.length
      · rw [List.getElem?_append_left h2] at hx
        intro j c hj
        obtain ⟨u, u1, u2⟩ := f.v (k - i) x j c hx hj
        have hlt := (List.getElem?_eq_some_iff.1 u1).1
        have := World.cell?_setCells_in p.1 vs (p.2 + i * (T e).size) w (fun j hj => by
          have := (s7 (i * (T e).size + j) (by omega)).1.some
          rwa [show p.2 + i * (T e).size + j = p.2 + (i * (T e).size + j) by omega]) ((k - i) * (T e).size + j) hlt
        refine ⟨u, ?_, f.one u (List.mem_of_getElem? u1), kF _ _ u2⟩
        have e1 : p.2 + i * (T e).size + ((k - i) * (T e).size + j) = p.2 + k * (T e).size + j := by
          have : k * (T e).size = i * (T e).size + (k - i) * (T e).size := by rw [← Nat.add_mul]; congr 1; omega
          omega
        rw [e1] at this
        rw [this, ← u1, List.getElem?_eq_getElem hlt]
      · rw [List.getElem?_append_right (by omega), List.getElem?_drop] at hx
        rw [show i + ms.length + (k - i - ms.length) = k by omega] at hx
        exact oldc hx (.inr (by omega))

theorem copyV_ok (hT : TabOk P T) (H : HR T Z S h ρ w) (hn : Nexts T Z S w h ρ K N) {t u ty : Nat} {x y : AV} {vx vy : Value} (hx : VLt T S w h ρ x vx) (hy : VLt T S w h ρ y vy)
    (hr : copyV T t x y h nx K) : Gives P (Builtin.copy_ #[t, u] ty #[vx, vy]) w N := by
  unfold copyV at hr
  cases hk : (T t).k with
  | slice e =>
    rw [hk] at hr
    simp only at hr
    obtain ⟨hu, he, hz0⟩ := hT.slice hk
    cases hs : Nat.beq (T (elemT h y)).size (T e).size with
    | false => rw [hs] at hr; exact hr.p.elim
    | true =>
      rw [hs] at hr
      have hsz := Nat.eq_of_beq_eq_true hs
      cases hys : elems h y with
      | none => rw [hys] at hr; exact hr.p.elim
      | some ys =>
        rw [hys] at hr
        simp only at hr
        have hyc : VLc T S w h ρ y vy := by cases y <;> first | exact hy | (simp [elems] at hys)
        obtain ⟨ob, cb, news, rfl, fy, ky⟩ := elems_ok H hyc hys
        rw [hsz] at fy
        have main : ∀ (b i m : Nat) (es : List AV) (oa : Option (Nat × Nat)) (cap : Nat) (oa' : Option Addr) (c : Nat), h b = .row e es → ρ b = .row oa cap → i + m ≤ es.length → (0 < m → ∃ p, oa = some p ∧ oa' = some ⟨p.1, p.2 + i * (T e).size, none⟩) →
            K (.int .i64 (min ys.length m)) [(b, .row e (es.take i ++ (ys.take (min ys.length m) ++ es.drop (i + min ys.length m))))] nx → Gives P (Builtin.copy_ #[t, u] ty #[.slice oa' m c, .slice ob ys.length cb]) w N := by
          intro b i m es oa cap oa' c hb hrb hi hp hK
          have hmin : Nat.min ys.length m = min ys.length m := rfl
          have hfl := fy.take (min ys.length m)
          have hfc : (Builtin.firstCells (T e).size (min ys.length m) (.slice ob ys.length cb)).run P w = .ok (news.take (min ys.length m * (T e).size)).toArray w := by
            refine run_first (vs := news.take (min ys.length m * (T e).size)) ?_ ?_
            · have := hfl.len; rw [this]; congr 1; simp
            · refine ky.imp (fun h => by rw [h]; simp) fun ⟨a, ha, hk⟩ => ⟨a, ha, fun k u hu => hk k u ?_⟩
              rw [List.getElem?_take] at hu
              split at hu
              · exact hu
              · cases hu
          have head : (Builtin.copy_ #[t, u] ty #[.slice oa' m c, .slice ob ys.length cb]).run P w =
              ((match oa' with | some a => storeCells a (news.take (min ys.length m * (T e).size)) | none => pure () : Sem Unit).run P w).andThen fun _ w' => .ok (goInt ((min ys.length m : Nat) : Int)) w' := by
            simp only [Builtin.copy_, List.getElem?_toArray, List.getElem?_cons_zero, List.getElem?_cons_succ, Sem.run_bind, run_underlying hu, Result.andThen_ok, Builtin.lenOf, Sem.run_pure, hT.sizeOf w he, hmin, hfc]
            cases oa' with
            | none => simp
            | some a => simp
          have hgo : goInt ((min ys.length m : Nat) : Int) = .int .i64 (min (ys.length : Int) (m : Int)) := by
            show Value.int .i64 _ = Value.int .i64 _
            congr 1; omega
          rcases Nat.eq_zero_or_pos (min ys.length m) with h0 | h0
          · have e1 : es.take i ++ (ys.take (min ys.length m) ++ es.drop (i + min ys.length m)) = es := by rw [h0]; simp
            rw [e1] at hK
            refine ⟨goInt ((min ys.length m : Nat) : Int), w, ?_, ?_⟩
            · rw [head, h0]
              cases oa' <;> simp [storeCells]
            · have hh : happ h [(b, .row e es)] = h := by
                funext j
                by_cases hj : j = b
                · subst hj; rw [hb]; exact hset_same _ _ _
                · exact hset_ne _ _ hj
              refine hn _ _ _ _ w S ρ hK ?_ ?_ ?_
              · rw [hh]; exact H
              · rw [hh]; exact Goes.refl ..
              · rw [hh, hgo]; exact vl_mkint _ _
          · obtain ⟨p, rfl, rfl⟩ := hp (by omega)
            have hl2 : (ys.take (min ys.length m)).length = min ys.length m := by simp
            obtain ⟨p', e', st, H2, G2⟩ := H.spliceRow (P := P) (i := i) hb hrb (by rw [hl2]; omega) hfl (by rw [hl2]; exact h0)
            cases e'
            rw [hl2] at H2 G2
            refine ⟨goInt ((min ys.length m : Nat) : Int), _, ?_, hn _ _ _ _ _ S ρ hK H2 G2 (by rw [hgo]; exact vl_mkint _ _)⟩
            rw [head]
            simp only [st, Result.andThen_ok]
        cases x with
        | ref b =>
          simp only at hr
          have hx' : VLc T S w h ρ (.ref b) vx := hx
          simp only [VLc] at hx'
          cases hb : h b with
          | row e' es =>
            simp only [hb] at hr hx'
            simp only [vw] at hx'
            obtain ⟨oa, cap, r1, rfl⟩ := hx'
            cases hee : Nat.beq e e' with
            | false => rw [hee] at hr; exact hr.p.elim
            | true =>
              rw [hee] at hr
              obtain rfl := Nat.eq_of_beq_eq_true hee
              obtain ⟨oa2, cap2, olds, q1, q2, q3, q4⟩ := H.rowFlat hb
              rw [r1] at q1; cases q1
              refine main b 0 es.length es oa cap _ _ hb r1 (by omega) (fun hp => ?_) (by simpa using hr)
              have h0 := H.hb b
              unfold HB at h0
              rw [hb] at h0
              obtain ⟨oa3, cap3, s1, s2, s3, _⟩ := h0
              rw [r1] at s1; cases s1
              cases oa with
              | none => have := s3 rfl; omega
              | some p => exact ⟨p, rfl, by simp [adr]⟩
          | _ => simp only [hb] at hr; exact hr.p.elim
        | sub b i m =>
          simp only at hr
          have hx' : VLc T S w h ρ (.sub b i m) vx := hx
          simp only [VLc] at hx'
          cases hb : h b with
          | row e' es =>
            simp only [hb] at hr hx'
            simp only [vw] at hx'
            obtain ⟨oa, cap, oa', r1, r2, rfl, r3⟩ := hx'
            cases hee : Nat.beq e e' with
            | false => rw [hee] at hr; exact hr.p.elim
            | true =>
              rw [hee] at hr
              obtain rfl := Nat.eq_of_beq_eq_true hee
              exact main b i m es oa cap _ _ hb r1 r2 (fun hp => r3 (by have := H.rowCap hb r1; omega)) hr
          | _ => simp only [hb] at hr; exact hr.p.elim
        | _ => exact hr.p.elim
  | _ => rw [hk] at hr; exact hr.p.elim

theorem clearV_ok (hT : TabOk P T) (H : HR T Z S h ρ w) (hn : Nexts T Z S w h ρ K N) {t ty : Nat} {x : AV} {vx : Value} (hx : VLt T S w h ρ x vx)
    (hr : clearV T t x h nx K) : Gives P (Builtin.clear_ #[t] ty #[vx]) w N := by
  unfold clearV at hr
  cases hk : (T t).k with
  | slice e =>
    rw [hk] at hr
    simp only at hr
    obtain ⟨hu, he, hz0⟩ := hT.slice hk
    cases x with
    | sub b i m =>
      simp only at hr
      have hx' : VLc T S w h ρ (.sub b i m) vx := hx
      simp only [VLc] at hx'
      cases hb : h b with
      | row e' es =>
        simp only [hb] at hr hx'
        simp only [vw] at hx'
        obtain ⟨oa, cap, oa', r1, r2, rfl, r3⟩ := hx'
        cases hc : Nat.beq e e' && zOk (T e).k with
        | false => rw [hc] at hr; exact hr.p.elim
        | true =>
          rw [hc] at hr
          simp only [Bool.and_eq_true] at hc
          obtain rfl := Nat.eq_of_beq_eq_true hc.1
          have hnil : VLt T S w h ρ (.tup []) (.tuple #[]) := ⟨#[], rfl, rfl, fun j c u a => by simp at a⟩
          cases m with
          | zero =>
            have e1 : es.take i ++ (List.replicate 0 (zeroE T e) ++ es.drop (i + 0)) = es := by simp
            rw [e1] at hr
            refine ⟨.tuple #[], w, ?_, ?_⟩
            · simp only [Builtin.clear_, List.getElem?_toArray, List.getElem?_cons_zero, Sem.run_bind, run_underlying hu, Result.andThen_ok]
              cases oa' <;> simp
            · have hh : happ h [(b, .row e es)] = h := by
                funext j
                by_cases hj : j = b
                · subst hj; rw [hb]; exact hset_same _ _ _
                · exact hset_ne _ _ hj
              refine hn _ _ _ _ w S ρ hr ?_ ?_ ?_
              · rw [hh]; exact H
              · rw [hh]; exact Goes.refl ..
              · rw [hh]; exact hnil
          | succ m =>
            obtain ⟨p, rfl, rfl⟩ := r3 (by have := H.rowCap hb r1; omega)
            obtain ⟨z, z1, z2, z3⟩ := zeroE_ok (w := w) (S := S) hT hc.2
            have fl := z3.replicate (m + 1)
            obtain ⟨p', e', st, H2, G2⟩ := H.spliceRow (P := P) (i := i) hb r1 (by simpa using r2) fl (by simp)
            cases e'
            simp only [List.length_replicate] at H2 G2
            refine ⟨.tuple #[], _, ?_, hn _ _ _ (.tuple #[]) _ S ρ hr H2 G2 ⟨#[], rfl, rfl, fun j c u a => by simp at a⟩⟩
            simp only [Builtin.clear_, List.getElem?_toArray, List.getElem?_cons_zero, Sem.run_bind, run_underlying hu, Result.andThen_ok]
            simp only [Sem.run_bind, z1, Result.andThen_ok, rep_zero, st, Sem.run_pure]
      | _ => simp only [hb] at hr; exact hr.p.elim
    | _ => exact hr.p.elim
  | _ => rw [hk] at hr; exact hr.p.elim

theorem mksliceV_ok (hT : TabOk P T) (H : HR T Z S h ρ w) (fr : Fr h nx K) (hn : Nexts T Z S w h ρ K N) {t : Nat} {l c : AV} {vl vc : Value} (hl : VLt T S w h ρ l vl) (hc : VLt T S w h ρ c vc)
    (hr : mksliceV T t l c nx K) : Gives P (Instr.makeSlice t vl vc) w N := by
  unfold mksliceV at hr
  cases hk : (T t).k with
  | slice e =>
    rw [hk] at hr
    cases l with
    | int kl n =>
      cases c with
      | int kc m =>
        obtain rfl := vl_int hl
        obtain rfl := vl_int hc
        simp only at hr
        obtain ⟨hu, he, hz0⟩ := hT.slice hk
        cases hq : Nat.ble (T e).bytes 1024 && zOk (T e).k with
        | false => rw [hq] at hr; exact hr.p.elim
        | true =>
          rw [hq] at hr
          simp only [Bool.and_eq_true] at hq
          have hb := Nat.le_of_ble_eq_true hq.1
          obtain ⟨rfl, h0, hroom⟩ : m = n ∧ 0 ≤ n ∧ Room n.toNat (K (.ref nx) [(nx, .row e (List.replicate n.toNat (zeroE T e)))] (nx + 1)) := ⟨hr.c, hr.p.c, hr.p.p⟩
          have hsz := hroom.n
          obtain ⟨i, z, i1, i2, i3, i4, i5, _⟩ := hT.info he
          obtain ⟨z', z1, z2, z3⟩ := zeroE_ok (w := w) (S := S) hT hq.2
          have hzz : z' = z := by
            have : (zeroValue e).run P w = .ok z w := by simp [Go.zeroValue, typeInfo, i1, i4]
            rw [z1] at this; cases this; rfl
          subst hzz
          have hb2 : i.bytes * m.toNat ≤ 281474976710656 := by
            rw [i3]
            have := Nat.mul_le_mul hb hsz
            omega
          have hb3 : (i.bytes : Int) * m ≤ 281474976710656 := by
            have h1 : ((i.bytes * m.toNat : Nat) : Int) ≤ 281474976710656 := by omega
            rwa [Int.natCast_mul, Int.toNat_of_nonneg h0] at h1
          have hrun := run_make (P := P) w t e i z' hu i1 i4 kl kc m m h0 (Int.le_refl _) hb3 (by omega)
          rw [i2, ← z2, rep_made] at hrun
          have hnx := fr _ _ _ hroom.p nx (Nat.le_refl _) (by omega)
          have fl := z3.replicate m.toNat
          obtain ⟨H2, G2⟩ := H.newRow (e := e) (vs := (List.replicate m.toNat z'.cells.toList).flatten) (rest := #[]) (t := e) (cap := m.toNat) hnx hz0 fl (by simp) (by rw [fl.len]; simp) (by simp) w rfl rfl rfl rfl
          rw [Array.append_empty] at H2 G2
          refine ⟨_, _, hrun, hn _ _ _ _ _ S (rset ρ nx (.row (some (w.heap.size, 0)) m.toNat)) hroom.p H2 G2 ?_⟩
          have goal : ∀ w' : World, VLc T S w' (hset h nx (.row e (List.replicate m.toNat (zeroE T e)))) (rset ρ nx (.row (some (w.heap.size, 0)) m.toNat)) (.ref nx) (.slice (some ⟨w.heap.size, 0, none⟩) m.toNat m.toNat) := by
            intro w'
            simp only [VLc, hset_same, vw, List.length_replicate]
            exact ⟨some (w.heap.size, 0), m.toNat, rset_same _ _ _, rfl⟩
          exact goal (w.alloc (.cells (List.replicate m.toNat z'.cells.toList).flatten.toArray e))
      | _ => exact hr.p.elim
    | _ => exact hr.p.elim
  | _ => rw [hk] at hr; exact hr.p.elim

end
end Go.Ev
