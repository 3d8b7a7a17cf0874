/- Conversions. -/
import Derived.Test.YtbhjocgepgpnmaaEvOp12
import Derived.Laws.IdiomStrings
set_option linter.unusedVariables false
set_option linter.unusedSimpArgs false
namespace Go.Ev

section
variable {P : Program} {T : Tab} {Z : Base} {S : Nat → Prop} {w : World} {h : AHeap} {ρ : Rho} {K : AV → Ups → Nat → Prop} {nx : Nat} {N : Value → World → Prop} {Q : AV → Prop}

theorem HR.newRowOf (H : HR T Z S h ρ w) (hnx : h nx = .none) {e : Nat} (hu : isB (T e).k = true) {es : List AV} {vs : List Value} {cap : Nat} (hz : 0 < (T e).size)
    (f : Flat (VF T S w) (T e).size es vs) (hcap : es.length ≤ cap) (w1 : World) (o : Obj) (hw : w1.heap = w.heap) (h1 : w1.os = w.os) (h2 : w1.tape = w.tape) (h3 : w1.output = w.output)
    (hv : ∀ (k : Nat) (u : Value), vs[k]? = some u → (w1.alloc o).cell? ⟨w.heap.size, k, none⟩ = some u)
    (hs : ∀ j, j < cap * (T e).size → Has (w1.alloc o) ⟨w.heap.size, j, none⟩ ∧ (w1.alloc o).frozen? ⟨w.heap.size, j, none⟩ = false) :
    HR T Z S (hset h nx (.row e es)) (rset ρ nx (.row (some (w.heap.size, 0)) cap)) (w1.alloc o) ∧
      Goes T S w h ρ S (w1.alloc o) (hset h nx (.row e es)) (rset ρ nx (.row (some (w.heap.size, 0)) cap)) := by
  refine H.new1 hnx (w' := w1.alloc o) ⟨h1, h2, h3, by simp [hw], fun k hk _ => (heap_alloc_old w1 _ k (by rw [hw]; exact hk)).trans (by rw [hw])⟩ (.row e es) (.row (some (w.heap.size, 0)) cap) (fun go => ?_) (fun _ k hk => by cases cap <;> simp [realL, realR] at hk; subst hk; simp [hw])
  unfold HB
  rw [hset_same, rset_same]
  refine ⟨_, _, rfl, hcap, fun h => (by cases h), f.size, ⟨fun _ => hz, fun hb => by rw [hu] at hb; cases hb⟩, fun p hp hc => ?_⟩
  cases hp
  refine ⟨?_, fun j hj => ?_⟩
  · refine (f.mono (fun c u h => h.mono go.s go.w)).cellsAt (o := 0) fun k u hk => ?_
    rw [Nat.zero_add]
    exact hv k u hk
  · rw [Nat.zero_add]; exact hs j hj

theorem flat_bytes (l : List UInt8) : Flat (VF T S w) 1 (l.map fun b => .int .u8 b.toNat) (l.map fun b => Value.int .u8 b.toNat) := by
  refine ⟨by simp, fun x hx => ?_, fun u hu => ?_, fun i x j c hi hj => ?_⟩
  · simp only [List.mem_map] at hx; obtain ⟨b, _, rfl⟩ := hx; rfl
  · simp only [List.mem_map] at hu; obtain ⟨b, _, rfl⟩ := hu; rfl
  · simp only [List.getElem?_map, Option.map_eq_some_iff] at hi
    obtain ⟨b, hb, rfl⟩ := hi
    cases j with
    | zero =>
      simp [cells] at hj; subst hj
      refine ⟨.int .u8 b.toNat, ?_, VF.int _ _⟩
      simp [hb]
    | succ j => simp [cells] at hj

theorem convV_ok (hT : TabOk P T) (H : HR T Z S h ρ w) (fr : Fr h nx K) (hn : Nexts T Z S w h ρ K N) {src dst : Nat} {v : AV} {u : Value} (hv : VLt T S w h ρ v u)
    (hr : convV T src dst v h nx K) : Gives P (convert src dst u) w N := by
  unfold convV at hr
  cases hs : (T src).k with
  | int k0 =>
    cases hd : (T dst).k with
    | int k =>
      rw [hs, hd] at hr
      simp only at hr
      cases v with
      | int k1 n =>
        obtain rfl := vl_int hv
        refine Gives.pure hn H hr.p ?_ (vl_mkint _ _)
        simp [convert, run_underlying (hT.int hs), run_underlying (hT.int hd), Conv.intToInt]
      | _ => exact hr.p.elim
    | _ => rw [hs, hd] at hr; exact hr.p.elim
  | str =>
    cases hd : (T dst).k with
    | slice e =>
      rw [hs, hd] at hr
      simp only at hr
      cases v with
      | str c =>
        obtain rfl := vl_str hv
        cases hk : (T e).k with
        | int k =>
          rw [hk] at hr
          cases k with
          | u8 =>
            simp only at hr
            obtain ⟨hu, he, hz0⟩ := hT.slice hd
            have hrun := run_bytes_of_string (P := P) w src dst e c (hT.str hs) hu (hT.int hk)
            have hsz : (T e).size = 1 := (hT.info he).elim fun i hi => hi.elim fun z hz => by
              have := hz.2.2.2.2.2
              rw [hk, hT.int hk] at this
              simp [kindOk] at this
              exact this.1
            have hnx := fr _ _ _ hr.p nx (Nat.le_refl _) (by omega)
            have hge : c.size ≤ grownCap w c.size 0 e := grownCap_ge w _ _ _
            have hcl : c.data.toList.length = c.size := by simp
            have hrow : (bytesRow c (grownCap w c.size 0 e)).size = grownCap w c.size 0 e := by
              simp only [bytesRow, Array.size_append, Array.size_map, Array.size_replicate]
              have : c.data.size = c.size := rfl
              omega
            obtain ⟨H2, G2⟩ := H.newRowOf (e := e) (hu := by rw [hk]; rfl) (es := c.data.toList.map fun b => .int .u8 b.toNat) (vs := c.data.toList.map fun b => Value.int .u8 b.toNat) (cap := grownCap w c.size 0 e) hnx hz0
              (by rw [hsz]; exact flat_bytes _) (by rw [List.length_map, hcl]; exact hge) w.drew
              (.cells (bytesRow c (grownCap w c.size 0 e)) e ((bytesRow c (grownCap w c.size 0 e)).size, (bytesRow c (grownCap w c.size 0 e)).size + 1)) rfl rfl rfl rfl
              (fun k u hk => by
                have hlt := (List.getElem?_eq_some_iff.1 hk).1
                simp only [List.length_map] at hlt
                have hb : (w.drew.alloc (.cells (bytesRow c (grownCap w c.size 0 e)) e ((bytesRow c (grownCap w c.size 0 e)).size, (bytesRow c (grownCap w c.size 0 e)).size + 1))).heap[w.heap.size]? = some (.cells (bytesRow c (grownCap w c.size 0 e)) e ((bytesRow c (grownCap w c.size 0 e)).size, (bytesRow c (grownCap w c.size 0 e)).size + 1)) := by
                  show (w.heap.push _)[w.heap.size]? = _
                  simp
                simp only [World.cell?, hb]
                simp only [bytesRow]
                rw [Array.getElem?_append_left (by simp only [Array.size_map]; rw [← Array.length_toList]; exact hlt)]
                rw [Array.getElem?_map]
                rw [List.getElem?_map] at hk
                simpa using hk)
              (fun j hj => by
                rw [hsz, Nat.mul_one] at hj
                have hb : (w.drew.alloc (.cells (bytesRow c (grownCap w c.size 0 e)) e ((bytesRow c (grownCap w c.size 0 e)).size, (bytesRow c (grownCap w c.size 0 e)).size + 1))).heap[w.heap.size]? = some (.cells (bytesRow c (grownCap w c.size 0 e)) e ((bytesRow c (grownCap w c.size 0 e)).size, (bytesRow c (grownCap w c.size 0 e)).size + 1)) := by
                  show (w.heap.push _)[w.heap.size]? = _
                  simp
                constructor
                · have hlt : j < (bytesRow c (grownCap w c.size 0 e)).size := by rw [hrow]; exact hj
                  refine ⟨(bytesRow c (grownCap w c.size 0 e))[j], ?_, ?_⟩
                  · simp only [World.cell?, hb]
                    exact Array.getElem?_eq_getElem hlt
                  · have hm : (bytesRow c (grownCap w c.size 0 e))[j] ∈ bytesRow c (grownCap w c.size 0 e) := Array.getElem_mem hlt
                    generalize (bytesRow c (grownCap w c.size 0 e))[j] = z at hm
                    simp only [bytesRow, Array.mem_append, Array.mem_map, Array.mem_replicate] at hm
                    rcases hm with ⟨b, _, rfl⟩ | ⟨_, rfl⟩ <;> rfl
                · rw [← hrow] at hj
                  simp only [World.frozen?, hb]
                  simp only [Bool.and_eq_false_iff, decide_eq_false_iff_not]
                  omega)
            refine ⟨_, _, hrun, hn _ _ _ _ _ S (rset ρ nx (.row (some (w.heap.size, 0)) (grownCap w c.size 0 e))) hr.p H2 G2 ?_⟩
            have goal : ∀ w' : World, VLc T S w' (hset h nx (.row e (c.data.toList.map fun b => .int .u8 b.toNat))) (rset ρ nx (.row (some (w.heap.size, 0)) (grownCap w c.size 0 e))) (.ref nx) (.slice (some ⟨w.heap.size, 0, none⟩) c.size (grownCap w c.size 0 e)) := by
              intro w'
              simp only [VLc, hset_same, vw, List.length_map, hcl]
              exact ⟨some (w.heap.size, 0), _, rset_same _ _ _, rfl⟩
            exact goal (w.drew.alloc (.cells (bytesRow c (grownCap w c.size 0 e)) e ((bytesRow c (grownCap w c.size 0 e)).size, (bytesRow c (grownCap w c.size 0 e)).size + 1)))
          | _ => exact hr.p.elim
        | _ => rw [hk] at hr; exact hr.p.elim
      | _ => exact hr.p.elim
    | str =>
      rw [hs, hd] at hr
      simp only at hr
      cases v with
      | str c =>
        obtain rfl := vl_str hv
        refine Gives.pure hn H hr ?_ hv
        simp [convert, run_underlying (hT.str hs), run_underlying (hT.str hd)]
      | _ => exact hr.p.elim
    | _ => rw [hs, hd] at hr; exact hr.p.elim
  | slice e =>
    cases hd : (T dst).k with
    | str =>
      rw [hs, hd] at hr
      simp only at hr
      cases hk : (T e).k with
      | int k =>
        rw [hk] at hr
        cases k with
        | u8 =>
          cases hes : elems h v with
          | none => rw [hes] at hr; exact hr.p.elim
          | some es =>
            rw [hes] at hr
            cases hq : Nat.beq (T (elemT h v)).size 1 with
            | false => rw [hq] at hr; exact hr.p.elim
            | true =>
              rw [hq] at hr
              simp only at hr
              have hsz := Nat.eq_of_beq_eq_true hq
              have hvc : VLc T S w h ρ v u := by cases v <;> first | exact hv | (simp [elems] at hes)
              obtain ⟨oa, cb, vs, rfl, fy, ky⟩ := elems_ok H hvc hes
              rw [hsz] at fy
              obtain ⟨c, rfl, hK⟩ := hr.p
              obtain ⟨hu, he, hz0⟩ := hT.slice hs
              have hvl : vs.length = c.data.toList.length := by rw [fy.len]; simp
              refine Gives.pure (v := .str c) (u := .string c) hn H hK ?_ (VF.str c)
              cases oa with
              | none =>
                rw [run_convert_bytes_string w src dst e _ _ _ hu (hT.int hk) (hT.str hd)]
                have : vs = [] := by
                  rcases ky with h | ⟨a, ha, _⟩
                  · exact h
                  · cases ha
                subst this
                have h0 : c.data.toList = [] := List.eq_nil_of_length_eq_zero (by simpa using hvl.symm)
                have h1 : c = ByteArray.empty := by
                  cases c with | mk d => simp at h0; subst h0; rfl
                subst h1
                simp [Conv.bytesToString]
              | some a =>
                have hcell : ∀ j (hj : j < c.data.toList.length), w.cell? (a.add j) = some (.int .u8 (c.data.toList[j].toNat : Int)) := by
                  intro j hj
                  obtain ⟨x, x1, x2⟩ := fy.v j (.int .u8 c.data.toList[j].toNat) 0 (.int .u8 c.data.toList[j].toNat) (by rw [List.getElem?_map, List.getElem?_eq_getElem hj]; rfl) rfl
                  rw [Nat.mul_one, Nat.add_zero] at x1
                  rcases ky with h | ⟨b, hb, hkk⟩
                  · subst h; simp at x1
                  · cases hb
                    rw [hkk j x x1]
                    obtain rfl := vl_int (h := h) (ρ := ρ) (show VLt T S w h ρ (.int .u8 c.data.toList[j].toNat) x from x2)
                    rfl
                have := run_convert_bytes_back w src dst e a cb c.data.toList hu (hT.int hk) (hT.str hd) hcell
                rw [List.length_map, this]
        | _ => exact hr.p.elim
      | _ => rw [hk] at hr; exact hr.p.elim
    | _ => rw [hs, hd] at hr; exact hr.p.elim
  | _ => rw [hs] at hr; exact hr.p.elim

end
end Go.Ev
