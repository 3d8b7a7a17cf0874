/- What the library's functions tell: those without a body. -/
import Derived.Test.YtbhjocgepgpnmaaEvOpen
import Derived.Lib.Overlaps
set_option linter.unusedVariables false
set_option linter.unusedSimpArgs false
namespace Go.Ev

section
variable {P : Program} {T : Tab}

theorem shape_of_has {w : World} {b o : Nat} (h : Has w ⟨b, o, none⟩) : ∃ t k, w.shape? b = some (t, k) ∧ k ≠ 0 := by
  obtain ⟨u, h1, _⟩ := h
  simp only [World.cell?] at h1
  simp only [World.shape?]
  cases hb : w.heap[b]? with
  | none => rw [hb] at h1; cases h1
  | some x =>
    rw [hb] at h1
    cases x with
    | cells c e r =>
      refine ⟨e, c.size, rfl, fun h0 => ?_⟩
      simp only at h1
      have := (Array.getElem?_eq_some_iff.1 h1).1
      omega
    | _ => simp at h1

/-- Two rows of their own do not overlap. -/
theorem told_overlaps (hT : TabOk P T) {f : Nat} {fn : Func} {tS tR e : Nat} (hf : P.funcs[f]? = some fn) (hname : (fn.name == "runtime.NumGoroutine") = false) (hb : fn.body.isNone = true) (hn : Extern.findNext fn = none)
    (he : Extern.find fn = some (Extern.SlicesOverlaps.overlaps #[tS, tS] #[tR])) (hk : (T tS).k = .slice e) (hz : isB (T e).k = false) (xs es : List AV) (hx : 0 < xs.length) (i n : Nat) :
    Told P T f [.row e xs, .row e es] [.ref 0, .sub 1 i n] (.bool false) [.row e xs, .row e es] := by
  refine ⟨fun Z S ρ w vals H hl hv => .inr ⟨.bool false, w, ?_, S, ρ, H, Goes.refl .., VF.bool false⟩⟩
  obtain ⟨hu, hke, hz0⟩ := hT.slice hk
  have e0 : vals = #[vals[0]'(by rw [hl]; exact Nat.le_of_ble_eq_true rfl), vals[1]'(by rw [hl]; exact Nat.le_of_ble_eq_true rfl)] := by
    apply Array.ext
    · simp [hl]
    · intro j h1 h2
      simp at h2
      match j, h2 with
      | 0, _ => rfl
      | 1, _ => rfl
  have v0 : VLc T S w (ofL [.row e xs, .row e es]) ρ (.ref 0) (vals[0]'(by rw [hl]; exact Nat.le_of_ble_eq_true rfl)) := hv 0 _ _ rfl (Array.getElem?_eq_getElem _)
  have v1 : VLc T S w (ofL [.row e xs, .row e es]) ρ (.sub 1 i n) (vals[1]'(by rw [hl]; exact Nat.le_of_ble_eq_true rfl)) := hv 1 _ _ rfl (Array.getElem?_eq_getElem _)
  obtain ⟨oa, cap, r1, e1⟩ : ∃ oa cap, ρ 0 = .row oa cap ∧ (vals[0]'(by rw [hl]; exact Nat.le_of_ble_eq_true rfl)) = .slice (oa.map adr) xs.length cap := v0
  obtain ⟨ob, cap', ob', r2, r3, e2, r4⟩ : ∃ oa cap oa', ρ 1 = .row oa cap ∧ i + n ≤ es.length ∧ (vals[1]'(by rw [hl]; exact Nat.le_of_ble_eq_true rfl)) = .slice oa' n (cap - i) ∧ (cap - i ≠ 0 → ∃ p : Nat × Nat, oa = some p ∧ oa' = some ⟨p.1, p.2 + i * (T e).size, none⟩) := v1
  rw [e1, e2] at e0
  rw [e0, run_callFunc_extern hf hname hb hn he]
  have h0 := H.hb 0
  unfold HB at h0
  obtain ⟨oa2, cap2, s1, s2, s3, s4, s4', s5⟩ : ∃ oa cap, ρ 0 = .row oa cap ∧ RowAt T S w e xs oa cap := h0
  rw [r1] at s1; cases s1
  have h1 := H.hb 1
  unfold HB at h1
  obtain ⟨ob2, cap3, t1, t2, t3, t4, t4', t5⟩ : ∃ oa cap, ρ 1 = .row oa cap ∧ RowAt T S w e es oa cap := h1
  rw [r2] at t1; cases t1
  have run : (Extern.SlicesOverlaps.overlaps #[tS, tS] #[tR] #[.slice (oa.map adr) xs.length cap, .slice ob' n (cap' - i)]).run P w = .ok (.bool false) w := by
    cases oa with
    | none => have := s3 rfl; omega
    | some p =>
      cases ob' with
      | none =>
        change Sem.run P (α := Value) (do
          let some t := (#[tS, tS] : Array TypeId)[0]? | stuck "slices.overlaps: no parameter types"
          let .slice elem ← underlying t | stuck "slices.overlaps: slice type expected"
          let size ← sizeOf elem
          pure (Value.bool false)) w = _
        simp [run_underlying hu, hT.sizeOf w hke]
      | some b0 =>
        rcases Nat.eq_zero_or_pos n with rfl | hn0
        · change Sem.run P (α := Value) (do
            let some t := (#[tS, tS] : Array TypeId)[0]? | stuck "slices.overlaps: no parameter types"
            let .slice elem ← underlying t | stuck "slices.overlaps: slice type expected"
            let size ← sizeOf elem
            if xs.length = 0 ∨ 0 = 0 ∨ size = 0 then pure (.bool false)
            else if (adr p).block != b0.block && (← frozen (adr p)) && (← frozen b0) then unsupported .addressObserved
            else do
              if (adr p).block != b0.block then do
                noView (adr p); noView b0
                if ← mayBeOne (adr p) b0 then return Value.bool ((← choose (.extern "sameAddr.stringBytes" 2)) == 1)
              pure (Value.bool ((adr p).block == b0.block && (adr p).off < b0.off + 0 * size && b0.off < (adr p).off + xs.length * size))) w = _
          simp [run_underlying hu, hT.sizeOf w hke]
        · obtain ⟨q, rfl, hq⟩ := r4 (by omega)
          cases hq
          have c1 : 0 < cap := by omega
          have c2 : 0 < cap' := by omega
          have ha := ((s5 p rfl c1).2 0 (Nat.mul_pos c1 (s4'.1 c1))).1
          have hb' := ((t5 q rfl c2).2 0 (Nat.mul_pos c2 (t4'.1 c2))).1
          obtain ⟨tA, kA, a1, _⟩ := shape_of_has ha
          obtain ⟨tB, kB, b1, b2⟩ := shape_of_has hb'
          have hne : p.1 ≠ q.1 := fun h => H.apart 0 1 p.1 (by decide) rfl rfl (by rw [r1]; exact mem_row c1) (by rw [r2, h]; exact mem_row c2)
          exact Go.Lib.run_overlaps_apart w tS tR e hu (T e).size (fun w => hT.sizeOf w hke) (adr p) ⟨q.1, q.2 + i * (T e).size, none⟩ xs.length cap n (cap' - i) hne tA tB kA kB a1 b1 b2
            (s4'.2 hz p rfl c1 _) (s4'.2 hz p rfl c1 _)
  rw [run]; rfl
end
end Go.Ev
