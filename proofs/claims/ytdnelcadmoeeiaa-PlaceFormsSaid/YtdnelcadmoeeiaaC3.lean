/- Words and lemmas, part 3, for laws of this seat (a part of their proofs). -/
import Derived.Test.YtdnelcadmoeeiaaC2
set_option linter.unusedVariables false
set_option linter.unusedSimpArgs false
namespace Go.Ev.W
open Go.Ev Go.Ev.N

def cls11 : List Int := [0, 2, 1, 0, 0, 1]
def ats11 : List Int := [0, 4, 2, 1, -1, -1]
def st11 : Nat → (Nat → Bool) × List M
  | 0 => (offB, [])
  | i + 1 => (placeB 8 3 (st11 i).1 (cls11.getD i 0), placeL 1 8 3 (st11 i).1 (st11 i).2 (cls11.getD i 0))
theorem ok183 : NwOk 1 8 3 := by decide
theorem st11_ok : ∀ i, i ≤ 6 → EgOk 1 8 3 (st11 i).2 ∧ (st11 i).2.length ≤ i := by
  intro i
  induction i with
  | zero => exact fun _ => ⟨ok183.eg, by simp [st11]⟩
  | succ i ih =>
    intro h
    obtain ⟨h1, h2⟩ := ih (by omega)
    refine ⟨placeL_ok h1 (by omega) _, ?_⟩
    have := plLen 1 8 3 (st11 i).1 (st11 i).2 (cls11.getD i 0)
    show (placeL _ _ _ _ _ _).length ≤ i + 1
    omega
theorem st11_at : ∀ i, i < 6 → (lowS 8 3 (st11 i).1 (cls11.getD i 0)).isSome = decide (0 ≤ ats11.getD i 0) ∧ (placeA 1 8 3 (st11 i).1 (cls11.getD i 0) = ats11.getD i 0 ∨ ats11.getD i 0 < 0) := by decide
def fB11 : Nat → Bool := relB 1 (st11 6).1 (st11 6).2 4
def fL11 : List M := relL (st11 6).2 4
def gB11 : Nat → Bool := placeB 8 3 fB11 1
def gL11 : List M := placeL 1 8 3 fB11 fL11 1
set_option maxRecDepth 20000 in
set_option maxHeartbeats 8000000 in
theorem placeForms_walk : Told P T law11_PlaceForms [] [] (.bool true) [] := by
  have cb := begun11_told
  have c1 := plNew_told 1 8 3 (by omega) (by omega) (by omega)
  rw [decide_eq_true ok183, show nwE 1 8 3 = eE 1 8 3 offB [] from nw_yes ok183] at c1
  have c1 : Told P T place_New [] [i64 1, i64 8, i64 3] (.tup [eE 1 8 3 (st11 0).1 (st11 0).2, .bool true]) [] := c1
  have ok6 := (st11_ok 6 (by omega)).1
  have okf : EgOk 1 8 3 fL11 := relL_ok ok6 4
  have okg : EgOk 1 8 3 gL11 := placeL_ok okf (by decide) 1
  have r1 := plRel_told ok6 (b := (st11 6).1) 4 (by omega)
  rw [show isAt 4 (st11 6).2 = true by decide, show relK (st11 6).2 4 = 2 by decide] at r1
  have r1 : Told P T place_Release [] [eE 1 8 3 (st11 6).1 (st11 6).2, i64 4] (.tup [eE 1 8 3 fB11 fL11, i64 2, .bool true]) [] := r1
  have r2 := plPlace_told okf (b := fB11) 1 (by omega)
  rw [show (lowS 8 3 fB11 1).isSome = true by decide, show placeA 1 8 3 fB11 1 = 4 by decide] at r2
  have r2 : Told P T place_Place [] [eE 1 8 3 fB11 fL11, i64 1] (.tup [eE 1 8 3 gB11 gL11, i64 4, .bool true]) [] := r2
  have r3 := plPlace_told okg (b := gB11) 3 (by omega)
  rw [show (lowS 8 3 gB11 3).isSome = false by decide] at r3
  have r4 := plPlace_told okg (b := gB11) (-1) (by omega)
  rw [show (lowS 8 3 gB11 (-1)).isSome = false by decide] at r4
  have r5 := plRel_told okg (b := gB11) 5 (by omega)
  rw [show isAt 5 gL11 = false by decide] at r5
  have hgl : (gL11.map encM).length = 4 := by decide
  have n1 := plNew_told 0 8 3 (by omega) (by omega) (by omega)
  rw [show decide (NwOk 0 8 3) = false by decide] at n1
  have n2 := plNew_told 131072 8 3 (by omega) (by omega) (by omega)
  rw [show decide (NwOk 131072 8 3) = false from decide_eq_false fun h => by have := h.1.2.1; omega] at n2
  have n3 := plNew_told 65536 2 1 (by omega) (by omega) (by omega)
  rw [show decide (NwOk 65536 2 1) = false by decide] at n3
  have n4 := plNew_told 1 6 3 (by omega) (by omega) (by omega)
  rw [show decide (NwOk 1 6 3) = false by decide] at n4
  obtain ⟨a1, x1, y1, e1⟩ := nw_cells 0 8 3
  obtain ⟨a2, x2, y2, e2⟩ := nw_cells 131072 8 3
  obtain ⟨a3, x3, y3, e3⟩ := nw_cells 65536 2 1
  obtain ⟨a4, x4, y4, e4⟩ := nw_cells 1 6 3
  rw [e1] at n1
  rw [e2] at n2
  rw [e3] at n3
  rw [e4] at n4
  have hat := st11_at
  have hokk := st11_ok
  have hst : ∀ i, st11 (i + 1) = (placeB 8 3 (st11 i).1 (cls11.getD i 0), placeL 1 8 3 (st11 i).1 (st11 i).2 (cls11.getD i 0)) := fun i => rfl
  have hc6 : (cls11.map i64).length = 6 := rfl
  generalize st11 = s at *
  generalize fB11 = fB at *
  generalize fL11 = fL at *
  generalize gB11 = gB at *
  generalize gL11 = gL at *
  refine told_of_ev (fn := law11_PlaceForms_fn) tabOk mixed (by kernel_rfl) (by kernel_rfl) (by kernel_rfl) (by kernel_rfl) ?_
  (refine gw ?_; refine Choice.mk ⟨false, Choice.mk ⟨false, _, _, cb, ?_⟩⟩)
  (refine gw ?_; refine Choice.mk ⟨false, Choice.mk ⟨false, _, _, c1, ?_⟩⟩)
  (refine gw ?_; refine LoopN.mk ⟨[1,2,3,4,5], fun vs L => ∃ i : Nat, vs = [.ptr 0 0 0, .bool true, .lst t_int (cls11.map i64), .lst t_int (ats11.map i64), i64 i] ∧ L = [.var (eE 1 8 3 (s i).1 (s i).2)] ∧ i ≤ 6, fun vs L => match vs with | [_, _, _, _, .int _ i] => 6 - i.toNat | _ => 0, [3,4], [0], rfl, ⟨0, rfl, rfl, by omega⟩, ?_⟩)
  rintro vs L ⟨i, rfl, rfl, hi⟩
  by_cases hi6 : i < 6
  · obtain ⟨h1, h2⟩ := hat i hi6
    have hx : ∀ Q : AV → Prop, Q (i64 (cls11.getD i 0)) → Idx (cls11.map i64) ((i : Nat) : Int) Q := fun Q q => idx_map (k := i) hi6 (by
      have e : cls11.getD i 0 = cls11[i]'hi6 := by rw [List.getD_eq_getElem?_getD, List.getElem?_eq_getElem (show i < cls11.length from hi6)]; rfl
      rw [← e]; exact q)
    have hy : ∀ Q : AV → Prop, Q (i64 (ats11.getD i 0)) → Idx (ats11.map i64) ((i : Nat) : Int) Q := fun Q q => idx_map (k := i) hi6 (by
      have e : ats11.getD i 0 = ats11[i]'hi6 := by rw [List.getD_eq_getElem?_getD, List.getElem?_eq_getElem (show i < ats11.length from hi6)]; rfl
      rw [← e]; exact q)
    have hcb : ∀ k, k < 6 → -9223372036854775808 ≤ cls11.getD k 0 ∧ cls11.getD k 0 ≤ 9223372036854775807 := by decide
    have d1 := plPlace_told (hokk i hi).1 (b := (s i).1) (cls11.getD i 0) (hcb i hi6)
    have hs := hst i
    rw [h1] at d1
    have e0 : eE 1 8 3 (placeB 8 3 (s i).1 (cls11.getD i 0)) (placeL 1 8 3 (s i).1 (s i).2 (cls11.getD i 0)) = eE 1 8 3 (s (i + 1)).1 (s (i + 1)).2 := by rw [hs]
    rw [e0] at d1
    clear e0 hs
    generalize cls11.getD i 0 = cl at *
    generalize ats11.getD i 0 = a at *
    generalize placeA 1 8 3 (s i).1 cl = pa at *
    by_cases ha : 0 ≤ a
    · have hpa : pa = a := by omega
      subst hpa
      rw [decide_eq_true ha] at d1
      (refine gw ?_; refine IfB.tt (by rw [hc6]; simp; omega) ?_)
      (refine gw ?_)
      refine hx _ ?_
      (refine gw ?_; refine Choice.mk ⟨false, Choice.mk ⟨false, _, _, d1, ?_⟩⟩)
      (refine gw ?_)
      refine hy _ ?_
      (refine gw ?_; refine IfB.ff (by simp; omega) ?_)
      (refine gw ?_)
      refine hy _ ?_
      (refine gw ?_; refine ⟨[], [0], rfl, ⟨i + 1, rfl, rfl, by omega⟩, (by omega : 6 - ((i : Int) + 1).toNat < 6 - (i : Int).toNat)⟩)
    · rw [decide_eq_false ha] at d1
      (refine gw ?_; refine IfB.tt (by rw [hc6]; simp; omega) ?_)
      (refine gw ?_)
      refine hx _ ?_
      (refine gw ?_; refine Choice.mk ⟨false, Choice.mk ⟨false, _, _, d1, ?_⟩⟩)
      (refine gw ?_)
      refine hy _ ?_
      (refine gw ?_; refine IfB.ff (by simp; omega) ?_)
      (refine gw ?_; refine ⟨[], [0], rfl, ⟨i + 1, rfl, rfl, by omega⟩, (by omega : 6 - ((i : Int) + 1).toNat < 6 - (i : Int).toNat)⟩)
  · obtain rfl : i = 6 := by omega
    (refine gw ?_; refine Choice.mk ⟨false, Choice.mk ⟨false, _, _, r1, ?_⟩⟩)
    (refine gw ?_; refine Choice.mk ⟨false, Choice.mk ⟨false, _, _, r2, ?_⟩⟩)
    (refine gw ?_; refine Choice.mk ⟨false, Choice.mk ⟨false, _, _, r3, ?_⟩⟩)
    (refine gw ?_; refine Choice.mk ⟨false, Choice.mk ⟨false, _, _, r4, ?_⟩⟩)
    (refine gw ?_; refine Choice.mk ⟨false, Choice.mk ⟨false, _, _, r5, ?_⟩⟩)
    (refine gw ?_; refine Choice.mk ⟨false, Choice.mk ⟨false, _, _, n1, ?_⟩⟩)
    (refine gw ?_; refine Choice.mk ⟨false, Choice.mk ⟨false, _, _, n2, ?_⟩⟩)
    (refine gw ?_; refine Choice.mk ⟨false, Choice.mk ⟨false, _, _, n3, ?_⟩⟩)
    (refine gw ?_; refine Choice.mk ⟨false, Choice.mk ⟨false, _, _, n4, ?_⟩⟩)
    (refine gw ?_)
    rw [hgl]
    (refine gw ?_; exact RetN.mk ⟨[], rfl, rfl, rfl⟩)
end Go.Ev.W
