/- Words and lemmas for the law s of this seat (a part of its proof). -/
import Derived.Test.YtkbopikamadjoaaW7
set_option linter.unusedVariables false
set_option linter.unusedSimpArgs false
namespace Go.Ev.W
open Go.Ev Go.Ev.N

def o1 : O := ⟨1, 0, 258, 0, 0, 0⟩
def o2 : O := ⟨9, 0, 0, 0, 0, 0⟩
theorem put12 : putAll [o1, o2] = [1, 0, 1, 2, 9] := by decide +kernel
theorem take12 : take [1, 0, 1, 2, 9] = [o1, o2] := by decide +kernel

set_option maxHeartbeats 8000000 in
theorem begun_told : Told P T law25_begun [] [] (.bool true) [] := by
  have h14 := putAll_told [o1, o2] (by intro o ho; simp at ho; rcases ho with rfl | rfl <;> exact ⟨by decide, by decide⟩) (by decide)
  rw [put12] at h14
  have h12 := take_told [1, 0, 1, 2, 9] (by intro b hb; simp at hb; omega) (by decide)
  rw [take12] at h12
  refine told_of_ev (fn := law25_begun_fn) tabOk mixed (by kernel_rfl) (by kernel_rfl) (by kernel_rfl) (by kernel_rfl) ?_
  refine Choice.mk ⟨false, Choice.mk ⟨false, _, _, h14, ?_⟩⟩
  refine Choice.mk ⟨false, Choice.mk ⟨false, _, _, h12, ?_⟩⟩
  refine Bytes.mk ⟨⟨#[1, 0, 1, 2, 9]⟩, rfl, ?_⟩
  refine IfB.tt (beq_self_eq_true _) ?_
  refine IfB.tt rfl ?_
  refine IfB.tt rfl ?_
  refine IfB.tt rfl ?_
  refine IfB.tt rfl ?_
  refine InB.mk (Int.le_refl _) (by show (0 : Int) < 2; decide) ?_
  refine IfB.tt rfl ?_
  refine IfB.tt rfl ?_
  refine At.mk ⟨encO o1, rfl, ?_⟩
  refine IfB.tt rfl ?_
  refine IfB.tt rfl ?_
  refine IfB.tt rfl ?_
  refine InB.mk (by decide) (by show (1 : Int) < 2; decide) ?_
  refine IfB.tt rfl ?_
  refine IfB.tt rfl ?_
  refine At.mk ⟨encO o2, rfl, ?_⟩
  refine IfB.tt rfl ?_
  refine RetN.mk ⟨[], rfl, ?_, rfl⟩
  rfl
end Go.Ev.W
