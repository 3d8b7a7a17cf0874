/- Words and lemmas for the law s of this seat (a part of its proof). -/
import Derived.Test.YtkbopikamadjoaaW12
set_option linter.unusedVariables false
set_option linter.unusedSimpArgs false
namespace Go.Ev.W
open Go.Ev Go.Ev.N

def formB : List Int := [0, 11, 12, 0, 0, 5, 2, 0, 0, 2, 0, 0, 3, 3, 0, 0, 7, 0, 0, 8, 4, 0, 0, 16, 0, 1, 0, 5, 0, 0, 16, 6, 1, 0, 0, 7, 0, 0, 4, 0, 0, 2, 8, 0, 0, 4, 0, 0, 3, 255, 9, 10, 1, 0, 0]
def formW : List O := [⟨1, 0, 5, 0, 0, 0⟩, ⟨2, 0, 3, 0, 2, 0⟩, ⟨3, 0, 7, 8, 0, 0⟩, ⟨4, 16, 256, 0, 0, 0⟩, ⟨5, 16, 0, 0, 0, 0⟩, ⟨6, 65536, 0, 0, 0, 0⟩, ⟨7, 4, 0, 0, 2, 0⟩, ⟨8, 4, 0, 0, 3, 255⟩, ⟨9, 0, 0, 0, 0, 0⟩, ⟨10, 0, 0, 0, 0, 0⟩]
def formX : List O := [⟨0, 0, 0, 0, 0, 0⟩, ⟨11, 0, 0, 0, 0, 0⟩, ⟨1, 0, -1, 0, 0, 0⟩, ⟨1, 0, 16777216, 0, 0, 0⟩, ⟨1, 1, 0, 0, 0, 0⟩, ⟨9, 0, 0, 0, 1, 0⟩, ⟨7, 0, 0, 0, 0, 1⟩, ⟨5, 0, 1, 0, 0, 0⟩]
theorem takeForm : take formB = formW := by decide +kernel
theorem putForm : putAll formX = [] := by decide +kernel
theorem isB_form : IsB formB := by
  intro b hb
  have : ∀ b ∈ formB, 0 ≤ b ∧ b < 256 := by decide
  exact this b hb
theorem isO_form : ∀ o ∈ formX, IsO o := by
  have : ∀ o ∈ formX, 0 ≤ o.b ∧ o.b < 256 := by decide
  exact this

set_option maxHeartbeats 8000000 in
set_option maxRecDepth 100000 in
theorem wireForms : Told P T law25_WireForms [] [] (.bool true) [] := by
  have ht := take_told formB isB_form (by decide)
  rw [takeForm] at ht
  have hs := sameOps formW formW (by decide)
  rw [decide_eq_true rfl] at hs
  have hp := putAll_told formX isO_form (by decide)
  rw [putForm] at hp
  refine told_of_ev (fn := law25_WireForms_fn) tabOk mixed (by kernel_rfl) (by kernel_rfl) (by kernel_rfl) (by kernel_rfl) ?_
  refine Choice.mk ⟨false, Choice.mk ⟨true, _, _, begun_told, ?_⟩⟩
  refine IfB.ff rfl ?_
  refine Need.mk (by decide) ?_
  refine Choice.mk ⟨false, Choice.mk ⟨false, _, _, ht, ?_⟩⟩
  refine Choice.mk ⟨false, Choice.mk ⟨false, _, _, hs, ?_⟩⟩
  repeat refine IfB.tt rfl ?_
  refine Choice.mk ⟨false, Choice.mk ⟨false, _, _, hp, ?_⟩⟩
  repeat refine IfB.tt rfl ?_
  exact RetN.mk ⟨[], rfl, rfl, rfl⟩
end Go.Ev.W
