/- Words and lemmas for the law s of this seat (a part of its proof). -/
import Derived.Test.YtkbopikamadjoaaW3
set_option linter.unusedVariables false
set_option linter.unusedSimpArgs false
namespace Go.Ev.W
open Go.Ev Go.Ev.N

def takeF : Nat → List Int → List O
  | 0, _ => []
  | _ + 1, [] => []
  | f + 1, b :: bs => if b % 11 = 0 then takeF f bs else match one (b % 11) bs with
    | (o, n, true) => o :: takeF f (bs.drop n)
    | (_, _, false) => []
def take (bs : List Int) : List O := takeF bs.length bs

theorem takeF_more : ∀ (f : Nat) (bs : List Int), bs.length ≤ f → takeF f bs = take bs := by
  intro f
  induction f using Nat.strongRecOn with
  | _ f ih =>
    intro bs hf
    cases bs with
    | nil => cases f <;> rfl
    | cons b bs =>
      cases f with
      | zero => simp at hf
      | succ f =>
        simp only [List.length_cons] at hf
        have e : ∀ m, m ≤ bs.length → takeF f (bs.drop m) = takeF bs.length (bs.drop m) := fun m hm => by
          rw [ih f (by omega) _ (by simp; omega)]
          rcases Nat.lt_or_ge bs.length (f + 1) with h | h
          · exact (ih bs.length (by omega) _ (by simp)).symm
          · omega
        have e0 := e 0 (Nat.zero_le _)
        simp only [List.drop_zero] at e0
        unfold take
        simp only [List.length_cons, takeF]
        rw [e0]
        split
        · rfl
        · split
          · rename_i o n _
            rcases Nat.lt_or_ge bs.length n with h | h
            · rw [List.drop_eq_nil_of_le (by omega)]; cases f <;> cases bs.length <;> rfl
            · rw [e n h]
          · rfl

theorem take_nil : take [] = [] := rfl
theorem take_cons (b : Int) (bs : List Int) : take (b :: bs) = if b % 11 = 0 then take bs else match one (b % 11) bs with
    | (o, n, true) => o :: take (bs.drop n)
    | (_, _, false) => [] := by
  show takeF (bs.length + 1) (b :: bs) = _
  simp only [takeF]
  split
  · rfl
  · split
    · rename_i o n _
      rw [takeF_more _ _ (by simp)]
    · rfl
end Go.Ev.W
