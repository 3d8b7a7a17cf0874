/- Words and lemmas for the law s of this seat (a part of its proof). -/
import Derived.Test.YtkbopikamadjoaaW5
set_option linter.unusedVariables false
set_option linter.unusedSimpArgs false
namespace Go.Ev.W
open Go.Ev Go.Ev.N

def getO (o : O) (b : UInt8) : Int := if b = 80 then o.p else if b = 83 then o.s else if b = 65 then o.a else o.n
def w8 (v : Int) : Int := IntKind.u8.wrap v
def three (v : Int) : List Int := [w8 (v.fdiv (2 ^ min (Int.toNat 16) IntKind.i64.bits)), w8 (v.fdiv (2 ^ min (Int.toNat 8) IntKind.i64.bits)), w8 v]
def putO (o : O) : List Int := w8 o.k :: ((fieldsOf o.k).flatMap fun f => three (getO o f)) ++ (if o.k = 8 then [o.b] else [])

theorem encB_app (a b : List Int) : encB (a ++ b) = encB a ++ encB b := by simp [encB]

set_option maxHeartbeats 8000000 in
theorem put_told (o : O) : Told P T wire_put [] [encO o] (.ref 0) [.row t_uint8 (encB (putO o))] := by
  refine told_of_ev (fn := wire_put_fn) tabOk mixed (by kernel_rfl) (by kernel_rfl) (by kernel_rfl) (by kernel_rfl) ?_
  refine Fits.mk ?_
  refine Choice.mk ⟨false, Choice.mk ⟨true, _, _, fields_told o.k, ?_⟩⟩
  refine Room.mk (Nat.le_trans (fieldsOf_len o.k) (by decide)) ?_
  refine LoopN.mk ⟨[1, 3, 14, 15, 16], fun vs L => ∃ (i : Nat) (bs : List Int), vs = [.ptr 0 0 0, .ref 1, .ref 2, .int .i64 (encL (fieldsOf o.k)).length, .int .i64 (i : Nat)] ∧ L = [.var (encO o), .row t_uint8 (encB bs), .row t_uint8 (encL (fieldsOf o.k))] ∧
      i ≤ (fieldsOf o.k).length ∧ bs = w8 o.k :: ((fieldsOf o.k).take i).flatMap fun f => three (getO o f),
    fun vs L => match vs with | [_, _, _, _, .int _ i] => (fieldsOf o.k).length - i.toNat | _ => 0, [0, 2, 3], rfl, ⟨0, [w8 o.k], rfl, rfl, Nat.zero_le _, rfl⟩, ?_⟩
  rintro vs L ⟨i, bs, rfl, rfl, hi, hbs⟩
  have hl2 := fieldsOf_len o.k
  have hbl : bs.length ≤ 100 := by
    rw [hbs]
    have : ((fieldsOf o.k).take i).length ≤ 2 := by simp; omega
    match (fieldsOf o.k).take i, this with
    | [], _ => simp
    | [_], _ => simp [three]
    | [_, _], _ => simp [three]
  refine IfB.mk (fun h1 => ?_) (fun h1 => ?_)
  · have hlt : i < (fieldsOf o.k).length := by simpa [encL_len] using h1
    obtain ⟨f, hff, hfm⟩ : ∃ f, (fieldsOf o.k)[i] = f ∧ (f = 80 ∨ f = 83 ∨ f = 65 ∨ f = 78) := ⟨_, rfl, fieldsOf_mem o.k _ (List.getElem_mem hlt)⟩
    refine InB.mk (by omega) (by rw [encL_len]; omega) ?_
    refine At.mk ⟨.int .u8 f.toNat, by simp [encL, hlt, hff], ?_⟩
    rcases hfm with rfl | rfl | rfl | rfl
    all_goals
      refine Choice.mk ⟨true, Choice.mk ⟨false, _, _, field_told o _, ?_⟩⟩
      refine Need.mk (by decide) ?_
      refine Fits.mk ?_
      refine Need.mk (by decide) ?_
      refine Fits.mk ?_
      refine Fits.mk ?_
      refine Room.mk (by simp [encB]; omega) ?_
      refine fits (wrap64 (by omega) (by omega)) ?_
      refine ⟨[0, 4, 2], rfl, ⟨i + 1, bs ++ three (getO o (fieldsOf o.k)[i]), ?_, ?_, hlt, ?_⟩, ?_⟩
      · rw [show (((i + 1 : Nat)) : Int) = ((i : Nat) : Int) + 1 by omega]
        rfl
      · rw [encB_app, hff]; rfl
      · rw [hbs, List.take_succ_eq_append_getElem hlt, List.flatMap_append, List.flatMap_cons, List.flatMap_nil, List.append_nil, List.cons_append]
      · show (fieldsOf o.k).length - (((i : Nat) : Int) + 1).toNat < (fieldsOf o.k).length - ((i : Nat) : Int).toNat
        omega
  · have hge : i = (fieldsOf o.k).length := by
      have : ¬ i < (fieldsOf o.k).length := by simpa [encL_len] using h1
      omega
    rw [hge, List.take_length] at hbs
    refine IfB.mk (fun h2 => ?_) (fun h2 => ?_)
    · refine Room.mk (by simp [encB]; omega) ?_
      refine RetN.mk ⟨[4], rfl, rfl, ?_⟩
      have hk : o.k = 8 := by simpa using h2
      have : putO o = bs ++ [o.b] := by unfold putO; rw [if_pos hk, hbs]
      rw [this, encB_app]; rfl
    · refine RetN.mk ⟨[1], rfl, rfl, ?_⟩
      have hk : ¬ o.k = 8 := by simpa using h2
      have : putO o = bs := by unfold putO; rw [if_neg hk, hbs, List.append_nil]
      rw [this]; rfl
end Go.Ev.W
