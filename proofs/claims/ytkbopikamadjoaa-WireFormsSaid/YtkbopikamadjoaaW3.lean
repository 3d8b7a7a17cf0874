/- Words and lemmas for the law s of this seat (a part of its proof). -/
import Derived.Test.YtkbopikamadjoaaW2
set_option linter.unusedVariables false
set_option linter.unusedSimpArgs false
namespace Go.Ev.W
open Go.Ev Go.Ev.N

/-- The letters, as bytes. -/
def encL (fs : List UInt8) : List AV := fs.map fun b => .int .u8 b.toNat

theorem fieldsOf_mem (k : Int) : ∀ f ∈ fieldsOf k, f = 80 ∨ f = 83 ∨ f = 65 ∨ f = 78 := by
  unfold fieldsOf
  repeat' split
  all_goals simp
theorem fieldsOf_len (k : Int) : (fieldsOf k).length ≤ 2 := by
  unfold fieldsOf
  repeat' split
  all_goals simp
theorem encL_len (fs : List UInt8) : (encL fs).length = fs.length := by simp [encL]

theorem fillO_step {fs : List UInt8} {bs : List Int} {o : O} {i : Nat} (hi : i < fs.length) (h3 : 3 * i + 3 ≤ bs.length) :
    fillO (fs.drop i) (bs.drop (3 * i)) o = fillO (fs.drop (i + 1)) (bs.drop (3 * (i + 1))) (setO o fs[i] (rd3 (bs[3 * i]'(by omega)) (bs[3 * i + 1]'(by omega)) (bs[3 * i + 2]'(by omega)))) := by
  rw [List.drop_eq_getElem_cons hi, List.drop_eq_getElem_cons (show 3 * i < bs.length by omega), List.drop_eq_getElem_cons (show 3 * i + 1 < bs.length by omega), List.drop_eq_getElem_cons (show 3 * i + 1 + 1 < bs.length by omega)]
  rfl
theorem fillO_short {fs : List UInt8} {bs : List Int} {o : O} {i : Nat} (hi : i < fs.length) (h3 : ¬ 3 * i + 3 ≤ bs.length) : fillO (fs.drop i) (bs.drop (3 * i)) o = (o, .none) := by
  rw [List.drop_eq_getElem_cons hi]
  have hl : (bs.drop (3 * i)).length < 3 := by simp; omega
  match bs.drop (3 * i), hl with
  | [], _ => rfl
  | [_], _ => rfl
  | [_, _], _ => rfl
  | _ :: _ :: _ :: _, h => simp at h; omega

theorem wrap16 {b : Int} (hb : 0 ≤ b ∧ b < 256) : IntKind.i64.wrap b = b := wrap64 (by omega) (by omega)

theorem fits' {k : IntKind} {n m : Int} {Q : Int → Prop} (h : k.wrap n = n) (e : n = m) (q : Q m) : Fits k n Q := ⟨by rw [h, e]; exact q⟩

set_option maxHeartbeats 4000000 in
theorem one_told (k : Int) (bs : List Int) (hb : IsB bs) (hl : bs.length ≤ 1000000) :
    Told P T wire_one [] [.int .i64 k, .lst t_uint8 (encB bs)] (.tup [encO (one k bs).1, .int .i64 ((one k bs).2.1 : Nat), .bool (one k bs).2.2]) [] := by
  have hbl : (encB bs).length = bs.length := by simp [encB]
  have at' : ∀ i (h : i < bs.length), (encB bs)[i]? = some (.int .u8 bs[i]) := fun i h => by simp [encB, h]
  refine told_of_ev (fn := wire_one_fn) tabOk mixed (by kernel_rfl) (by kernel_rfl) (by kernel_rfl) (by kernel_rfl) ?_
  refine Choice.mk ⟨false, Choice.mk ⟨true, _, _, fields_told k, ?_⟩⟩
  refine Room.mk (Nat.le_trans (fieldsOf_len k) (by decide)) ?_
  refine LoopN.mk ⟨[0, 1, 4, 5, 13, 14, 15], fun vs L => ∃ (i : Nat) (o : O), vs = [.int .i64 k, .lst t_uint8 (encB bs), .ptr 0 0 0, .int .i64 ((3 * i : Nat) : Int), .ref 1, .int .i64 (encL (fieldsOf k)).length, .int .i64 (i : Nat)] ∧ L = [.var (encO o), .row t_uint8 (encL (fieldsOf k))] ∧
      i ≤ (fieldsOf k).length ∧ 3 * i ≤ bs.length ∧ fillO (fieldsOf k) bs ⟨k, 0, 0, 0, 0, 0⟩ = fillO ((fieldsOf k).drop i) (bs.drop (3 * i)) o,
    fun vs L => match vs with | [_, _, _, _, _, _, .int _ i] => (fieldsOf k).length - i.toNat | _ => 0, [0, 1], rfl, ⟨0, ⟨k, 0, 0, 0, 0, 0⟩, rfl, rfl, Nat.zero_le _, Nat.zero_le _, rfl⟩, ?_⟩
  rintro vs L ⟨i, o, rfl, rfl, hi, h3, hf⟩
  refine IfB.mk (fun h1 => ?_) (fun h1 => ?_)
  · have hlt : i < (fieldsOf k).length := by simpa [encL_len] using h1
    have hl2 := fieldsOf_len k
    obtain ⟨f, hff, hfm⟩ : ∃ f, (fieldsOf k)[i] = f ∧ (f = 80 ∨ f = 83 ∨ f = 65 ∨ f = 78) := ⟨_, rfl, fieldsOf_mem k _ (List.getElem_mem hlt)⟩
    refine InB.mk (by omega) (by rw [encL_len]; omega) ?_
    refine At.mk ⟨.int .u8 f.toNat, by simp [encL, hlt, hff], ?_⟩
    refine fits (wrap64 (by rw [hbl]; omega) (by rw [hbl]; omega)) ?_
    refine IfB.mk (fun h2 => ?_) (fun h2 => ?_)
    · refine RetN.mk ⟨[], rfl, ?_, rfl⟩
      have h4 : ¬ 3 * i + 3 ≤ bs.length := by
        have := of_decide_eq_true h2; rw [hbl] at this; omega
      have : one k bs = (o, 0, false) := by unfold one; rw [hf, fillO_short hlt h4]
      rw [this]; rfl
    · have h4 : 3 * i + 3 ≤ bs.length := by
        have := of_decide_eq_false h2; rw [hbl] at this; omega
      have b0 := hb _ (List.getElem_mem (show 3 * i < bs.length by omega))
      have b1 := hb _ (List.getElem_mem (show 3 * i + 1 < bs.length by omega))
      have b2 := hb _ (List.getElem_mem (show 3 * i + 2 < bs.length by omega))
      have step := fillO_step (o := o) hlt h4
      have hor := rd3_or b0 b1 b2
      rcases hfm with rfl | rfl | rfl | rfl
      all_goals
        refine Choice.mk ⟨true, Choice.mk ⟨false, _, _, field_told o _, ?_⟩⟩
        refine Idx.mk ⟨_, by omega, at' (3 * i) (by omega), ?_⟩
        refine fits (wrap16 b0) ?_
        refine Need.mk (by decide) ?_
        refine fits' (m := bs[3 * i] * 65536) (wrap64 (by simp [IntKind.bits]; omega) (by simp [IntKind.bits]; omega)) (by simp [IntKind.bits]) ?_
        refine fits (wrap64 (by omega) (by omega)) ?_
        refine Idx.mk ⟨_, by omega, at' (3 * i + 1) (by omega), ?_⟩
        refine fits (wrap16 b1) ?_
        refine Need.mk (by decide) ?_
        refine fits' (m := bs[3 * i + 1] * 256) (wrap64 (by simp [IntKind.bits]; omega) (by simp [IntKind.bits]; omega)) (by simp [IntKind.bits]) ?_
        refine fits (wrap64 (by omega) (by omega)) ?_
        refine Idx.mk ⟨_, by omega, at' (3 * i + 2) (by omega), ?_⟩
        refine fits (wrap16 b2) ?_
        refine Sure.mk (by kernel_rfl) ?_
        rw [hor]
        refine fits (wrap64 (by omega) (by omega)) ?_
        refine fits (wrap64 (by omega) (by omega)) ?_
        refine ⟨[0, 1], rfl, ⟨i + 1, setO o (fieldsOf k)[i] (rd3 bs[3 * i] bs[3 * i + 1] bs[3 * i + 2]), ?_, ?_, hlt, by omega, hf.trans step⟩, ?_⟩
        · rw [show (((3 * (i + 1) : Nat)) : Int) = ((3 * i : Nat) : Int) + 3 by omega, show (((i + 1 : Nat)) : Int) = ((i : Nat) : Int) + 1 by omega]
          rfl
        · rw [hff]; rfl
        · show (fieldsOf k).length - (((i : Nat) : Int) + 1).toNat < (fieldsOf k).length - ((i : Nat) : Int).toNat
          omega
  · have hge : i = (fieldsOf k).length := by
      have : ¬ i < (fieldsOf k).length := by simpa [encL_len] using h1
      omega
    have hfin : fillO (fieldsOf k) bs ⟨k, 0, 0, 0, 0, 0⟩ = (o, some (bs.drop (3 * i))) := by
      rw [hf, hge, List.drop_length]; rfl
    have hrest : bs.length - (bs.drop (3 * i)).length = 3 * i := by simp; omega
    refine IfB.mk (fun h5 => ?_) (fun h5 => ?_)
    · refine RetN.mk ⟨[], rfl, ?_, rfl⟩
      have hk : k ≠ 8 := by simpa using h5
      have : one k bs = (o, 3 * i, true) := by unfold one; rw [hfin]; simp only [if_pos hk, hrest]
      rw [this]; rfl
    · have hk : k = 8 := by simpa using h5
      refine IfB.mk (fun h6 => ?_) (fun h6 => ?_)
      · refine RetN.mk ⟨[], rfl, ?_, rfl⟩
        have h7 : bs.length ≤ 3 * i := by have := of_decide_eq_true h6; rw [hbl] at this; omega
        have : one k bs = (o, 0, false) := by
          unfold one; rw [hfin]
          simp only [ne_eq, hk, not_true, if_false, List.drop_eq_nil_of_le h7]
        rw [this]; rfl
      · have h7 : 3 * i < bs.length := by have := of_decide_eq_false h6; rw [hbl] at this; omega
        refine Idx.mk ⟨_, by omega, at' (3 * i) h7, ?_⟩
        refine fits (wrap64 (by omega) (by omega)) ?_
        refine RetN.mk ⟨[], rfl, ?_, rfl⟩
        have : one k bs = ({ o with b := bs[3 * i] }, 3 * i + 1, true) := by
          unfold one; rw [hfin]
          simp only [ne_eq, hk, not_true, if_false, List.drop_eq_getElem_cons h7]
          rw [← List.drop_eq_getElem_cons h7, hrest]
        rw [this]
        show AV.tup [_, .int .i64 (((3 * i : Nat) : Int) + 1), _] = AV.tup [_, .int .i64 ((3 * i + 1 : Nat) : Int), _]
        rw [show ((3 * i + 1 : Nat) : Int) = ((3 * i : Nat) : Int) + 1 by omega]
        rfl
end Go.Ev.W
