/- Words and lemmas for the law s of this seat (a part of its proof). -/
import Derived.Test.YtkbopikamadjoaaW4
set_option linter.unusedVariables false
set_option linter.unusedSimpArgs false
namespace Go.Ev.W
open Go.Ev Go.Ev.N

theorem IsB.tail {b : Int} {bs : List Int} (h : IsB (b :: bs)) : IsB bs := fun x hx => h x (by simp [hx])
theorem IsB.drop {bs : List Int} (h : IsB bs) (n : Nat) : IsB (bs.drop n) := fun x hx => h x (List.mem_of_mem_drop hx)
theorem encB_drop (bs : List Int) (n : Nat) : (encB bs).drop n = encB (bs.drop n) := by simp [encB, List.map_drop]

theorem fillO_len : ∀ (fs : List UInt8) (bs : List Int) (o o' : O) (r : List Int), fillO fs bs o = (o', some r) → r.length ≤ bs.length
  | [], bs, o, o', r, h => by simp [fillO] at h; rw [h.2]; exact Nat.le_refl _
  | f :: fs, [], o, o', r, h => by simp [fillO] at h
  | f :: fs, [_], o, o', r, h => by simp [fillO] at h
  | f :: fs, [_, _], o, o', r, h => by simp [fillO] at h
  | f :: fs, _ :: _ :: _ :: bs, o, o', r, h => by
    have := fillO_len fs bs _ o' r h
    simp only [List.length_cons]; omega
theorem one_len (k : Int) (bs : List Int) : (one k bs).2.1 ≤ bs.length := by
  unfold one
  split
  · exact Nat.zero_le _
  · rename_i o r h
    have := fillO_len _ _ _ _ _ h
    split
    · exact Nat.sub_le _ _
    · split
      · exact Nat.zero_le _
      · simp only [List.length_cons] at this ⊢; omega

set_option maxHeartbeats 4000000 in
theorem take_told (bs : List Int) (hb : IsB bs) (hl : bs.length ≤ 1000000) : Told P T wire_Take [] [.lst t_uint8 (encB bs)] (.ref 0) [.row t_api_Op ((take bs).map encO)] := by
  refine told_of_ev (fn := wire_Take_fn) tabOk mixed (by kernel_rfl) (by kernel_rfl) (by kernel_rfl) (by kernel_rfl) ?_
  refine LoopN.mk ⟨[0, 2], fun vs L => ∃ (r : List Int) (acc : List O), vs = [.lst t_uint8 (encB r), .ref 0] ∧ L = [.row t_api_Op (acc.map encO)] ∧ IsB r ∧ r.length ≤ 1000000 ∧ acc.length + r.length ≤ bs.length ∧ take bs = acc ++ take r,
    fun vs L => match vs with | [.lst _ es, _] => es.length | _ => 0, [0], rfl, ⟨bs, [], rfl, rfl, hb, hl, by simp, rfl⟩, ?_⟩
  rintro vs L ⟨r, acc, rfl, rfl, hr, hrl, hacc, ht⟩
  refine IfB.mk (fun h1 => ?_) (fun h1 => ?_)
  · cases r with
    | nil => simp [encB] at h1
    | cons b r =>
      have hb0 := hr b (by simp)
      refine Idx.mk ⟨.int .u8 b, by omega, rfl, ?_⟩
      refine fits (wrap16 hb0) ?_
      refine Need.mk (by decide) ?_
      refine Cut.mk (by decide) (by simp [encB]; omega) (Int.le_refl _) ?_
      have hrem : b.tmod 11 = b % 11 := Int.tmod_eq_emod_of_nonneg hb0.1
      refine IfB.mk (fun h2 => ?_) (fun h2 => ?_)
      · have h0 : b % 11 = 0 := by rw [← hrem]; simpa using h2
        refine ⟨[0], rfl, ⟨r, acc, rfl, rfl, hr.tail, by simp at hrl; omega, by simp at hacc; omega, by rw [ht, take_cons, if_pos h0]⟩, ?_⟩
        show (encB r).length < (encB (b :: r)).length
        simp [encB]
      · have h0 : ¬ b % 11 = 0 := by rw [← hrem]; simpa using h2
        refine Choice.mk ⟨false, Choice.mk ⟨true, _, _, one_told (b.tmod 11) r hr.tail (by simp at hrl; omega), ?_⟩⟩
        have hlen := one_len (b.tmod 11) r
        have htake : take (b :: r) = match one (b.tmod 11) r with
            | (o, n, true) => o :: take (r.drop n)
            | (_, _, false) => [] := by
          rw [take_cons, if_neg h0, hrem]
          rcases one (b % 11) r with ⟨o, n, ok⟩
          cases ok <;> rfl
        revert hlen htake
        generalize one (b.tmod 11) r = q
        obtain ⟨o, n, ok⟩ := q
        intro hlen htake
        refine IfB.mk (fun h3 => ?_) (fun h3 => ?_)
        · have : ok = false := by simpa using h3
          subst this
          refine RetN.mk ⟨[0], rfl, rfl, ?_⟩
          show [Blk.row t_api_Op (acc.map encO)] = _
          rw [ht, htake]; simp
        · have : ok = true := by simpa using h3
          subst this
          simp only at hlen htake
          refine Room.mk (by simp; simp at hacc; omega) ?_
          refine Cut.mk (by omega) (by simp [encB]; omega) (Int.le_refl _) ?_
          refine Sure.mk (by kernel_rfl) ?_
          refine ⟨[3], rfl, ⟨r.drop n, acc ++ [o], ?_, ?_, hr.tail.drop n, by simp at hrl ⊢; omega, by simp at hacc ⊢; omega, by rw [ht, htake]; simp⟩, ?_⟩
          · rw [← encB_drop]; rfl
          · rw [show (acc ++ [o]).map encO = acc.map encO ++ [encO o] by simp]; rfl
          · show ((encB r).drop n).length < (encB (b :: r)).length
            simp [encB]; omega
  · have hr0 : r = [] := by
      cases r with
      | nil => rfl
      | cons b r => simp [encB] at h1
    subst hr0
    refine RetN.mk ⟨[0], rfl, rfl, ?_⟩
    show [Blk.row t_api_Op (acc.map encO)] = _
    rw [ht, take_nil, List.append_nil]
end Go.Ev.W
