/- Words and lemmas for the law s of this seat (a part of its proof). -/
import Derived.Test.YtkbopikamadjoaaW6
set_option linter.unusedVariables false
set_option linter.unusedSimpArgs false
namespace Go.Ev.W
open Go.Ev Go.Ev.N

def IsO (o : O) : Prop := 0 ≤ o.b ∧ o.b < 256
def putAll (l : List O) : List Int := l.flatMap fun o => if take (putO o) = [o] then putO o else []

theorem w8_range (v : Int) : 0 ≤ w8 v ∧ w8 v < 256 := by
  unfold w8
  rw [IntKind.wrap_u8]
  omega
theorem isB_three (v : Int) : IsB (three v) := by
  intro b hb
  simp only [three, List.mem_cons, List.not_mem_nil, or_false] at hb
  rcases hb with rfl | rfl | rfl <;> exact w8_range _
theorem isB_put {o : O} (h : IsO o) : IsB (putO o) := by
  intro b hb
  unfold putO at hb
  simp only [List.cons_append, List.mem_cons, List.mem_append, List.mem_flatMap] at hb
  rcases hb with rfl | ⟨f, _, hb⟩ | hb
  · exact w8_range _
  · exact isB_three _ b hb
  · split at hb
    · simp at hb; subst hb; exact h
    · simp at hb
theorem put_len (o : O) : (putO o).length ≤ 8 := by
  unfold putO
  have := fieldsOf_len o.k
  have h2 : ((fieldsOf o.k).flatMap fun f => three (getO o f)).length ≤ 6 := by
    match fieldsOf o.k, this with
    | [], _ => simp
    | [_], _ => simp [three]
    | [_, _], _ => simp [three]
  have h3 : (if o.k = 8 then [o.b] else []).length ≤ 1 := by split <;> simp
  rw [List.length_append, List.length_cons]
  omega
theorem encO_inj {x y : O} (h : (((x.k == y.k) && ((x.p == y.p) && ((x.s == y.s) && ((x.a == y.a) && ((x.n == y.n) && ((x.b == y.b) && true))))))) = true) : x = y := by
  cases x; cases y; simp at h ⊢; exact h

set_option maxHeartbeats 8000000 in
theorem putAll_told (l : List O) (hO : ∀ o ∈ l, IsO o) (hl : l.length ≤ 1000000) : Told P T wire_Put [] [.lst t_api_Op (l.map encO)] (.ref 0) [.row t_uint8 (encB (putAll l))] := by
  have hll : (l.map encO).length = l.length := by simp
  refine told_of_ev (fn := wire_Put_fn) tabOk mixed (by kernel_rfl) (by kernel_rfl) (by kernel_rfl) (by kernel_rfl) ?_
  refine LoopN.mk ⟨[2, 7, 8, 9], fun vs L => ∃ i : Nat, vs = [.ref 0, .lst t_api_Op (l.map encO), .int .i64 (l.map encO).length, .int .i64 (i : Nat)] ∧ L = [.row t_uint8 (encB (putAll (l.take i)))] ∧ i ≤ l.length ∧ (putAll (l.take i)).length ≤ 8 * i,
    fun vs L => match vs with | [_, _, _, .int _ i] => l.length - i.toNat | _ => 0, [0], rfl, ⟨0, rfl, rfl, Nat.zero_le _, Nat.zero_le _⟩, ?_⟩
  rintro vs L ⟨i, rfl, rfl, hi, hlen⟩
  refine IfB.mk (fun h1 => ?_) (fun h1 => ?_)
  · have hlt : i < l.length := by simpa using h1
    have ho : IsO l[i] := hO _ (List.getElem_mem hlt)
    have hsucc : putAll (l.take (i + 1)) = putAll (l.take i) ++ (if take (putO l[i]) = [l[i]] then putO l[i] else []) := by
      unfold putAll
      rw [List.take_succ_eq_append_getElem hlt, List.flatMap_append, List.flatMap_cons, List.flatMap_nil, List.append_nil]
    have hpl := put_len l[i]
    refine Idx.mk ⟨encO l[i], by omega, by simp [hlt], ?_⟩
    refine Choice.mk ⟨false, Choice.mk ⟨false, _, _, put_told l[i], ?_⟩⟩
    refine Choice.mk ⟨false, Choice.mk ⟨false, _, _, take_told (putO l[i]) (isB_put ho) (by omega), ?_⟩⟩
    refine IfB.mk (fun h2 => ?_) (fun h2 => ?_)
    · have h3 : (take (putO l[i])).length = 1 := by simp at h2; omega
      obtain ⟨x, hx⟩ : ∃ x, take (putO l[i]) = [x] := by
        match take (putO l[i]), h3 with
        | [x], _ => exact ⟨x, rfl⟩
      rw [hx] at hsucc
      rw [hx]
      refine IfB.tt rfl ?_
      refine InB.mk (Int.le_refl _) (by show (0 : Int) < 1; decide) ?_
      refine IfB.tt rfl ?_
      refine At.mk ⟨encO x, rfl, ?_⟩
      refine IfB.tt rfl ?_
      refine IfB.tt rfl ?_
      refine Sure.mk (by kernel_rfl) ?_
      refine IfB.mk (fun h4 => ?_) (fun h4 => ?_)
      · have hxe : x = l[i] := encO_inj (by simpa using h4)
        rw [if_pos (by rw [hxe])] at hsucc
        refine Room.mk (by simp [encB]; omega) ?_
        refine fits (wrap64 (by omega) (by omega)) ?_
        refine ⟨[4], rfl, ⟨i + 1, ?_, ?_, hlt, by rw [hsucc, List.length_append]; omega⟩, ?_⟩
        · rw [show (((i + 1 : Nat)) : Int) = ((i : Nat) : Int) + 1 by omega]; rfl
        · rw [hsucc, encB_app]; rfl
        · show l.length - (((i : Nat) : Int) + 1).toNat < l.length - ((i : Nat) : Int).toNat
          omega
      · have hxe : ¬ [x] = [l[i]] := by
          intro e; simp at e; subst e; simp at h4
        rw [if_neg hxe, List.append_nil] at hsucc
        refine fits (wrap64 (by omega) (by omega)) ?_
        refine ⟨[0], rfl, ⟨i + 1, ?_, ?_, hlt, by rw [hsucc]; omega⟩, ?_⟩
        · rw [show (((i + 1 : Nat)) : Int) = ((i : Nat) : Int) + 1 by omega]; rfl
        · rw [hsucc]; rfl
        · show l.length - (((i : Nat) : Int) + 1).toNat < l.length - ((i : Nat) : Int).toNat
          omega
    · have h3 : ¬ take (putO l[i]) = [l[i]] := by
        intro e; rw [e] at h2; simp at h2
      rw [if_neg h3, List.append_nil] at hsucc
      rw [h2]
      refine IfB.ff rfl ?_
      refine IfB.ff rfl ?_
      refine IfB.ff rfl ?_
      refine IfB.ff rfl ?_
      refine Sure.mk (by kernel_rfl) ?_
      refine IfB.ff rfl ?_
      refine fits (wrap64 (by omega) (by omega)) ?_
      refine ⟨[0], rfl, ⟨i + 1, ?_, ?_, hlt, by rw [hsucc]; omega⟩, ?_⟩
      · rw [show (((i + 1 : Nat)) : Int) = ((i : Nat) : Int) + 1 by omega]; rfl
      · rw [hsucc]; rfl
      · show l.length - (((i : Nat) : Int) + 1).toNat < l.length - ((i : Nat) : Int).toNat
        omega
  · have hge : i = l.length := by
      have : ¬ i < l.length := by simpa using h1
      omega
    subst hge
    refine RetN.mk ⟨[0], rfl, rfl, ?_⟩
    show [Blk.row t_uint8 (encB (putAll (l.take l.length)))] = _
    rw [List.take_length]
end Go.Ev.W
