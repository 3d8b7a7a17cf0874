/- Words and lemmas for the law s of this seat (a part of its proof). -/
import Derived.Test.YtjddlmnlgfgddaaSd7
set_option linter.unusedVariables false
set_option linter.unusedSimpArgs false
namespace Go.Ev.W
open Go.Ev Go.Ev.N

theorem takeM_len {l : List M} {y : Int} (h : isAt y l = true) : (takeM l y).length = l.length - 1 := by
  have := isAt_lt h
  unfold takeM; simp; omega

def ats (m : M) : List Int := [m.at', 0, 5, 20]
def atsV (m : M) : List AV := (ats m).map fun y => .int .i64 y

set_option maxHeartbeats 8000000 in
theorem sideAll_told (l : List (Nat × Nat)) (hl : l.length ≤ maxLen) (hb : ∀ p ∈ l, p.1 < 256 ∧ p.2 < 256) (m : M) : Told P T law10_SideAll [] [.lst 92 (l.map encP), encM m] (.bool true) [] := by
  have hml : (l.map encP).length = l.length := by simp
  refine told_of_ev (fn := law10_SideAll_fn) tabOk mixed (by kernel_rfl) (by kernel_rfl) (by kernel_rfl) (by kernel_rfl) ?_
  refine Choice.mk ⟨false, Choice.mk ⟨true, _, _, begun_told, ?_⟩⟩
  refine IfB.ff rfl ?_
  refine IfB.mk (fun h0 => RetN.mk ⟨[], rfl, rfl, rfl⟩) (fun h0 => ?_)
  have hlen : l.length ≤ 20 := by have := of_decide_eq_false h0; rw [hml] at this; omega
  refine Choice.mk ⟨false, Choice.mk ⟨false, _, _, marks_told l hlen hb, ?_⟩⟩
  generalize hx : marks l = x
  have g1 : Rise x := by have := (marks_good l l.length).1; rw [List.take_length, hx] at this; exact this
  have g2 : x.length ≤ 20 := by have := (marks_good l l.length).2; rw [List.take_length, hx] at this; omega
  have hmx : (x.map encM).length = x.length := by simp
  refine LoopN.mk ⟨[3, 5, 6, 7], fun vs L => ∃ (i : Nat) (B : Blk), vs = [.ptr 0 0 0, .ref 1, .ref 2, .int .i64 (i : Nat)] ∧ L = [.var (encM m), B, .row t_int (atsV m)] ∧ i ≤ 4 ∧ (B = .fz t_api_Mark (x.map encM) ∨ B = .row t_api_Mark (x.map encM) ∧ i = 0),
    fun vs L => match vs with | [_, _, _, .int _ i] => 4 - i.toNat | _ => 0, [], [0, 1, 2], rfl, ⟨0, .row t_api_Mark (x.map encM), ?_, rfl, Nat.zero_le _, .inr ⟨rfl, rfl⟩⟩, ?_⟩
  · rfl
  rintro vs L ⟨i, B, rfl, rfl, hi, hB⟩
  refine IfB.mk (fun h1 => ?_) (fun h1 => ?_)
  · have hlt : i < 4 := by have := of_decide_eq_true h1; omega
    have hlt' : i < (ats m).length := hlt
    have hay : (atsV m)[((i : Nat) : Int).toNat]? = some (.int .i64 (ats m)[i]) := by simp [atsV, hlt']
    generalize (ats m)[i] = y at hay
    rcases hB with rfl | ⟨rfl, hi0⟩ <;> cases h : isAt y x
    · skip
      refine InB.mk (by omega) (by simp [atsV, ats]; omega) ?_
      refine At.mk ⟨_, hay, ?_⟩
      refine Choice.mk ⟨false, Choice.mk ⟨false, _, _, take_no x g1 y (by omega) h, ?_⟩⟩
      refine InB.mk (by omega) (by simp [atsV, ats]; omega) ?_
      refine At.mk ⟨_, hay, ?_⟩
      refine Choice.mk ⟨false, Choice.mk ⟨false, _, _, takeMark_no x g1 y (by omega) h, ?_⟩⟩
      refine InB.mk (by omega) (by simp [atsV, ats]; omega) ?_
      refine At.mk ⟨_, hay, ?_⟩
      refine Choice.mk ⟨false, Choice.mk ⟨false, _, _, class_told x g1 y (by omega), ?_⟩⟩
      refine InB.mk (by omega) (by simp [atsV, ats]; omega) ?_
      refine At.mk ⟨_, hay, ?_⟩
      refine Choice.mk ⟨false, Choice.mk ⟨false, _, _, classOf_told x g1 y (by omega), ?_⟩⟩
      repeat refine IfB.ff (by simp) ?_
      refine Choice.mk ⟨false, Choice.mk ⟨true, _, _, sameC _ _ x x rfl rfl (by omega), ?_⟩⟩
      repeat refine IfB.ff (by simp) ?_
      refine fits (wrap64 (by omega) (by omega)) ?_
      refine ⟨[], [0, 1, 2], rfl, ⟨i + 1, _, rfl, rfl, hlt, .inl rfl⟩, ?_⟩
      show 4 - (((i : Int) + 1).toNat) < 4 - ((i : Int)).toNat
      omega
    · skip
      refine InB.mk (by omega) (by simp [atsV, ats]; omega) ?_
      refine At.mk ⟨_, hay, ?_⟩
      refine Choice.mk ⟨false, Choice.mk ⟨false, _, _, take_yes x g1 y (by omega) h, ?_⟩⟩
      refine InB.mk (by omega) (by simp [atsV, ats]; omega) ?_
      refine At.mk ⟨_, hay, ?_⟩
      refine Choice.mk ⟨false, Choice.mk ⟨false, _, _, takeMark_yes x g1 y (by omega) h, ?_⟩⟩
      refine InB.mk (by omega) (by simp [atsV, ats]; omega) ?_
      refine At.mk ⟨_, hay, ?_⟩
      refine Choice.mk ⟨false, Choice.mk ⟨false, _, _, class_told x g1 y (by omega), ?_⟩⟩
      refine InB.mk (by omega) (by simp [atsV, ats]; omega) ?_
      refine At.mk ⟨_, hay, ?_⟩
      refine Choice.mk ⟨false, Choice.mk ⟨false, _, _, classOf_told x g1 y (by omega), ?_⟩⟩
      repeat refine IfB.ff (by simp) ?_
      refine Choice.mk ⟨false, Choice.mk ⟨true, _, _, sameC _ _ (takeM x y) (takeM x y) (by have := takeM_len h; simp [this]) rfl (by have := takeM_len h; omega), ?_⟩⟩
      repeat refine IfB.ff (by simp) ?_
      refine fits (wrap64 (by omega) (by omega)) ?_
      refine ⟨[], [0, 1, 2], rfl, ⟨i + 1, _, rfl, rfl, hlt, .inl rfl⟩, ?_⟩
      show 4 - (((i : Int) + 1).toNat) < 4 - ((i : Int)).toNat
      omega
    · skip
      refine InB.mk (by omega) (by simp [atsV, ats]; omega) ?_
      refine At.mk ⟨_, hay, ?_⟩
      refine Choice.mk ⟨false, Choice.mk ⟨false, _, _, take_no x g1 y (by omega) h, ?_⟩⟩
      refine InB.mk (by omega) (by simp [atsV, ats]; omega) ?_
      refine At.mk ⟨_, hay, ?_⟩
      refine Choice.mk ⟨false, Choice.mk ⟨false, _, _, takeMark_no x g1 y (by omega) h, ?_⟩⟩
      refine InB.mk (by omega) (by simp [atsV, ats]; omega) ?_
      refine At.mk ⟨_, hay, ?_⟩
      refine Choice.mk ⟨false, Choice.mk ⟨false, _, _, class_told x g1 y (by omega), ?_⟩⟩
      refine InB.mk (by omega) (by simp [atsV, ats]; omega) ?_
      refine At.mk ⟨_, hay, ?_⟩
      refine Choice.mk ⟨false, Choice.mk ⟨false, _, _, classOf_told x g1 y (by omega), ?_⟩⟩
      repeat refine IfB.ff (by simp) ?_
      refine Choice.mk ⟨false, Choice.mk ⟨true, _, _, sameC _ _ x x rfl rfl (by omega), ?_⟩⟩
      repeat refine IfB.ff (by simp) ?_
      refine fits (wrap64 (by omega) (by omega)) ?_
      refine ⟨[], [0, 1, 2], rfl, ⟨i + 1, _, rfl, rfl, hlt, .inl rfl⟩, ?_⟩
      show 4 - (((i : Int) + 1).toNat) < 4 - ((i : Int)).toNat
      omega
    · skip
      refine InB.mk (by omega) (by simp [atsV, ats]; omega) ?_
      refine At.mk ⟨_, hay, ?_⟩
      refine Choice.mk ⟨false, Choice.mk ⟨false, _, _, take_yes x g1 y (by omega) h, ?_⟩⟩
      refine InB.mk (by omega) (by simp [atsV, ats]; omega) ?_
      refine At.mk ⟨_, hay, ?_⟩
      refine Choice.mk ⟨false, Choice.mk ⟨false, _, _, takeMark_yes x g1 y (by omega) h, ?_⟩⟩
      refine InB.mk (by omega) (by simp [atsV, ats]; omega) ?_
      refine At.mk ⟨_, hay, ?_⟩
      refine Choice.mk ⟨false, Choice.mk ⟨false, _, _, class_told x g1 y (by omega), ?_⟩⟩
      refine InB.mk (by omega) (by simp [atsV, ats]; omega) ?_
      refine At.mk ⟨_, hay, ?_⟩
      refine Choice.mk ⟨false, Choice.mk ⟨false, _, _, classOf_told x g1 y (by omega), ?_⟩⟩
      repeat refine IfB.ff (by simp) ?_
      refine Choice.mk ⟨false, Choice.mk ⟨true, _, _, sameC _ _ (takeM x y) (takeM x y) (by have := takeM_len h; simp [this]) rfl (by have := takeM_len h; omega), ?_⟩⟩
      repeat refine IfB.ff (by simp) ?_
      refine fits (wrap64 (by omega) (by omega)) ?_
      refine ⟨[], [0, 1, 2], rfl, ⟨i + 1, _, rfl, rfl, hlt, .inl rfl⟩, ?_⟩
      show 4 - (((i : Int) + 1).toNat) < 4 - ((i : Int)).toNat
      omega
  · have hi4 : ¬ i < 4 := by have := of_decide_eq_false h1; omega
    obtain rfl : B = .fz t_api_Mark (x.map encM) := by rcases hB with h | ⟨_, h⟩; exact h; omega
    refine Choice.mk ⟨false, Choice.mk ⟨false, _, _, put_told x g1 m (by omega), ?_⟩⟩
    refine Choice.mk ⟨false, Choice.mk ⟨false, _, _, putMark_told x g1 m (by omega), ?_⟩⟩
    have q1 := putM_len x m
    have q2 := putM_len x ⟨5, 3⟩
    refine Choice.mk ⟨false, Choice.mk ⟨true, _, _, sameC _ _ (putM x m) (putM x m) rfl rfl (by omega), ?_⟩⟩
    repeat refine IfB.tt (by simp) ?_
    refine Choice.mk ⟨false, Choice.mk ⟨false, _, _, put_told x g1 ⟨5, 3⟩ (by omega), ?_⟩⟩
    repeat refine IfB.tt (by simp) ?_
    refine Choice.mk ⟨false, Choice.mk ⟨false, _, _, putMark_told x g1 ⟨5, 3⟩ (by omega), ?_⟩⟩
    repeat refine IfB.tt (by simp) ?_
    refine Choice.mk ⟨false, Choice.mk ⟨true, _, _, sameC _ _ (putM x ⟨5, 3⟩) (putM x ⟨5, 3⟩) rfl rfl (by omega), ?_⟩⟩
    refine Sure.mk (by kernel_rfl) ?_
    refine RetN.mk ⟨[], rfl, ?_, rfl⟩
    show AV.bool (decide (putM x ⟨5, 3⟩ = putM x ⟨5, 3⟩)) = AV.bool true
    rw [decide_eq_true rfl]

/-- A parameter of pairs. -/
theorem shp_pairs {x : AV} (h : Shp T 8 50 x) : ∃ l : List (Nat × Nat), x = .lst 92 (l.map encP) ∧ l.length ≤ maxLen ∧ ∀ p ∈ l, p.1 < 256 ∧ p.2 < 256 := by
  obtain ⟨es, rfl, hl, he⟩ := h
  have : ∃ l : List (Nat × Nat), es = l.map encP ∧ ∀ p ∈ l, p.1 < 256 ∧ p.2 < 256 := by
    clear hl
    induction es with
    | nil => exact ⟨[], rfl, fun b hb => by cases hb⟩
    | cons y es ih =>
      obtain ⟨l, rfl, hb⟩ := ih fun z hz => he z (by simp [hz])
      obtain ⟨ys, rfl, hy, hn⟩ := he y (by simp)
      match ys, hy, hn with
      | [u, v], _, hn =>
        obtain ⟨a, rfl, ha⟩ := hn u (by simp)
        obtain ⟨b, rfl, hb'⟩ := hn v (by simp)
        have h1 : IntKind.u8.min ≤ a ∧ a ≤ IntKind.u8.max := by simpa [Lit.wf] using ha
        have h2 : IntKind.u8.min ≤ b ∧ b ≤ IntKind.u8.max := by simpa [Lit.wf] using hb'
        have e1 : IntKind.u8.min = 0 := by decide
        have e2 : IntKind.u8.max = 255 := by decide
        rw [e1, e2] at h1 h2
        refine ⟨(a.toNat, b.toNat) :: l, ?_, ?_⟩
        · have ea : ((a.toNat : Nat) : Int) = a := by omega
          have eb : ((b.toNat : Nat) : Int) = b := by omega
          show _ = encP (a.toNat, b.toNat) :: l.map encP
          unfold encP
          rw [ea, eb]; rfl
        · intro p hp
          rcases List.mem_cons.1 hp with rfl | hp
          · constructor <;> show Int.toNat _ < 256 <;> omega
          · exact hb p hp
  obtain ⟨l, rfl, hb⟩ := this
  exact ⟨l, rfl, by simpa using hl, hb⟩

/-- A parameter that is a mark. -/
theorem shp_mark {x : AV} (h : Shp T 8 t_api_Mark x) : ∃ m : M, x = encM m := by
  obtain ⟨ys, rfl, hy, hn⟩ := h
  match ys, hy, hn with
  | [u, v], _, hn =>
    obtain ⟨a, rfl, ha⟩ := hn 0 _ u rfl rfl
    obtain ⟨b, rfl, hb⟩ := hn 1 _ v rfl rfl
    exact ⟨⟨a, b⟩, rfl⟩

theorem sideAll {x0 x1 : AV} (h0 : Shp T 8 50 x0) (h1 : Shp T 8 t_api_Mark x1) : Told P T law10_SideAll [] [x0, x1] (.bool true) [] := by
  obtain ⟨l, rfl, hl, hb⟩ := shp_pairs h0
  obtain ⟨m, rfl⟩ := shp_mark h1
  exact sideAll_told l hl hb m
end Go.Ev.W

