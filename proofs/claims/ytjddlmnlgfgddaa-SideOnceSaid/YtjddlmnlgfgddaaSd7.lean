/- Words and lemmas for the law s of this seat (a part of its proof). -/
import Derived.Test.YtjddlmnlgfgddaaSd6
set_option linter.unusedVariables false
set_option linter.unusedSimpArgs false
namespace Go.Ev.W
open Go.Ev Go.Ev.N

theorem putM_len (l : List M) (m : M) : (putM l m).length ≤ l.length + 1 := by
  unfold putM
  split
  · simp
  · simp; have := low_le m.at' l; omega

theorem rise_put {l : List M} (hr : Rise l) (m : M) : Rise (putM l m) := by
  have hs := low_spec (y := m.at') hr
  have hle := low_le m.at' l
  have hr' := List.pairwise_iff_getElem.1 hr
  have low1 : ∀ a ∈ l.take (low m.at' l), a.at' < m.at' := by
    intro a ha
    obtain ⟨i, hi, rfl⟩ := List.mem_iff_getElem.1 ha
    rw [List.length_take] at hi
    rw [List.getElem_take]
    exact (hs i (by omega)).1 (by omega)
  have key : ∀ k', low m.at' l ≤ k' → (∀ b ∈ l.drop k', m.at' < b.at') → Rise (l.take (low m.at' l) ++ (m :: l.drop k')) := by
    intro k' hk hb
    refine List.pairwise_append.2 ⟨List.Pairwise.sublist (List.take_sublist _ _) hr, List.pairwise_cons.2 ⟨hb, List.Pairwise.sublist (List.drop_sublist _ _) hr⟩, ?_⟩
    intro a ha b hb'
    have h1 := low1 a ha
    rcases List.mem_cons.1 hb' with rfl | h2
    · exact h1
    · have := hb b h2; omega
  unfold putM
  split
  · rename_i h
    have hlt := isAt_lt h
    rw [List.set_eq_take_append_cons_drop, if_pos hlt]
    refine key _ (by omega) ?_
    intro b hb
    obtain ⟨i, hi, rfl⟩ := List.mem_iff_getElem.1 hb
    rw [List.length_drop] at hi
    rw [List.getElem_drop]
    have h1 := hr' (low m.at' l) (low m.at' l + 1 + i) hlt (by omega) (by omega)
    have h2 := (low_at (y := m.at') hr hlt).2 ⟨rfl, h⟩
    omega
  · rename_i h
    refine key _ (Nat.le_refl _) ?_
    intro b hb
    obtain ⟨i, hi, rfl⟩ := List.mem_iff_getElem.1 hb
    rw [List.length_drop] at hi
    rw [List.getElem_drop]
    have h3 : ¬ (l[low m.at' l + i]).at' < m.at' := fun h5 => by have := (hs _ (by omega)).2 h5; omega
    have h4 : ¬ (l[low m.at' l + i]).at' = m.at' := fun h5 => by have := (low_at hr (by omega)).1 h5; exact h this.2
    omega

def markP (p : Nat × Nat) : M := ⟨(p.1 % 40 : Nat), (p.2 % 9 : Nat)⟩
def marks (l : List (Nat × Nat)) : List M := l.foldl (fun o p => putM o (markP p)) []
def encP (p : Nat × Nat) : AV := .agg [.int .u8 p.1, .int .u8 p.2]
theorem marks_succ {l : List (Nat × Nat)} {i : Nat} (h : i < l.length) : marks (l.take (i + 1)) = putM (marks (l.take i)) (markP l[i]) := by
  unfold marks
  rw [List.take_succ_eq_append_getElem h, List.foldl_append]
  rfl
theorem marks_good (l : List (Nat × Nat)) (i : Nat) : Rise (marks (l.take i)) ∧ (marks (l.take i)).length ≤ i := by
  induction i with
  | zero => exact ⟨List.Pairwise.nil, Nat.le_refl _⟩
  | succ i ih =>
    rcases Nat.lt_or_ge i l.length with h | h
    · rw [marks_succ h]
      exact ⟨rise_put ih.1 _, Nat.le_trans (putM_len _ _) (by omega)⟩
    · rw [List.take_of_length_le (by omega)]
      rw [List.take_of_length_le (by omega)] at ih
      exact ⟨ih.1, by omega⟩

set_option maxHeartbeats 4000000 in
theorem marks_told (l : List (Nat × Nat)) (hl : l.length ≤ 20) (hb : ∀ p ∈ l, p.1 < 256 ∧ p.2 < 256) : Told P T law10_Marks [] [.lst 92 (l.map encP)] (.ref 0) [.row t_api_Mark ((marks l).map encM)] := by
  have hml : (l.map encP).length = l.length := by simp
  refine told_of_ev (fn := law10_Marks_fn) tabOk mixed (by kernel_rfl) (by kernel_rfl) (by kernel_rfl) (by kernel_rfl) ?_
  refine LoopN.mk ⟨[0, 3, 4], fun vs L => ∃ i : Nat, vs = [.lst 92 (l.map encP), .ref 0, .int .i64 (i : Nat)] ∧ L = [.row t_api_Mark ((marks (l.take i)).map encM)] ∧ i ≤ l.length,
    fun vs L => match vs with | [_, _, .int _ i] => l.length - i.toNat | _ => 0, [], [1], rfl, ⟨0, rfl, rfl, Nat.zero_le _⟩, ?_⟩
  rintro vs L ⟨i, rfl, rfl, hi⟩
  obtain ⟨g1, g2⟩ := marks_good l i
  refine IfB.mk (fun h1 => ?_) (fun h1 => ?_)
  · have hlt : i < l.length := by have := of_decide_eq_true h1; rw [hml] at this; omega
    have hix : (l.map encP)[((i : Nat) : Int).toNat]? = some (encP l[i]) := by simp [hlt]
    refine Idx.mk ⟨encP l[i], by omega, hix, ?_⟩
    refine InB.mk (by omega) (by omega) ?_
    have t1 : ((l[i].1 : Nat) : Int).tmod 40 = ((l[i].1 % 40 : Nat) : Int) := rfl
    have t2 : ((l[i].2 : Nat) : Int).tmod 9 = ((l[i].2 % 9 : Nat) : Int) := rfl
    refine Need.mk (by decide) ?_
    refine fits (wrap64 (by rw [t1]; omega) (by rw [t1]; omega)) ?_
    refine Idx.mk ⟨encP l[i], by omega, hix, ?_⟩
    refine InB.mk (by omega) (by omega) ?_
    refine Need.mk (by decide) ?_
    refine fits (wrap64 (by rw [t2]; omega) (by rw [t2]; omega)) ?_
    refine Choice.mk ⟨false, Choice.mk ⟨false, _, _, putMark_told _ g1 (markP l[i]) (by omega), ?_⟩⟩
    refine Sure.mk (by kernel_rfl) ?_
    refine fits (wrap64 (by omega) (by omega)) ?_
    refine ⟨[], [1], rfl, ⟨i + 1, rfl, ?_, hlt⟩, ?_⟩
    · rw [marks_succ hlt]; rfl
    · show l.length - (((i : Int) + 1).toNat) < l.length - ((i : Int)).toNat
      omega
  · refine RetN.mk ⟨[0], rfl, rfl, ?_⟩
    have hle : l.length ≤ i := by have := of_decide_eq_false h1; rw [hml] at this; omega
    obtain rfl : i = l.length := by omega
    rw [List.take_length]; rfl
end Go.Ev.W

