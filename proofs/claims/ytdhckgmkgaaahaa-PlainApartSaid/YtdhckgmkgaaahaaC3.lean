/- Words and lemmas, part 3, for laws of this seat (a part of their proofs). -/
import Derived.Test.YtdhckgmkgaaahaaC2
set_option linter.unusedVariables false
set_option linter.unusedSimpArgs false
namespace Go.Ev.W
open Go.Ev Go.Ev.N

theorem pg_le {c : Cf} (hc : c.Ok) (h : 1 ≤ c.H) : c.Pg ≤ c.H := by
  obtain ⟨k, hk⟩ := hc.pgH
  have : 1 ≤ k := by
    rcases Nat.eq_zero_or_pos k with h | h
    · subst h; omega
    · exact h
  rw [hk]; exact Nat.le_mul_of_pos_right _ this
set_option maxHeartbeats 4000000 in
theorem plainTrim_told {m : Mo} (hm : MoOk m) (hH1 : 1 ≤ m.c.H) : Told P T plain_trim [rK m.bs, rT m.on, rU m.mem] [eMr m.c (.ref 0) m.live m.peak m.mark (.ref 1) (.ref 2)] (.tup [eM { m with on := (trimF m.on (metF m.c.Pg m.c.H m.bs)).1 }, eA { an0 with n := (trimF m.on (metF m.c.Pg m.c.H m.bs)).2 }]) [.dead, .dead, .dead] := by
  have hH := hm.c.h2
  have hpg := hm.c.pgpos
  have hlen := hm.a.len
  have hml : (metF m.c.Pg m.c.H m.bs).length = m.on.length := by rw [hm.o]; simp [metF]
  have hol : m.on.length ≤ 65536 := by have := hm.o; have := Nat.div_le_self m.c.H m.c.Pg; omega
  have c3 := pinMetR_told (pg := m.c.Pg) (size := m.c.H) hpg hH (pg_le hm.c hH1) (l := m.bs) (by omega) hm.a.b
  have c4 := trim_told hml hol
  refine told_of_ev_drop (fn := plain_trim_fn) tabOk mixed (by kernel_rfl) (by kernel_rfl) (by kernel_rfl) (by kernel_rfl) ?_
  (refine gw ?_; refine Choice.mk ⟨false, Choice.mk ⟨true, _, _, c3, ?_⟩⟩)
  (refine gw ?_)
  refine Need.mk ?_ ?_
  · intro x hx
    obtain ⟨v, _, rfl⟩ := List.mem_map.1 hx
    rfl
  (refine gw ?_; refine Choice.mk ⟨false, Choice.mk ⟨false, _, _, c4, ?_⟩⟩)
  (refine gw ?_)
  exact RetN.fz ⟨[true, true], [], rfl, rfl, .inr rfl, .inr rfl, .inr rfl, trivial⟩
set_option maxHeartbeats 4000000 in
theorem bytes_told {m : Mo} (hm : MoOk m) {o : X.O} (ho : OpOk o) {i : Nat} (hi : i < m.bs.length) (hk : o.k = 7 ∨ o.k = 8) : Told P T plain_bytes [rK m.bs, rT m.on, rU m.mem] [eMr m.c (.ref 0) m.live m.peak m.mark (.ref 1) (.ref 2), i64 i, X.encO o] (.tup [eM (ofB m o i).1, eA (ofB m o i).2]) [.dead, .dead, .dead] := by
  have hH := hm.c.h2
  have hb := hm.a.b _ (List.getElem_mem hi)
  have hml : (m.bs.map eB).length = m.bs.length := by simp
  have hg : m.bs.getD i bk0 = m.bs[i] := by simp [List.getD_eq_getElem?_getD, hi]
  have hnr := ho.n
  have hbr := ho.b
  have hmm := hm.mm
  unfold ofB
  simp only []
  rw [hg, if_neg (by omega), if_neg (by omega), if_neg (by omega)]
  refine told_of_ev_drop (fn := plain_bytes_fn) tabOk mixed (by kernel_rfl) (by kernel_rfl) (by kernel_rfl) (by kernel_rfl) ?_
  (refine gw ?_)
  refine at_map (k := i) hi ?_
  by_cases hr : o.n < 0 ∨ o.n ≥ m.bs[i].c
  · rw [if_pos hr]
    by_cases h0 : o.n < 0
    · (refine gw ?_; refine IfB.tt (by simpa using h0) ?_)
      (refine gw ?_)
      exact RetN.fz ⟨[true, true], [], rfl, rfl, .inr rfl, .inr rfl, .inr rfl, trivial⟩
    · (refine gw ?_; refine IfB.ff (by simpa using h0) ?_)
      (refine gw ?_; refine IfB.tt (by simp; omega) ?_)
      (refine gw ?_)
      exact RetN.fz ⟨[true, true], [], rfl, rfl, .inr rfl, .inr rfl, .inr rfl, trivial⟩
  · obtain ⟨j, hj⟩ : ∃ j : Nat, m.bs[i].a + o.n = ((j : Nat) : Int) := ⟨(m.bs[i].a + o.n).toNat, by omega⟩
    rw [if_neg hr]
    (refine gw ?_; refine IfB.ff (by simp; omega) ?_)
    (refine gw ?_; refine IfB.ff (by simp; omega) ?_)
    rw [hj, Int.toNat_natCast]
    have c1 := memGet_told (mem := m.mem) (by omega) (a := j) (by omega)
    have c2 := memPut_told (mem := m.mem) (by omega) (a := j) (b := o.b) (by omega)
    by_cases h7 : o.k = 7
    · rw [if_pos h7]
      (refine gw ?_; refine IfB.tt (by simp [h7]) ?_)
      (refine gw ?_)
      rw [hj]
      (refine gw ?_; refine Choice.mk ⟨false, Choice.mk ⟨true, _, _, c1, ?_⟩⟩)
      (refine gw ?_)
      exact RetN.fz ⟨[true, true], [], rfl, rfl, .inr rfl, .inr rfl, .inr rfl, trivial⟩
    · rw [if_neg h7]
      (refine gw ?_; refine IfB.ff (by simp [h7]) ?_)
      (refine gw ?_)
      rw [hj]
      (refine gw ?_; refine Choice.mk ⟨false, Choice.mk ⟨false, _, _, c2, ?_⟩⟩)
      (refine gw ?_)
      have hse : lU (m.mem.set j o.b.toNat) = .lst t_uint8 ((m.mem.map u8).set j (.int .u8 o.b)) := by
        unfold lU
        rw [List.map_set]
        have : u8 o.b.toNat = .int .u8 o.b := by unfold u8; rw [Int.toNat_of_nonneg hbr.1]
        rw [this]
      refine RetN.fz ⟨[true, true], [], rfl, ?_, .inr rfl, .inr rfl, .inr rfl, trivial⟩
      refine Eq.trans ?_ (congrArg (fun z => AV.tup [AV.agg [i64 m.c.G, i64 m.c.N, i64 m.c.M, i64 m.c.L, i64 m.c.Pg, i64 m.c.P, i64 m.c.H, i64 m.c.Sd, lK m.bs, i64 m.live, i64 m.peak, i64 m.mark, lT m.on, z], eA an0]) hse.symm)
      rfl
set_option maxHeartbeats 4000000 in
theorem block_told' {m : Mo} (hm : MoOk m) {o : X.O} (ho : OpOk o) (hk : o.k = 4 ∨ o.k = 5 ∨ o.k = 6 ∨ o.k = 7 ∨ o.k = 8) : Told P T plain_block [rK m.bs, rT m.on, rU m.mem] [eMr m.c (.ref 0) m.live m.peak m.mark (.ref 1) (.ref 2), X.encO o] (.tup [eM (doF m o).1, eA (doF m o).2]) [.dead, .dead, .dead] := by
  have hH := hm.c.h2
  have hMH : m.c.M ≤ m.c.H := by have := hm.c.h; omega
  have hlen := hm.a.len
  have htb := totalB_nonneg hm.a
  have hlive : 0 ≤ m.live ∧ m.live ≤ 65536 := by have := hm.l; have := hm.lM; omega
  have hml : (m.bs.map eB).length = m.bs.length := by simp
  have c1 := plainFind_told m (by omega) o.p
  unfold doF
  rw [if_neg (by omega), if_neg (by omega), if_neg (by omega), if_pos hk]
  refine told_of_ev_drop (fn := plain_block_fn) tabOk mixed (by kernel_rfl) (by kernel_rfl) (by kernel_rfl) (by kernel_rfl) ?_
  cases hf : findB m.bs o.p with
  | none =>
    rw [hf] at c1
    (refine gw ?_; refine Choice.mk ⟨false, Choice.mk ⟨true, _, _, c1, ?_⟩⟩)
    (refine gw ?_)
    exact RetN.fz ⟨[true, true], [], rfl, rfl, .inr rfl, .inr rfl, .inr rfl, trivial⟩
  | some i =>
    rw [hf] at c1
    obtain ⟨hi, _⟩ := findB_lt hf
    have hb := hm.a.b _ (List.getElem_mem hi)
    simp only at c1 ⊢
    (refine gw ?_; refine Choice.mk ⟨false, Choice.mk ⟨true, _, _, c1, ?_⟩⟩)
    by_cases h4 : o.k = 4
    · have c2 := realloc_told hm ho hi h4
      (refine gw ?_; refine IfB.tt (by simp [h4]) ?_)
      (refine gw ?_; refine Choice.mk ⟨true, Choice.mk ⟨false, _, _, c2, ?_⟩⟩)
      (refine gw ?_)
      exact RetN.fz ⟨[true, true], [], rfl, rfl, .inr rfl, .inr rfl, .inr rfl, trivial⟩
    · have hg : m.bs.getD i bk0 = m.bs[i] := by simp [List.getD_eq_getElem?_getD, hi]
      (refine gw ?_; refine IfB.ff (by simp [h4]) ?_)
      by_cases h5 : o.k = 5
      · have e5 : ofB m o i = ({ m with bs := dropB m.bs i, live := m.live - m.bs[i].c }, an0) := by unfold ofB; simp only []; rw [hg, if_neg h4, if_pos h5]
        rw [e5]
        have c3 := goes_told (c := m.c) (live := m.live) (peak := m.peak) (mark := m.mark) (bs := m.bs) (on := m.on.map .bool) (mem := m.mem.map u8) (by omega) (by omega) (fun x hx => by have := hm.a.b x hx; omega) hi
        (refine gw ?_; refine IfB.tt (by simp [h5]) ?_)
        (refine gw ?_; refine Choice.mk ⟨true, Choice.mk ⟨false, _, _, c3, ?_⟩⟩)
        (refine gw ?_)
        exact RetN.fz ⟨[true, true], [], rfl, rfl, .inr rfl, .inr rfl, .inr rfl, trivial⟩
      · (refine gw ?_; refine IfB.ff (by simp [h5]) ?_)
        by_cases h6 : o.k = 6
        · have e6 : ofB m o i = (m, { an0 with n := m.bs[i].c }) := by unfold ofB; simp only []; rw [hg, if_neg h4, if_neg h5, if_pos h6]
          rw [e6]
          (refine gw ?_; refine IfB.tt (by simp [h6]) ?_)
          (refine gw ?_)
          refine at_map (k := i) hi ?_
          (refine gw ?_)
          exact RetN.fz ⟨[true, true], [], rfl, rfl, .inr rfl, .inr rfl, .inr rfl, trivial⟩
        · have c2 := bytes_told hm ho hi (by omega)
          (refine gw ?_; refine IfB.ff (by simp [h6]) ?_)
          (refine gw ?_; refine Choice.mk ⟨true, Choice.mk ⟨false, _, _, c2, ?_⟩⟩)
          (refine gw ?_)
          exact RetN.fz ⟨[true, true], [], rfl, rfl, .inr rfl, .inr rfl, .inr rfl, trivial⟩
set_option maxHeartbeats 4000000 in
theorem plainDo_told {m : Mo} (hm : MoOk m) (hH1 : 1 ≤ m.c.H) {o : X.O} (ho : OpOk o) : Told P T plain_Do [] [eM m, X.encO o] (.tup [eM (doF m o).1, eA (doF m o).2]) [] := by
  have hH := hm.c.h2
  have hlen := hm.a.len
  have hmm := hm.mm
  have hol : m.on.length ≤ 65536 := by have := hm.o; have := Nat.div_le_self m.c.H m.c.Pg; omega
  have c0 := twin_told (c := m.c) (live := m.live) (peak := m.peak) (mark := m.mark) (bs := m.bs.map eB) (on := m.on.map .bool) (mem := m.mem.map u8) (by rw [List.length_map]; omega) (by rw [List.length_map]; omega) (by rw [List.length_map]; omega)
  have c0 : Told P T plain_twin [] [eM m] _ _ := c0
  refine told_of_ev (fn := plain_Do_fn) tabOk mixed (by kernel_rfl) (by kernel_rfl) (by kernel_rfl) (by kernel_rfl) ?_
  (refine gw ?_; refine Choice.mk ⟨false, Choice.mk ⟨false, _, _, c0, ?_⟩⟩)
  by_cases h1 : o.k = 1
  · have c1 := aligned_told hm (s := o.s) (a := 1) (by omega)
    have e : doF m o = asksF m (newF m.c m.live o.s 1) o.s (·.1) := by
      unfold doF giveF asksF
      rw [if_pos (.inl h1)]
      simp only [if_neg (show ¬ o.k = 2 by omega), if_neg (show ¬ o.k = 3 by omega)]
    rw [e]
    (refine gw ?_; refine IfB.tt (by simp [h1]) ?_)
    (refine gw ?_; refine Choice.mk ⟨true, Choice.mk ⟨false, _, _, c1, ?_⟩⟩)
    (refine gw ?_; exact RetN.fz ⟨[true, true], [], rfl, rfl, rfl⟩)
  (refine gw ?_; refine IfB.ff (by simp [h1]) ?_)
  by_cases h2 : o.k = 2
  · have c1 := calloc_told hm ho.n ho.s
    have e : doF m o = asksF m (manyF m.c m.live o.n o.s) (o.n * o.s) (fun p => { p.1 with mem := zeroF p.1.mem p.2.1.toNat (manyF m.c m.live o.n o.s).1 }) := by
      unfold doF giveF asksF
      rw [if_pos (.inr (.inr h2))]
      simp only [if_pos h2]
    rw [e]
    (refine gw ?_; refine IfB.tt (by simp [h2]) ?_)
    (refine gw ?_; refine Choice.mk ⟨true, Choice.mk ⟨false, _, _, c1, ?_⟩⟩)
    (refine gw ?_; exact RetN.fz ⟨[true, true], [], rfl, rfl, rfl⟩)
  (refine gw ?_; refine IfB.ff (by simp [h2]) ?_)
  by_cases h3 : o.k = 3
  · have c1 := aligned_told hm (s := o.s) (a := o.a) ho.a.2
    have e : doF m o = asksF m (newF m.c m.live o.s o.a) o.s (·.1) := by
      unfold doF giveF asksF
      rw [if_pos (.inr (.inl h3))]
      simp only [if_neg h2, if_pos h3]
    rw [e]
    (refine gw ?_; refine IfB.tt (by simp [h3]) ?_)
    (refine gw ?_; refine Choice.mk ⟨true, Choice.mk ⟨false, _, _, c1, ?_⟩⟩)
    (refine gw ?_; exact RetN.fz ⟨[true, true], [], rfl, rfl, rfl⟩)
  (refine gw ?_; refine IfB.ff (by simp [h3]) ?_)
  by_cases hk : o.k = 4 ∨ o.k = 5 ∨ o.k = 6 ∨ o.k = 7 ∨ o.k = 8
  · have c1 := block_told' hm ho hk
    rcases hk with hk | hk | hk | hk | hk
    · (refine gw ?_; refine IfB.tt (by simp [hk]) ?_)
      (refine gw ?_; refine IfB.tt (by simp [hk]) ?_)
      (refine gw ?_; refine Choice.mk ⟨true, Choice.mk ⟨false, _, _, c1, ?_⟩⟩)
      (refine gw ?_; exact RetN.fz ⟨[true, true], [], rfl, rfl, rfl⟩)
    · (refine gw ?_; refine IfB.ff (by simp [hk]) ?_)
      (refine gw ?_; refine IfB.tt (by simp [hk]) ?_)
      (refine gw ?_; refine IfB.tt (by simp [hk]) ?_)
      (refine gw ?_; refine Choice.mk ⟨true, Choice.mk ⟨false, _, _, c1, ?_⟩⟩)
      (refine gw ?_; exact RetN.fz ⟨[true, true], [], rfl, rfl, rfl⟩)
    · (refine gw ?_; refine IfB.ff (by simp [hk]) ?_)
      (refine gw ?_; refine IfB.ff (by simp [hk]) ?_)
      (refine gw ?_; refine IfB.tt (by simp [hk]) ?_)
      (refine gw ?_; refine IfB.tt (by simp [hk]) ?_)
      (refine gw ?_; refine Choice.mk ⟨true, Choice.mk ⟨false, _, _, c1, ?_⟩⟩)
      (refine gw ?_; exact RetN.fz ⟨[true, true], [], rfl, rfl, rfl⟩)
    · (refine gw ?_; refine IfB.ff (by simp [hk]) ?_)
      (refine gw ?_; refine IfB.ff (by simp [hk]) ?_)
      (refine gw ?_; refine IfB.ff (by simp [hk]) ?_)
      (refine gw ?_; refine IfB.tt (by simp [hk]) ?_)
      (refine gw ?_; refine IfB.tt (by simp [hk]) ?_)
      (refine gw ?_; refine Choice.mk ⟨true, Choice.mk ⟨false, _, _, c1, ?_⟩⟩)
      (refine gw ?_; exact RetN.fz ⟨[true, true], [], rfl, rfl, rfl⟩)
    · (refine gw ?_; refine IfB.ff (by simp [hk]) ?_)
      (refine gw ?_; refine IfB.ff (by simp [hk]) ?_)
      (refine gw ?_; refine IfB.ff (by simp [hk]) ?_)
      (refine gw ?_; refine IfB.ff (by simp [hk]) ?_)
      (refine gw ?_; refine IfB.tt (by simp [hk]) ?_)
      (refine gw ?_; refine Choice.mk ⟨true, Choice.mk ⟨false, _, _, c1, ?_⟩⟩)
      (refine gw ?_; exact RetN.fz ⟨[true, true], [], rfl, rfl, rfl⟩)
  (refine gw ?_; refine IfB.ff (by simp; omega) ?_)
  (refine gw ?_; refine IfB.ff (by simp; omega) ?_)
  (refine gw ?_; refine IfB.ff (by simp; omega) ?_)
  (refine gw ?_; refine IfB.ff (by simp; omega) ?_)
  (refine gw ?_; refine IfB.ff (by simp; omega) ?_)
  unfold doF
  rw [if_neg (by omega)]
  by_cases h9 : o.k = 9
  · have c1 := plainTrim_told hm hH1
    rw [if_pos h9]
    (refine gw ?_; refine IfB.tt (by simp [h9]) ?_)
    (refine gw ?_; refine Choice.mk ⟨true, Choice.mk ⟨false, _, _, c1, ?_⟩⟩)
    (refine gw ?_; exact RetN.fz ⟨[true, true], [], rfl, rfl, rfl⟩)
  rw [if_neg h9]
  (refine gw ?_; refine IfB.ff (by simp [h9]) ?_)
  by_cases h10 : o.k = 10
  · have c1 := pinCount_told m.on (by omega)
    rw [if_pos h10]
    (refine gw ?_; refine IfB.tt (by simp [h10]) ?_)
    (refine gw ?_; refine Choice.mk ⟨false, Choice.mk ⟨true, _, _, c1, ?_⟩⟩)
    (refine gw ?_; exact RetN.fz ⟨[true, true], [], rfl, rfl, rfl⟩)
  rw [if_neg h10, if_neg hk]
  (refine gw ?_; refine IfB.ff (by simp [h10]) ?_)
  (refine gw ?_; exact RetN.fz ⟨[true, true], [], rfl, rfl, rfl⟩)
end Go.Ev.W
namespace Go.Ev.W
open Go.Ev Go.Ev.N
set_option maxHeartbeats 1000000 in
theorem sameBlocksR (l : List Bk) (hl : l.length ≤ 1000000) : Told P T ref17_SameBlocks [] [.lst t_api_Block (l.map eB), .lst t_api_Block (l.map eB)] (.bool true) [] := by
  have hml : (l.map eB).length = l.length := by simp
  refine told_of_ev (fn := ref17_SameBlocks_fn) tabOk mixed (by kernel_rfl) (by kernel_rfl) (by kernel_rfl) (by kernel_rfl) ?_
  refine gw ?_
  (refine gw ?_; refine LoopN.mk ⟨[0,1,5], fun vs L => ∃ i : Nat, vs = [.lst t_api_Block (l.map eB), .lst t_api_Block (l.map eB), i64 i] ∧ i ≤ l.length ∧ L = [], fun vs L => match vs with | [_, _, .int _ i] => l.length - i.toNat | _ => 0, [], [], rfl, ⟨0, rfl, by omega, rfl⟩, ?_⟩)
  rintro vs L ⟨i, rfl, hi, rfl⟩
  (refine gw ?_; first | refine IfB.dec (fun h2 => ?_) (fun h2 => ?_) | refine IfB.eq (fun h2 => ?_) (fun h2 => ?_) | refine IfB.ne (fun h2 => ?_) (fun h2 => ?_) | refine IfB.mk (fun h2 => ?_) (fun h2 => ?_))
  · have hlt : i < l.length := by omega
    (refine gw ?_; refine idx_map (hlt) ?_)
    (refine gw ?_; refine idx_map (hlt) ?_)
    (refine gw ?_)
    first | refine IfB.ff (by simp) ?_ | skip
    (refine gw ?_; refine ⟨[], [], rfl, ⟨i + 1, rfl, hlt, rfl⟩, (by omega : l.length - ((i : Int) + 1).toNat < l.length - (i : Int).toNat)⟩)
  · (refine gw ?_; exact RetN.mk ⟨[], rfl, rfl, rfl⟩)
set_option maxHeartbeats 1000000 in
theorem sameBoolsR (l : List Bool) (hl : l.length ≤ 1000000) : Told P T ref8_SameBools [] [.lst t_bool (l.map AV.bool), .lst t_bool (l.map AV.bool)] (.bool true) [] := by
  have hml : (l.map AV.bool).length = l.length := by simp
  refine told_of_ev (fn := ref8_SameBools_fn) tabOk mixed (by kernel_rfl) (by kernel_rfl) (by kernel_rfl) (by kernel_rfl) ?_
  refine gw ?_
  (refine gw ?_; refine LoopN.mk ⟨[0,1,5], fun vs L => ∃ i : Nat, vs = [.lst t_bool (l.map AV.bool), .lst t_bool (l.map AV.bool), i64 i] ∧ i ≤ l.length ∧ L = [], fun vs L => match vs with | [_, _, .int _ i] => l.length - i.toNat | _ => 0, [], [], rfl, ⟨0, rfl, by omega, rfl⟩, ?_⟩)
  rintro vs L ⟨i, rfl, hi, rfl⟩
  (refine gw ?_; first | refine IfB.dec (fun h2 => ?_) (fun h2 => ?_) | refine IfB.eq (fun h2 => ?_) (fun h2 => ?_) | refine IfB.ne (fun h2 => ?_) (fun h2 => ?_) | refine IfB.mk (fun h2 => ?_) (fun h2 => ?_))
  · have hlt : i < l.length := by omega
    (refine gw ?_; refine idx_map (hlt) ?_)
    (refine gw ?_; refine idx_map (hlt) ?_)
    (refine gw ?_)
    first | refine IfB.ff (by simp) ?_ | skip
    (refine gw ?_; refine ⟨[], [], rfl, ⟨i + 1, rfl, hlt, rfl⟩, (by omega : l.length - ((i : Int) + 1).toNat < l.length - (i : Int).toNat)⟩)
  · (refine gw ?_; exact RetN.mk ⟨[], rfl, rfl, rfl⟩)
set_option maxHeartbeats 1000000 in
theorem equalBlocksR (l : List Bk) (hl : l.length ≤ 1000000) : Told P T slices_Equal_api_Block_api_Block [] [.lst t_api_Block (l.map eB), .lst t_api_Block (l.map eB)] (.bool true) [] := by
  have hml : (l.map eB).length = l.length := by simp
  refine told_of_ev (fn := slices_Equal_api_Block_api_Block_fn) tabOk mixed (by kernel_rfl) (by kernel_rfl) (by kernel_rfl) (by kernel_rfl) ?_
  refine gw ?_
  (refine gw ?_; refine LoopN.mk ⟨[0,1,12,13], fun vs L => ∃ i : Nat, vs = [.lst t_api_Block (l.map eB), .lst t_api_Block (l.map eB), i64 (l.map eB).length, i64 i] ∧ i ≤ l.length ∧ L = [], fun vs L => match vs with | [_, _, _, .int _ i] => l.length - i.toNat | _ => 0, [], [], rfl, ⟨0, rfl, by omega, rfl⟩, ?_⟩)
  rintro vs L ⟨i, rfl, hi, rfl⟩
  (refine gw ?_; first | refine IfB.dec (fun h2 => ?_) (fun h2 => ?_) | refine IfB.eq (fun h2 => ?_) (fun h2 => ?_) | refine IfB.ne (fun h2 => ?_) (fun h2 => ?_) | refine IfB.mk (fun h2 => ?_) (fun h2 => ?_))
  · have hlt : i < l.length := by omega
    (refine gw ?_; refine idx_map (hlt) ?_)
    (refine gw ?_; refine idx_map (hlt) ?_)
    (refine gw ?_)
    first | refine IfB.ff (by simp) ?_ | skip
    (refine gw ?_; refine ⟨[], [], rfl, ⟨i + 1, rfl, hlt, rfl⟩, (by omega : l.length - ((i : Int) + 1).toNat < l.length - (i : Int).toNat)⟩)
  · (refine gw ?_; exact RetN.mk ⟨[], rfl, rfl, rfl⟩)
set_option maxHeartbeats 1000000 in
theorem equalBoolsR (l : List Bool) (hl : l.length ≤ 1000000) : Told P T slices_Equal_bool_bool [] [.lst t_bool (l.map AV.bool), .lst t_bool (l.map AV.bool)] (.bool true) [] := by
  have hml : (l.map AV.bool).length = l.length := by simp
  refine told_of_ev (fn := slices_Equal_bool_bool_fn) tabOk mixed (by kernel_rfl) (by kernel_rfl) (by kernel_rfl) (by kernel_rfl) ?_
  refine gw ?_
  (refine gw ?_; refine LoopN.mk ⟨[0,1,12,13], fun vs L => ∃ i : Nat, vs = [.lst t_bool (l.map AV.bool), .lst t_bool (l.map AV.bool), i64 (l.map AV.bool).length, i64 i] ∧ i ≤ l.length ∧ L = [], fun vs L => match vs with | [_, _, _, .int _ i] => l.length - i.toNat | _ => 0, [], [], rfl, ⟨0, rfl, by omega, rfl⟩, ?_⟩)
  rintro vs L ⟨i, rfl, hi, rfl⟩
  (refine gw ?_; first | refine IfB.dec (fun h2 => ?_) (fun h2 => ?_) | refine IfB.eq (fun h2 => ?_) (fun h2 => ?_) | refine IfB.ne (fun h2 => ?_) (fun h2 => ?_) | refine IfB.mk (fun h2 => ?_) (fun h2 => ?_))
  · have hlt : i < l.length := by omega
    (refine gw ?_; refine idx_map (hlt) ?_)
    (refine gw ?_; refine idx_map (hlt) ?_)
    (refine gw ?_)
    first | refine IfB.ff (by simp) ?_ | skip
    (refine gw ?_; refine ⟨[], [], rfl, ⟨i + 1, rfl, hlt, rfl⟩, (by omega : l.length - ((i : Int) + 1).toNat < l.length - (i : Int).toNat)⟩)
  · (refine gw ?_; exact RetN.mk ⟨[], rfl, rfl, rfl⟩)
set_option maxHeartbeats 1000000 in
theorem equalBytesR (l : List Nat) (hl : l.length ≤ 1000000) : Told P T slices_Equal_byte_byte [] [.lst t_uint8 (l.map u8), .lst t_uint8 (l.map u8)] (.bool true) [] := by
  have hml : (l.map u8).length = l.length := by simp
  refine told_of_ev (fn := slices_Equal_byte_byte_fn) tabOk mixed (by kernel_rfl) (by kernel_rfl) (by kernel_rfl) (by kernel_rfl) ?_
  refine gw ?_
  (refine gw ?_; refine LoopN.mk ⟨[0,1,12,13], fun vs L => ∃ i : Nat, vs = [.lst t_uint8 (l.map u8), .lst t_uint8 (l.map u8), i64 (l.map u8).length, i64 i] ∧ i ≤ l.length ∧ L = [], fun vs L => match vs with | [_, _, _, .int _ i] => l.length - i.toNat | _ => 0, [], [], rfl, ⟨0, rfl, by omega, rfl⟩, ?_⟩)
  rintro vs L ⟨i, rfl, hi, rfl⟩
  (refine gw ?_; first | refine IfB.dec (fun h2 => ?_) (fun h2 => ?_) | refine IfB.eq (fun h2 => ?_) (fun h2 => ?_) | refine IfB.ne (fun h2 => ?_) (fun h2 => ?_) | refine IfB.mk (fun h2 => ?_) (fun h2 => ?_))
  · have hlt : i < l.length := by omega
    (refine gw ?_; refine idx_map (hlt) ?_)
    (refine gw ?_; refine idx_map (hlt) ?_)
    (refine gw ?_)
    first | refine IfB.ff (by simp) ?_ | skip
    (refine gw ?_; refine ⟨[], [], rfl, ⟨i + 1, rfl, hlt, rfl⟩, (by omega : l.length - ((i : Int) + 1).toNat < l.length - (i : Int).toNat)⟩)
  · (refine gw ?_; exact RetN.mk ⟨[], rfl, rfl, rfl⟩)
theorem hH1 {m : Mo} (hm : MoOk m) : 1 ≤ m.c.H := by
  have := hm.c.gpos
  have := hm.c.nM
  have := hm.c.h
  have h := hm.c.n
  have : 1 ≤ m.c.G * 2 ^ m.c.L := Nat.mul_pos (by omega) (Nat.two_pow_pos _)
  omega
theorem bytesN_of {l : List Nat} (h : IsB l) : ∃ s : ByteArray, l.map u8 = s.data.toList.map (fun b => .int .u8 b.toNat) := by
  refine ⟨⟨(l.map UInt8.ofNat).toArray⟩, ?_⟩
  simp only [List.map_map]
  refine List.map_congr_left fun x hx => ?_
  have := h x hx
  simp only [Function.comp, u8]
  congr 1
  rw [UInt8.toNat_ofNat']
  omega
set_option maxHeartbeats 4000000 in
theorem same17R {m : Mo} (h1 : m.bs.length ≤ 1000000) (h2 : m.on.length ≤ 1000000) (h3 : IsB m.mem) : Told P T ref17_Same [] [eM m, eM m] (.bool true) [] := by
  have c1 := sameBlocksR m.bs h1
  have c2 := sameBoolsR m.on h2
  obtain ⟨s, hs⟩ := bytesN_of h3
  refine told_of_ev (fn := ref17_Same_fn) tabOk mixed (by kernel_rfl) (by kernel_rfl) (by kernel_rfl) (by kernel_rfl) ?_
  (refine gw ?_; refine Choice.mk ⟨false, Choice.mk ⟨true, _, _, c1, ?_⟩⟩)
  (refine gw ?_; refine Choice.mk ⟨false, Choice.mk ⟨true, _, _, c2, ?_⟩⟩)
  (refine gw ?_)
  refine Bytes.mk ⟨s, hs, ?_⟩
  (refine gw ?_)
  refine Bytes.mk ⟨s, hs, ?_⟩
  (refine gw ?_; refine RetN.mk ⟨[], rfl, ?_, rfl⟩)
  show AV.bool (s.toList == s.toList) = _
  simp
set_option maxHeartbeats 4000000 in
theorem samePlainR {m : Mo} (h1 : m.bs.length ≤ 1000000) (h2 : m.on.length ≤ 1000000) (h3 : m.mem.length ≤ 1000000) : Told P T plain_Same [] [eM m, eM m] (.bool true) [] := by
  have c1 := equalBlocksR m.bs h1
  have c2 := equalBoolsR m.on h2
  have c3 := equalBytesR m.mem h3
  refine told_of_ev (fn := plain_Same_fn) tabOk mixed (by kernel_rfl) (by kernel_rfl) (by kernel_rfl) (by kernel_rfl) ?_
  (refine gw ?_; refine Choice.mk ⟨false, Choice.mk ⟨true, _, _, c1, ?_⟩⟩)
  (refine gw ?_; refine Choice.mk ⟨false, Choice.mk ⟨true, _, _, c2, ?_⟩⟩)
  (refine gw ?_; refine Choice.mk ⟨false, Choice.mk ⟨true, _, _, c3, ?_⟩⟩)
  (refine gw ?_; exact RetN.mk ⟨[], rfl, rfl, rfl⟩)
end Go.Ev.W
namespace Go.Ev.W
open Go.Ev Go.Ev.N

open Classical in
noncomputable def opO (m : Mo) (p : Pk) : X.O := if h : MoOk m ∧ p.Ok then (op_told h.1.c h.1.a p h.2).choose else ⟨0, 0, 0, 0, 0, 0⟩
open Classical in
noncomputable def opP (m : Mo) (p : Pk) : Pk := if h : MoOk m ∧ p.Ok then (op_told h.1.c h.1.a p h.2).choose_spec.choose else p
theorem opO_spec {m : Mo} (hm : MoOk m) {p : Pk} (ok : p.Ok) : Told P T mk_Picks_Op [pkB p] [.ptr 0 0 0, eC m.c, lK m.bs] (X.encO (opO m p)) [pkB (opP m p)] ∧ (opP m p).Ok ∧ OpG m.c (opO m p) := by
  unfold opO opP
  rw [dif_pos ⟨hm, ok⟩, dif_pos ⟨hm, ok⟩]
  exact (op_told hm.c hm.a p ok).choose_spec.choose_spec
noncomputable def opsF : Nat → Mo → Pk → List X.O × Pk
  | 0, _, p => ([], p)
  | n + 1, m, p => if p.over = true then ([], p) else (opO m p :: (opsF n (doF m (opO m p)).1 (opP m p)).1, (opsF n (doF m (opO m p)).1 (opP m p)).2)
noncomputable def opsA (r : Rw) (n : Nat) (p : Pk) : List X.O × Pk := if (newM r).2 ≠ 0 then ([], p) else opsF n (newM r).1 p
theorem opsF_ok : ∀ (n : Nat) {m : Mo} {p : Pk}, MoOk m → p.Ok → (opsF n m p).2.Ok ∧ (opsF n m p).1.length ≤ n ∧ ∀ o ∈ (opsF n m p).1, OpG m.c o
  | 0, m, p, hm, ok => ⟨ok, by simp [opsF], by simp [opsF]⟩
  | n + 1, m, p, hm, ok => by
    unfold opsF
    split
    · exact ⟨ok, by simp, by simp⟩
    · obtain ⟨_, h2, h3⟩ := opO_spec hm ok
      have hd := doF_ok hm (h3.ok hm.c)
      obtain ⟨a, b, c⟩ := opsF_ok n hd.1 h2
      rw [hd.2] at c
      refine ⟨a, by simp; exact b, fun o ho => ?_⟩
      rcases List.mem_cons.1 ho with rfl | ho
      · exact h3
      · exact c o ho
theorem opsA_ok {r : Rw} (n : Nat) {p : Pk} (ok : p.Ok) : (opsA r n p).2.Ok ∧ (opsA r n p).1.length ≤ n ∧ ∀ o ∈ (opsA r n p).1, ∃ c : Cf, c.Ok ∧ OpG c o := by
  unfold opsA
  split
  · exact ⟨ok, by simp, by simp⟩
  · rename_i h
    have hm := newM_ok (Decidable.of_not_not h)
    obtain ⟨a, b, c⟩ := opsF_ok n hm ok
    exact ⟨a, b, fun o ho => ⟨_, hm.c, c o ho⟩⟩
set_option maxRecDepth 20000 in
set_option maxHeartbeats 8000000 in
theorem ops_told (r : Rw) {n : Nat} (hn : n ≤ 100000) {p : Pk} (ok : p.Ok) : Told P T mk_Picks_Ops [pkB p] [.ptr 0 0 0, eR r, i64 n] (.lst t_api_Op ((opsA r n p).1.map X.encO)) [pkB (opsA r n p).2] := by
  have c1 := new17_told r
  have hm0 := newM_ok (r := r)
  unfold opsA
  generalize newM r = M at *
  obtain ⟨m0, e⟩ := M
  by_cases he : e = 0
  · subst he
    have hm0 : MoOk m0 := hm0 rfl
    have c1 : Told P T ref17_New [] [eR r] (.tup [eM m0, i64 ((0 : Nat) : Int)]) [] := c1
    simp only [ne_eq, not_true_eq_false, if_false]
    refine told_of_ev (fn := mk_Picks_Ops_fn) tabOk mixed (by kernel_rfl) (by kernel_rfl) (by kernel_rfl) (by kernel_rfl) ?_
    (refine gw ?_; refine Choice.mk ⟨false, Choice.mk ⟨false, _, _, c1, ?_⟩⟩)
    (refine gw ?_; refine LoopN.mk ⟨[0,2,7,9,10], fun vs L => ∃ (k : Nat) (q : Pk) (m : Mo) (os : List X.O), vs = [.ptr 0 0 0, i64 n, .ptr 1 0 0, .ref 2, i64 k] ∧ L = [pkB q, .var (eM m), .row t_api_Op (os.map X.encO)] ∧ k ≤ n ∧ os.length = k ∧ q.Ok ∧ MoOk m ∧ opsF n m0 p = (os ++ (opsF (n - k) m q).1, (opsF (n - k) m q).2), fun vs L => match vs with | [_, _, _, _, .int _ i] => n - i.toNat | _ => 0, [], [3,7], rfl, ⟨0, p, m0, [], rfl, rfl, by omega, rfl, ok, hm0, rfl⟩, ?_⟩)
    rintro vs L ⟨k, q, m, os, rfl, rfl, hk, hos, okq, hm, he⟩
    have hom : (os.map X.encO).length = k := by rw [List.length_map]; exact hos
    by_cases hkn : k < n
    · obtain ⟨t1, t2, t3⟩ := opO_spec hm okq
      have hd := doF_ok hm (t3.ok hm.c)
      have t4 := do17_told hm (t3.ok hm.c)
      have hsf : opsF (n - k) m q = if q.over = true then ([], q) else (opO m q :: (opsF (n - (k + 1)) (doF m (opO m q)).1 (opP m q)).1, (opsF (n - (k + 1)) (doF m (opO m q)).1 (opP m q)).2) := by
        rw [show n - k = (n - (k + 1)) + 1 by omega]; rfl
      clear c1
      generalize opO m q = o at *
      generalize opP m q = q' at *
      generalize doF m o = D at *
      obtain ⟨m', an'⟩ := D
      have hma : (os ++ [o]).map X.encO = os.map X.encO ++ [X.encO o] := by simp
      simp only at hsf hd t4
      (refine gw ?_; refine IfB.tt (by simp; omega) ?_)
      (refine gw ?_; refine Choice.mk ⟨true, Choice.mk ⟨false, _, _, over_told' q, ?_⟩⟩)
      cases hov : q.over with
      | true =>
        rw [hov, if_pos rfl] at hsf
        rw [hsf, List.append_nil] at he
        rw [he]
        (refine gw ?_; exact RetN.fz ⟨[true], [], rfl, rfl, rfl⟩)
      | false =>
        rw [hov, if_neg (by simp)] at hsf
        rw [hsf] at he
        (refine gw ?_; refine Choice.mk ⟨true, Choice.mk ⟨false, _, _, t1, ?_⟩⟩)
        (refine gw ?_; refine Room.mk (by first | omega | (simp; omega) | (simp <;> fail)) ?_)
        (refine gw ?_; refine Choice.mk ⟨false, Choice.mk ⟨false, _, _, t4, ?_⟩⟩)
        (refine gw ?_; refine ⟨[], [1,5], rfl, ⟨k + 1, q', m', os ++ [o], rfl, by rw [hma]; rfl, hkn, by simp [hos], t2, hd.1, by rw [he]; simp⟩, (by omega : n - ((k : Int) + 1).toNat < n - (k : Int).toNat)⟩)
    · have e : k = n := by omega
      subst e
      rw [Nat.sub_self] at he
      have he : opsF k m0 p = (os, q) := by rw [he]; simp [opsF]
      rw [he]
      (refine gw ?_; exact RetN.fz ⟨[true], [], rfl, rfl, rfl⟩)
  · simp only [ne_eq, he, not_false_eq_true, if_true]
    have c1 : Told P T ref17_New [] [eR r] (.tup [eM m0, i64 ((e : Nat) : Int)]) [] := c1
    refine told_of_ev (fn := mk_Picks_Ops_fn) tabOk mixed (by kernel_rfl) (by kernel_rfl) (by kernel_rfl) (by kernel_rfl) ?_
    (refine gw ?_; refine Choice.mk ⟨false, Choice.mk ⟨false, _, _, c1, ?_⟩⟩)
    (refine gw ?_; refine IfB.tt (by simpa using he) ?_)
    (refine gw ?_; exact RetN.fz ⟨[true], [], rfl, rfl, rfl⟩)
end Go.Ev.W
namespace Go.Ev.W
open Go.Ev Go.Ev.N

theorem shpOp {n : Nat} {x : AV} (h : Shp T (n + 2) t_api_Op x) : ∃ o : X.O, x = X.encO o ∧ OpOk o := by
  unfold Shp at h
  obtain ⟨ys, rfl, hy, hn⟩ := (show ∃ ys : List AV, x = .agg (ys.flatMap cells) ∧ ys.length = 6 ∧ ∀ (i : Nat) (p : Nat × Nat) (y : AV), [((0 : Nat), t_int), (1, t_int), (2, t_int), (3, t_int), (4, t_int), (5, t_uint8)][i]? = some p → ys[i]? = some y → Shp T (n + 1) p.2 y from h)
  match ys, hy, hn with
  | [y0, y1, y2, y3, y4, y5], _, hn =>
    obtain ⟨a0, rfl, b0⟩ := shp_i64 (by kernel_rfl) (hn 0 _ y0 rfl rfl)
    obtain ⟨a1, rfl, b1⟩ := shp_i64 (by kernel_rfl) (hn 1 _ y1 rfl rfl)
    obtain ⟨a2, rfl, b2⟩ := shp_i64 (by kernel_rfl) (hn 2 _ y2 rfl rfl)
    obtain ⟨a3, rfl, b3⟩ := shp_i64 (by kernel_rfl) (hn 3 _ y3 rfl rfl)
    obtain ⟨a4, rfl, b4⟩ := shp_i64 (by kernel_rfl) (hn 4 _ y4 rfl rfl)
    obtain ⟨b, rfl, hb⟩ := shp_u8 (by kernel_rfl) (hn 5 _ y5 rfl rfl)
    exact ⟨⟨a0, a1, a2, a3, a4, (b : Int)⟩, rfl, ⟨b0, b1, b2, b3, b4, by simp, by show (b : Int) < 256; omega⟩⟩
theorem shpRaw {n : Nat} {x : AV} (h : Shp T (n + 2) t_api_Raw x) : ∃ r : Rw, x = eR r := by
  unfold Shp at h
  obtain ⟨ys, rfl, hy, hn⟩ := (show ∃ ys : List AV, x = .agg (ys.flatMap cells) ∧ ys.length = 6 ∧ ∀ (i : Nat) (p : Nat × Nat) (y : AV), [((0 : Nat), t_int), (1, t_int), (2, t_int), (3, t_int), (4, t_int), (5, t_int)][i]? = some p → ys[i]? = some y → Shp T (n + 1) p.2 y from h)
  match ys, hy, hn with
  | [y0, y1, y2, y3, y4, y5], _, hn =>
    obtain ⟨a0, rfl, b0⟩ := shp_i64 (by kernel_rfl) (hn 0 _ y0 rfl rfl)
    obtain ⟨a1, rfl, b1⟩ := shp_i64 (by kernel_rfl) (hn 1 _ y1 rfl rfl)
    obtain ⟨a2, rfl, b2⟩ := shp_i64 (by kernel_rfl) (hn 2 _ y2 rfl rfl)
    obtain ⟨a3, rfl, b3⟩ := shp_i64 (by kernel_rfl) (hn 3 _ y3 rfl rfl)
    obtain ⟨a4, rfl, b4⟩ := shp_i64 (by kernel_rfl) (hn 4 _ y4 rfl rfl)
    obtain ⟨a5, rfl, b5⟩ := shp_i64 (by kernel_rfl) (hn 5 _ y5 rfl rfl)
    exact ⟨⟨a0, a1, a2, a3, a4, a5⟩, rfl⟩
def rB : Rw := ⟨1, 4, 8, 4, 6, 0⟩
def cB : Cf := ⟨1, 4, 8, 2, 4, 6, 16, 0⟩
def mB0 : Mo := ⟨cB, [], 0, 0, 0, [false, false, false, false], List.replicate 16 0⟩
def mB1 : Mo := ⟨cB, [⟨0, 4, 3⟩], 4, 4, 4, [true, false, false, false], [1, 8, 15, 22, 0, 0, 0, 0, 0, 0, 0, 0, 0, 0, 0, 0]⟩
def mB2 : Mo := ⟨cB, [⟨0, 4, 3⟩, ⟨4, 1, 1⟩], 5, 5, 5, [true, true, false, false], [1, 8, 15, 22, 0, 39, 46, 53, 0, 0, 0, 0, 0, 0, 0, 0]⟩
def oB1 : X.O := ⟨1, 0, 3, 0, 0, 0⟩
def oB2 : X.O := ⟨2, 0, 1, 0, 1, 0⟩
def oB3 : X.O := ⟨5, 1, 0, 0, 0, 0⟩
theorem oB_ok : OpOk oB1 ∧ OpOk oB2 ∧ OpOk oB3 := ⟨⟨by decide, by decide, by decide, by decide, by decide, by decide⟩, ⟨by decide, by decide, by decide, by decide, by decide, by decide⟩, ⟨by decide, by decide, by decide, by decide, by decide, by decide⟩⟩
theorem nB : newM rB = (mB0, 0) := by decide +kernel
theorem dB1 : doF mB0 oB1 = (mB1, an0) := by decide +kernel
theorem dB2 : doF mB1 oB2 = (mB2, { an0 with at' := 4 }) := by decide +kernel
theorem dB3 : doF mB2 oB3 = (mB2, anE 8) := by decide +kernel
theorem nB0 : (newM ⟨0, 0, 0, 0, 0, 0⟩).2 = 1 ∧ (newM ⟨0, 0, 0, 0, 0, 0⟩).1 = ⟨cf0, [], 0, 0, 0, [], []⟩ := by decide +kernel
theorem mB0_ok : MoOk mB0 := by
  have := newM_ok (r := rB) (by rw [nB])
  rw [nB] at this; exact this
theorem mB1_ok : MoOk mB1 := by
  have := (doF_ok mB0_ok oB_ok.1).1
  rw [dB1] at this; exact this
theorem mB2_ok : MoOk mB2 := by
  have := (doF_ok mB1_ok oB_ok.2.1).1
  rw [dB2] at this; exact this
set_option maxRecDepth 20000 in
set_option maxHeartbeats 4000000 in
theorem begun17_told : Told P T law17_begun [] [] (.bool true) [] := by
  have c1 := plainNew_told rB
  have c2 := plainNew_told ⟨0, 0, 0, 0, 0, 0⟩
  have c3 := plainDo_told mB0_ok (hH1 mB0_ok) oB_ok.1
  have c4 := plainDo_told mB1_ok (hH1 mB1_ok) oB_ok.2.1
  have c5 := plainDo_told mB2_ok (hH1 mB2_ok) oB_ok.2.2
  have c6 := samePlainR (m := mB0) (by decide) (by decide) (by decide)
  rw [nB] at c1
  rw [nB0.1, nB0.2] at c2
  rw [dB1] at c3
  rw [dB2] at c4
  rw [dB3] at c5
  refine told_of_ev (fn := law17_begun_fn) tabOk mixed (by kernel_rfl) (by kernel_rfl) (by kernel_rfl) (by kernel_rfl) ?_
  (refine gw ?_; refine Choice.mk ⟨false, Choice.mk ⟨false, _, _, c1, ?_⟩⟩)
  (refine gw ?_; refine Choice.mk ⟨false, Choice.mk ⟨false, _, _, c2, ?_⟩⟩)
  (refine gw ?_; refine Choice.mk ⟨false, Choice.mk ⟨false, _, _, c3, ?_⟩⟩)
  (refine gw ?_; refine Choice.mk ⟨false, Choice.mk ⟨false, _, _, c4, ?_⟩⟩)
  (refine gw ?_; refine Choice.mk ⟨false, Choice.mk ⟨false, _, _, c5, ?_⟩⟩)
  (refine gw ?_; refine Choice.mk ⟨false, Choice.mk ⟨true, _, _, c6, ?_⟩⟩)
  (refine gw ?_; exact RetN.mk ⟨[], rfl, rfl, rfl⟩)
theorem newM_bd (r : Rw) : (newM r).1.bs.length ≤ 1000000 ∧ (newM r).1.on.length ≤ 1000000 ∧ (newM r).1.mem.length ≤ 1000000 ∧ IsB (newM r).1.mem := by
  by_cases h : (newM r).2 = 0
  · have hm := newM_ok h
    have hH := hm.c.h2
    have := hm.a.len; have := hm.o; have := Nat.div_le_self (newM r).1.c.H (newM r).1.c.Pg; have := hm.mm
    exact ⟨by omega, by omega, by omega, hm.b⟩
  · have : (newM r).1 = ⟨cf0, [], 0, 0, 0, [], []⟩ := by
      unfold newM at h ⊢
      split
      · rfl
      · rename_i h2; rw [if_neg h2] at h; exact absurd rfl h
    rw [this]
    exact ⟨by simp, by simp, by simp, fun x hx => by simp at hx⟩
theorem MoOk.bd {m : Mo} (hm : MoOk m) : m.bs.length ≤ 1000000 ∧ m.on.length ≤ 1000000 ∧ m.mem.length ≤ 1000000 ∧ IsB m.mem := by
  have hH := hm.c.h2
  have := hm.a.len; have := hm.o; have := Nat.div_le_self m.c.H m.c.Pg; have := hm.mm
  exact ⟨by omega, by omega, by omega, hm.b⟩
set_option maxRecDepth 20000 in
set_option maxHeartbeats 4000000 in
theorem plainNew_law {r : Rw} {a : List Nat} (ha : IsB a) (hla : a.length ≤ maxLen) : Told P T law17_PlainNew [] [eR r, lB a] (.bool true) [] := by
  have hua : (a.map u8).length = a.length := by simp
  have oka : (⟨a, 0⟩ : Pk).Ok := ⟨ha, Nat.zero_le _, hla⟩
  have t1 := raw_told ⟨a, 0⟩ oka false
  generalize rawF ⟨a, 0⟩ false = R at *
  obtain ⟨r2, pa⟩ := R
  refine told_of_ev (fn := law17_PlainNew_fn) tabOk mixed (by kernel_rfl) (by kernel_rfl) (by kernel_rfl) (by kernel_rfl) ?_
  (refine gw ?_; refine Choice.mk ⟨false, Choice.mk ⟨false, _, _, begun17_told, ?_⟩⟩)
  by_cases h6 : a.length > 6
  · (refine gw ?_; refine IfB.tt (by rw [hua]; simp; omega) ?_)
    (refine gw ?_; exact RetN.mk ⟨[], rfl, rfl, rfl⟩)
  (refine gw ?_; refine IfB.ff (by rw [hua]; simp; omega) ?_)
  (refine gw ?_; refine Choice.mk ⟨false, Choice.mk ⟨false, _, _, made_told a, ?_⟩⟩)
  (refine gw ?_; refine Choice.mk ⟨true, Choice.mk ⟨false, _, _, t1, ?_⟩⟩)
  (refine gw ?_; refine LoopN.mk ⟨[5,6], fun vs L => ∃ k : Nat, vs = [.lst t_api_Raw ([r, r2].map eR), i64 k] ∧ L = [] ∧ k ≤ 2, fun vs L => match vs with | [_, .int _ i] => 2 - i.toNat | _ => 0, [5], [], rfl, ⟨0, rfl, rfl, by omega⟩, ?_⟩)
  rintro vs L ⟨k, rfl, rfl, hk⟩
  by_cases hk2 : k < 2
  · have hkl : k < [r, r2].length := hk2
    have n1 := plainNew_told [r, r2][k]
    have n2 := new17_told [r, r2][k]
    have hb := newM_bd [r, r2][k]
    have c1 := same17R hb.1 hb.2.1 hb.2.2.2
    (refine gw ?_; refine IfB.tt (by simp; omega) ?_)
    (refine gw ?_; refine idx_map (hkl) ?_)
    (refine gw ?_; refine Choice.mk ⟨false, Choice.mk ⟨false, _, _, n1, ?_⟩⟩)
    (refine gw ?_; refine idx_map (hkl) ?_)
    (refine gw ?_; refine Choice.mk ⟨false, Choice.mk ⟨false, _, _, n2, ?_⟩⟩)
    (refine gw ?_)
    generalize newM [r, r2][k] = M at *
    obtain ⟨m, e⟩ := M
    (refine gw ?_; refine Choice.mk ⟨false, Choice.mk ⟨true, _, _, c1, ?_⟩⟩)
    (refine gw ?_; refine ⟨[], [], rfl, ⟨k + 1, rfl, rfl, hk2⟩, (by omega : 2 - ((k : Int) + 1).toNat < 2 - (k : Int).toNat)⟩)
  · (refine gw ?_; refine IfB.ff (by simp; omega) ?_)
    (refine gw ?_; exact RetN.mk ⟨[], rfl, rfl, rfl⟩)
end Go.Ev.W
namespace Go.Ev.W
open Go.Ev Go.Ev.N

theorem plainNewLaw {x0 x1 : AV} (h0 : Shp T 8 t_api_Raw x0) (h1 : Shp T 8 ts_uint8 x1) : Told P T law17_PlainNew [] [x0, x1] (.bool true) [] := by
  obtain ⟨r, rfl⟩ := shpRaw h0
  obtain ⟨b, rfl, hb, hlb⟩ := shp_bytes h1
  exact plainNew_law hb hlb
set_option maxRecDepth 20000 in
set_option maxHeartbeats 8000000 in
theorem plainAll_told {a b : List Nat} (ha : IsB a) (hla : a.length ≤ maxLen) (hb : IsB b) (hlb : b.length ≤ maxLen) {w : X.O} (hw : OpOk w) : Told P T law17_PlainAll [] [lB a, lB b, X.encO w] (.bool true) [] := by
  have hua : (a.map u8).length = a.length := by simp
  have hub : (b.map u8).length = b.length := by simp
  have oka : (⟨a, 0⟩ : Pk).Ok := ⟨ha, Nat.zero_le _, hla⟩
  have okb : (⟨b, 0⟩ : Pk).Ok := ⟨hb, Nat.zero_le _, hlb⟩
  have t1 := raw_told ⟨a, 0⟩ oka false
  generalize rawF ⟨a, 0⟩ false = R at *
  obtain ⟨r, pa⟩ := R
  have n1 := plainNew_told r
  have n2 := new17_told r
  have hbd := newM_bd r
  have hok := newM_ok (r := r)
  generalize newM r = M at *
  obtain ⟨m0, e⟩ := M
  have s1 := same17R hbd.1 hbd.2.1 hbd.2.2.2
  refine told_of_ev (fn := law17_PlainAll_fn) tabOk mixed (by kernel_rfl) (by kernel_rfl) (by kernel_rfl) (by kernel_rfl) ?_
  (refine gw ?_; refine Choice.mk ⟨false, Choice.mk ⟨false, _, _, begun17_told, ?_⟩⟩)
  by_cases h6 : a.length > 6
  · (refine gw ?_; refine IfB.tt (by rw [hua]; simp; omega) ?_)
    (refine gw ?_; exact RetN.mk ⟨[], rfl, rfl, rfl⟩)
  (refine gw ?_; refine IfB.ff (by rw [hua]; simp; omega) ?_)
  by_cases h7 : b.length > 150
  · (refine gw ?_; refine IfB.tt (by rw [hub]; simp; omega) ?_)
    (refine gw ?_; exact RetN.mk ⟨[], rfl, rfl, rfl⟩)
  (refine gw ?_; refine IfB.ff (by rw [hub]; simp; omega) ?_)
  (refine gw ?_; refine Choice.mk ⟨false, Choice.mk ⟨false, _, _, made_told a, ?_⟩⟩)
  (refine gw ?_; refine Choice.mk ⟨true, Choice.mk ⟨false, _, _, t1, ?_⟩⟩)
  (refine gw ?_; refine Choice.mk ⟨false, Choice.mk ⟨false, _, _, n1, ?_⟩⟩)
  (refine gw ?_; refine Choice.mk ⟨false, Choice.mk ⟨false, _, _, n2, ?_⟩⟩)
  (refine gw ?_; refine Choice.mk ⟨false, Choice.mk ⟨true, _, _, s1, ?_⟩⟩)
  by_cases he : e = 0
  · subst he
    have hm0 : MoOk m0 := hok rfl
    (refine gw ?_; refine Choice.mk ⟨false, Choice.mk ⟨false, _, _, made_told b, ?_⟩⟩)
    (refine gw ?_; refine LoopN.mk ⟨[5,8,10,12,13], fun vs L => ∃ (k : Nat) (q : Pk) (m : Mo), vs = [.ptr 0 0 0, .ptr 1 0 0, .ptr 2 0 0, .ptr 3 0 0, i64 k] ∧ L = [.var (X.encO w), .var (eM m), .var (eM m), pkB q] ∧ k ≤ 40 ∧ q.Ok ∧ MoOk m, fun vs L => match vs with | [_, _, _, _, .int _ i] => 40 - i.toNat | _ => 0, [], [0,3,7,11], rfl, ⟨0, ⟨b, 0⟩, m0, rfl, rfl, by omega, okb, hm0⟩, ?_⟩)
    rintro vs L ⟨k, q, m, rfl, rfl, hk, okq, hm⟩
    by_cases hk4 : k < 40
    · obtain ⟨t1, t2, t3⟩ := opO_spec hm okq
      have ht3 := t3.ok hm.c
      generalize opO m q = o at *
      generalize opP m q = q' at *
      (refine gw ?_; refine IfB.tt (by simp; omega) ?_)
      (refine gw ?_; refine Choice.mk ⟨true, Choice.mk ⟨false, _, _, over_told' q, ?_⟩⟩)
      cases hov : q.over with
      | true =>
        have hbm := hm.bd
        have s2 := samePlainR hbm.1 hbm.2.1 hbm.2.2.1
        (refine gw ?_; refine Choice.mk ⟨false, Choice.mk ⟨true, _, _, s2, ?_⟩⟩)
        (refine gw ?_; exact RetN.mk ⟨[], rfl, rfl, rfl⟩)
      | false =>
        have em : ((k : Nat) : Int).tmod 10 = ((k % 10 : Nat) : Int) := by rw [Int.tmod_eq_emod_of_nonneg (by omega)]; omega
        (refine gw ?_; refine Choice.mk ⟨true, Choice.mk ⟨false, _, _, t1, ?_⟩⟩)
        (refine gw ?_)
        rw [em]
        by_cases h9 : k % 10 = 9
        · have d1 := plainDo_told hm (hH1 hm) hw
          have d2 := do17_told hm hw
          have hd := doF_ok hm hw
          generalize doF m w = D at *
          obtain ⟨m', an'⟩ := D
          have hm' : MoOk m' := hd.1
          have hbm := hm'.bd
          have s2 := samePlainR hbm.1 hbm.2.1 hbm.2.2.1
          have s3 := same17R hbm.1 hbm.2.1 hbm.2.2.2
          (refine gw ?_; refine IfB.tt (by simp [h9]) ?_)
          (refine gw ?_; refine Choice.mk ⟨false, Choice.mk ⟨false, _, _, d1, ?_⟩⟩)
          (refine gw ?_; refine Choice.mk ⟨false, Choice.mk ⟨false, _, _, d2, ?_⟩⟩)
          (refine gw ?_; refine Choice.mk ⟨false, Choice.mk ⟨true, _, _, s3, ?_⟩⟩)
          (refine gw ?_; refine Choice.mk ⟨false, Choice.mk ⟨true, _, _, s2, ?_⟩⟩)
          (refine gw ?_; refine ⟨[], [0,1,2,3], rfl, ⟨k + 1, q', m', rfl, rfl, hk4, t2, hm'⟩, (by omega : 40 - ((k : Int) + 1).toNat < 40 - (k : Int).toNat)⟩)
        · have d1 := plainDo_told hm (hH1 hm) ht3
          have d2 := do17_told hm ht3
          have hd := doF_ok hm ht3
          generalize doF m o = D at *
          obtain ⟨m', an'⟩ := D
          have hm' : MoOk m' := hd.1
          have hbm := hm'.bd
          have s2 := samePlainR hbm.1 hbm.2.1 hbm.2.2.1
          have s3 := same17R hbm.1 hbm.2.1 hbm.2.2.2
          (refine gw ?_; refine IfB.ff (by simp; omega) ?_)
          (refine gw ?_; refine Choice.mk ⟨false, Choice.mk ⟨false, _, _, d1, ?_⟩⟩)
          (refine gw ?_; refine Choice.mk ⟨false, Choice.mk ⟨false, _, _, d2, ?_⟩⟩)
          (refine gw ?_; refine Choice.mk ⟨false, Choice.mk ⟨true, _, _, s3, ?_⟩⟩)
          (refine gw ?_; refine Choice.mk ⟨false, Choice.mk ⟨true, _, _, s2, ?_⟩⟩)
          (refine gw ?_; refine ⟨[], [0,1,2,3], rfl, ⟨k + 1, q', m', rfl, rfl, hk4, t2, hm'⟩, (by omega : 40 - ((k : Int) + 1).toNat < 40 - (k : Int).toNat)⟩)
    · have hbm := hm.bd
      have s2 := samePlainR hbm.1 hbm.2.1 hbm.2.2.1
      (refine gw ?_; refine IfB.ff (by simp; omega) ?_)
      (refine gw ?_; refine Choice.mk ⟨false, Choice.mk ⟨true, _, _, s2, ?_⟩⟩)
      (refine gw ?_; exact RetN.mk ⟨[], rfl, rfl, rfl⟩)
  · (refine gw ?_; refine IfB.tt (by simpa using he) ?_)
    (refine gw ?_; exact RetN.mk ⟨[], rfl, rfl, rfl⟩)
theorem plainAll {x0 x1 x2 : AV} (h0 : Shp T 8 ts_uint8 x0) (h1 : Shp T 8 ts_uint8 x1) (h2 : Shp T 8 t_api_Op x2) : Told P T law17_PlainAll [] [x0, x1, x2] (.bool true) [] := by
  obtain ⟨a, rfl, ha, hla⟩ := shp_bytes h0
  obtain ⟨b, rfl, hb, hlb⟩ := shp_bytes h1
  obtain ⟨w, rfl, hw⟩ := shpOp h2
  exact plainAll_told ha hla hb hlb hw
/-- A call that is told an error has changed nothing. -/
theorem doF_err {m : Mo} {o : X.O} (h : (doF m o).2.e ≠ 0) : (doF m o).1 = m ∧ (doF m o).2 = anE (doF m o).2.e := by
  have giveE : ∀ (ce : Nat × Nat) (q : Int) (f : Mo × Int × Nat → Mo) (R : Mo × An), R = (if ce.2 ≠ 0 then (m, anE ce.2) else if (placeF m m.bs ce.1 q).2.2 ≠ 0 then (m, anE (placeF m m.bs ce.1 q).2.2) else (f (placeF m m.bs ce.1 q), { an0 with at' := (placeF m m.bs ce.1 q).2.1 })) → R.2.e ≠ 0 → R.1 = m ∧ R.2 = anE R.2.e := by
    intro ce q f R hR hn
    subst hR
    split
    · exact ⟨rfl, rfl⟩
    · split
      · exact ⟨rfl, rfl⟩
      · rename_i h1 h2
        rw [if_neg h1, if_neg h2] at hn
        exact absurd rfl hn
  unfold doF at h ⊢
  split
  · rename_i h1
    rw [if_pos h1] at h
    unfold giveF at h ⊢
    simp only at h ⊢
    by_cases h2 : o.k = 2
    · simp only [if_pos h2] at h ⊢
      exact giveE (manyF m.c m.live o.n o.s) (o.n * o.s) (fun p => { p.1 with mem := zeroF p.1.mem p.2.1.toNat (manyF m.c m.live o.n o.s).1 }) _ rfl h
    · simp only [if_neg h2] at h ⊢
      exact giveE (newF m.c m.live o.s (if o.k = 3 then o.a else 1)) o.s (fun p => p.1) _ rfl h
  · rename_i h1
    rw [if_neg h1] at h
    split
    · rename_i h2; rw [if_pos h2] at h; exact absurd rfl h
    · rename_i h2
      rw [if_neg h2] at h
      split
      · rename_i h3; rw [if_pos h3] at h; exact absurd rfl h
      · rename_i h3
        rw [if_neg h3] at h
        split
        · rename_i h4
          rw [if_pos h4] at h
          cases hf : findB m.bs o.p with
          | none => exact ⟨rfl, rfl⟩
          | some i =>
            rw [hf] at h
            simp only at h ⊢
            unfold ofB at h ⊢
            simp only at h ⊢
            split
            · rename_i g1
              rw [if_pos g1] at h
              split
              · exact ⟨rfl, rfl⟩
              · rename_i g2
                rw [if_neg g2] at h
                split
                · exact ⟨rfl, rfl⟩
                · rename_i g3; rw [if_neg g3] at h; exact absurd rfl h
            · rename_i g1
              rw [if_neg g1] at h
              split
              · rename_i g2; rw [if_pos g2] at h; exact absurd rfl h
              · rename_i g2
                rw [if_neg g2] at h
                split
                · rename_i g3; rw [if_pos g3] at h; exact absurd rfl h
                · rename_i g3
                  rw [if_neg g3] at h
                  split
                  · exact ⟨rfl, rfl⟩
                  · rename_i g4
                    rw [if_neg g4] at h
                    split
                    · rename_i g5; rw [if_pos g5] at h; exact absurd rfl h
                    · rename_i g5; rw [if_neg g5] at h; exact absurd rfl h
        · exact ⟨rfl, rfl⟩
set_option maxRecDepth 20000 in
set_option maxHeartbeats 8000000 in
theorem plainRefused_told {a b : List Nat} (ha : IsB a) (hla : a.length ≤ maxLen) (hb : IsB b) (hlb : b.length ≤ maxLen) {w : X.O} (hw : OpOk w) : Told P T law17_PlainRefused [] [lB a, lB b, X.encO w] (.bool true) [] := by
  have hua : (a.map u8).length = a.length := by simp
  have hub : (b.map u8).length = b.length := by simp
  have oka : (⟨a, 0⟩ : Pk).Ok := ⟨ha, Nat.zero_le _, hla⟩
  have okb : (⟨b, 0⟩ : Pk).Ok := ⟨hb, Nat.zero_le _, hlb⟩
  have t1 := raw_told ⟨a, 0⟩ oka false
  generalize rawF ⟨a, 0⟩ false = R at *
  obtain ⟨r, pa⟩ := R
  have n1 := plainNew_told r
  have hok := newM_ok (r := r)
  generalize newM r = M at *
  obtain ⟨m0, e⟩ := M
  refine told_of_ev (fn := law17_PlainRefused_fn) tabOk mixed (by kernel_rfl) (by kernel_rfl) (by kernel_rfl) (by kernel_rfl) ?_
  (refine gw ?_; refine Choice.mk ⟨false, Choice.mk ⟨false, _, _, begun17_told, ?_⟩⟩)
  by_cases h6 : a.length > 6
  · (refine gw ?_; refine IfB.tt (by rw [hua]; simp; omega) ?_)
    (refine gw ?_; exact RetN.mk ⟨[], rfl, rfl, rfl⟩)
  (refine gw ?_; refine IfB.ff (by rw [hua]; simp; omega) ?_)
  by_cases h7 : b.length > 150
  · (refine gw ?_; refine IfB.tt (by rw [hub]; simp; omega) ?_)
    (refine gw ?_; exact RetN.mk ⟨[], rfl, rfl, rfl⟩)
  (refine gw ?_; refine IfB.ff (by rw [hub]; simp; omega) ?_)
  (refine gw ?_; refine Choice.mk ⟨false, Choice.mk ⟨false, _, _, made_told a, ?_⟩⟩)
  (refine gw ?_; refine Choice.mk ⟨true, Choice.mk ⟨false, _, _, t1, ?_⟩⟩)
  (refine gw ?_; refine Choice.mk ⟨false, Choice.mk ⟨false, _, _, n1, ?_⟩⟩)
  by_cases he : e = 0
  · subst he
    have hm0 : MoOk m0 := hok rfl
    (refine gw ?_; refine Choice.mk ⟨false, Choice.mk ⟨false, _, _, made_told b, ?_⟩⟩)
    (refine gw ?_; refine LoopN.mk ⟨[5,7,9,10], fun vs L => ∃ (k : Nat) (q : Pk) (m : Mo), vs = [.ptr 0 0 0, .ptr 1 0 0, .ptr 2 0 0, i64 k] ∧ L = [.var (X.encO w), .var (eM m), pkB q] ∧ k ≤ 40 ∧ q.Ok ∧ MoOk m, fun vs L => match vs with | [_, _, _, .int _ i] => 40 - i.toNat | _ => 0, [], [0,2,6], rfl, ⟨0, ⟨b, 0⟩, m0, rfl, rfl, by omega, okb, hm0⟩, ?_⟩)
    rintro vs L ⟨k, q, m, rfl, rfl, hk, okq, hm⟩
    by_cases hk4 : k < 40
    · obtain ⟨t1, t2, t3⟩ := opO_spec hm okq
      have ht3 := t3.ok hm.c
      generalize opO m q = o at *
      generalize opP m q = q' at *
      (refine gw ?_; refine IfB.tt (by simp; omega) ?_)
      (refine gw ?_; refine Choice.mk ⟨true, Choice.mk ⟨false, _, _, over_told' q, ?_⟩⟩)
      cases hov : q.over with
      | true => (refine gw ?_; exact RetN.mk ⟨[], rfl, rfl, rfl⟩)
      | false =>
        have em : ((k : Nat) : Int).tmod 5 = ((k % 5 : Nat) : Int) := by rw [Int.tmod_eq_emod_of_nonneg (by omega)]; omega
        have hbm := hm.bd
        have s3 := same17R hbm.1 hbm.2.1 hbm.2.2.2
        (refine gw ?_; refine Choice.mk ⟨true, Choice.mk ⟨false, _, _, t1, ?_⟩⟩)
        (refine gw ?_)
        rw [em]
        by_cases h9 : k % 5 = 4
        · have d1 := plainDo_told hm (hH1 hm) hw
          have hd := doF_ok hm hw
          have hx := doF_err (m := m) (o := w)
          generalize doF m w = D at *
          obtain ⟨m', an'⟩ := D
          have hm' : MoOk m' := hd.1
          (refine gw ?_; refine IfB.tt (by simp [h9]) ?_)
          (refine gw ?_; refine Choice.mk ⟨false, Choice.mk ⟨false, _, _, d1, ?_⟩⟩)
          by_cases h0 : an'.e = 0
          · (refine gw ?_; refine IfB.ff (by simp [h0]) ?_)
            (refine gw ?_; refine ⟨[], [0,1,2], rfl, ⟨k + 1, q', m', rfl, rfl, hk4, t2, hm'⟩, (by omega : 40 - ((k : Int) + 1).toNat < 40 - (k : Int).toNat)⟩)
          · obtain ⟨g1, g2⟩ := hx h0
            obtain rfl : m' = m := g1
            simp only at g2
            generalize an'.e = z at *
            subst g2
            (refine gw ?_; refine IfB.tt (by simpa [anE] using h0) ?_)
            (refine gw ?_; refine Choice.mk ⟨false, Choice.mk ⟨true, _, _, s3, ?_⟩⟩)
            (refine gw ?_; refine IfB.ff (by simp [anE]) ?_)
            (refine gw ?_; refine ⟨[], [0,1,2], rfl, ⟨k + 1, q', m', rfl, rfl, hk4, t2, hm'⟩, (by omega : 40 - ((k : Int) + 1).toNat < 40 - (k : Int).toNat)⟩)
        · have d1 := plainDo_told hm (hH1 hm) ht3
          have hd := doF_ok hm ht3
          have hx := doF_err (m := m) (o := o)
          generalize doF m o = D at *
          obtain ⟨m', an'⟩ := D
          have hm' : MoOk m' := hd.1
          (refine gw ?_; refine IfB.ff (by simp; omega) ?_)
          (refine gw ?_; refine Choice.mk ⟨false, Choice.mk ⟨false, _, _, d1, ?_⟩⟩)
          by_cases h0 : an'.e = 0
          · (refine gw ?_; refine IfB.ff (by simp [h0]) ?_)
            (refine gw ?_; refine ⟨[], [0,1,2], rfl, ⟨k + 1, q', m', rfl, rfl, hk4, t2, hm'⟩, (by omega : 40 - ((k : Int) + 1).toNat < 40 - (k : Int).toNat)⟩)
          · obtain ⟨g1, g2⟩ := hx h0
            obtain rfl : m' = m := g1
            simp only at g2
            generalize an'.e = z at *
            subst g2
            (refine gw ?_; refine IfB.tt (by simpa [anE] using h0) ?_)
            (refine gw ?_; refine Choice.mk ⟨false, Choice.mk ⟨true, _, _, s3, ?_⟩⟩)
            (refine gw ?_; refine IfB.ff (by simp [anE]) ?_)
            (refine gw ?_; refine ⟨[], [0,1,2], rfl, ⟨k + 1, q', m', rfl, rfl, hk4, t2, hm'⟩, (by omega : 40 - ((k : Int) + 1).toNat < 40 - (k : Int).toNat)⟩)
    · (refine gw ?_; refine IfB.ff (by simp; omega) ?_)
      (refine gw ?_; exact RetN.mk ⟨[], rfl, rfl, rfl⟩)
  · (refine gw ?_; refine IfB.tt (by simpa using he) ?_)
    (refine gw ?_; exact RetN.mk ⟨[], rfl, rfl, rfl⟩)
theorem plainRefused {x0 x1 x2 : AV} (h0 : Shp T 8 ts_uint8 x0) (h1 : Shp T 8 ts_uint8 x1) (h2 : Shp T 8 t_api_Op x2) : Told P T law17_PlainRefused [] [x0, x1, x2] (.bool true) [] := by
  obtain ⟨a, rfl, ha, hla⟩ := shp_bytes h0
  obtain ⟨b, rfl, hb, hlb⟩ := shp_bytes h1
  obtain ⟨w, rfl, hw⟩ := shpOp h2
  exact plainRefused_told ha hla hb hlb hw
end Go.Ev.W
namespace Go.Ev.W
open Go.Ev Go.Ev.N

theorem allF_ok : ∀ {os : List X.O} {m : Mo}, MoOk m → (∀ o ∈ os, OpOk o) → MoOk (allF m os).1 ∧ (allF m os).1.c = m.c ∧ (allF m os).2.length = os.length
  | [], m, hm, _ => ⟨hm, rfl, rfl⟩
  | o :: os, m, hm, h => by
    have hd := doF_ok hm (h o (by simp))
    have ih := allF_ok (os := os) hd.1 fun x hx => h x (by simp [hx])
    refine ⟨ih.1, ih.2.1.trans hd.2, ?_⟩
    show ((doF m o).2 :: (allF (doF m o).1 os).2).length = _
    rw [List.length_cons, ih.2.2]; rfl
theorem allF_snoc : ∀ (os : List X.O) (m : Mo) (o : X.O), allF m (os ++ [o]) = ((doF (allF m os).1 o).1, (allF m os).2 ++ [(doF (allF m os).1 o).2])
  | [], m, o => rfl
  | x :: os, m, o => by
    show ((allF (doF m x).1 (os ++ [o])).1, (doF m x).2 :: (allF (doF m x).1 (os ++ [o])).2) = _
    rw [allF_snoc os]; rfl
set_option maxHeartbeats 4000000 in
theorem all17_told {m : Mo} (hm : MoOk m) {os : List X.O} (ho : ∀ o ∈ os, OpOk o) (hl : os.length ≤ 100000) : Told P T ref17_All [] [eM m, .lst t_api_Op (os.map X.encO)] (.tup [eM (allF m os).1, .lst t_api_Ans ((allF m os).2.map eA)]) [] := by
  have hmo : (os.map X.encO).length = os.length := by simp
  refine told_of_ev (fn := ref17_All_fn) tabOk mixed (by kernel_rfl) (by kernel_rfl) (by kernel_rfl) (by kernel_rfl) ?_
  (refine gw ?_; refine LoopN.mk ⟨[1,2,4,6,7], fun vs L => ∃ k : Nat, vs = [.lst t_api_Op (os.map X.encO), .ptr 0 0 0, .ptr 1 0 0, .ref 2, i64 k] ∧ L = [.var (eM (allF m (os.take k)).1), .var moU, .row t_api_Ans ((allF m (os.take k)).2.map eA)] ∧ k ≤ os.length, fun vs L => match vs with | [_, _, _, _, .int _ i] => os.length - i.toNat | _ => 0, [], [0,1,6], rfl, ⟨0, rfl, rfl, by omega⟩, ?_⟩)
  rintro vs L ⟨k, rfl, rfl, hk⟩
  (refine gw ?_; first | refine IfB.dec (fun g1 => ?_) (fun g1 => ?_) | refine IfB.eq (fun g1 => ?_) (fun g1 => ?_) | refine IfB.ne (fun g1 => ?_) (fun g1 => ?_) | refine IfB.mk (fun g1 => ?_) (fun g1 => ?_))
  · have hkl : k < os.length := by omega
    have hso := allF_snoc (os.take k) m os[k]
    rw [← List.take_succ_eq_append_getElem hkl] at hso
    have hok := allF_ok (os := os.take k) hm fun o h => ho o (List.mem_of_mem_take h)
    have hlk : ((allF m (os.take k)).2.map eA).length = k := by rw [List.length_map, hok.2.2, List.length_take]; omega
    have d1 := do17_told hok.1 (ho _ (List.getElem_mem hkl))
    have hma : ((allF m (os.take k)).2 ++ [(doF (allF m (os.take k)).1 os[k]).2]).map eA = (allF m (os.take k)).2.map eA ++ [eA (doF (allF m (os.take k)).1 os[k]).2] := by simp
    have hlk2 : (allF m (os.take k)).2.length ≤ 100000 := by rw [List.length_map] at hlk; omega
    (refine gw ?_; refine idx_map (hkl) ?_)
    (refine gw ?_; refine Choice.mk ⟨false, Choice.mk ⟨false, _, _, d1, ?_⟩⟩)
    (refine gw ?_; refine Room.mk (by first | omega | (simp; omega) | (simp <;> fail)) ?_)
    (refine gw ?_; refine ⟨[], [0,1,9], rfl, ⟨k + 1, rfl, by rw [hso]; simp only []; rw [hma]; rfl, hkl⟩, (by omega : os.length - ((k : Int) + 1).toNat < os.length - (k : Int).toNat)⟩)
  · have e : k = os.length := by omega
    subst e
    rw [List.take_length]
    (refine gw ?_; exact RetN.fz ⟨[true, true], [], rfl, rfl, rfl⟩)

theorem prodF_one {c : Cf} {s : Int} : prodF c 1 s = prodF c s 1 := by
  unfold prodF
  rw [Int.one_mul, Int.mul_one]
  have : ((1 : Int) < 0 ∨ s < 0) ↔ (s < 0 ∨ (1 : Int) < 0) := by omega
  by_cases h : s < 0
  · rw [if_pos (.inr h), if_pos (.inl h)]
  · rw [if_neg (show ¬ ((1 : Int) < 0 ∨ s < 0) by omega), if_neg (show ¬ (s < 0 ∨ (1 : Int) < 0) by omega)]
theorem manyF_one {c : Cf} (hN1 : 1 ≤ c.N) {l s : Int} (hs : 0 ≤ s) : manyF c l 1 s = newF c l s 1 := by
  have hp : prodF c 1 s = if s ≤ c.N then (s.toNat, 0) else (0, 4) := by
    unfold prodF
    rw [Int.one_mul, if_neg (by omega)]
  unfold manyF
  rw [hp]
  by_cases hN : s ≤ c.N
  · rw [if_pos hN]
    simp only [ne_eq, not_true_eq_false, if_false]
    rw [Int.toNat_of_nonneg hs]
  · rw [if_neg hN]
    have hl : (logF 1).2 = true := by decide +kernel
    have hch : chargeF c s 1 = (0, 4) := by
      unfold chargeF
      rw [hl, if_neg (by simp; omega), if_pos (by omega)]
    unfold newF
    rw [hch]; rfl
theorem giveF_eq {m : Mo} {o : X.O} {ce : Nat × Nat} {q : Int} (h1 : (if o.k = 2 then manyF m.c m.live o.n o.s else newF m.c m.live o.s (if o.k = 3 then o.a else 1)) = ce) (h2 : (if o.k = 2 then o.n * o.s else o.s) = q) :
    giveF m o = if ce.2 ≠ 0 then (m, anE ce.2) else if (placeF m m.bs ce.1 q).2.2 ≠ 0 then (m, anE (placeF m m.bs ce.1 q).2.2) else (if o.k = 2 then { (placeF m m.bs ce.1 q).1 with mem := zeroF (placeF m m.bs ce.1 q).1.mem (placeF m m.bs ce.1 q).2.1.toNat ce.1 } else (placeF m m.bs ce.1 q).1, { an0 with at' := (placeF m m.bs ce.1 q).2.1 }) := by
  unfold giveF
  simp only
  rw [h1, h2]
theorem doF_kinds {m : Mo} (hN1 : 1 ≤ m.c.N) {s : Int} : doF m ⟨3, 0, s, 1, 0, 0⟩ = doF m ⟨1, 0, s, 0, 0, 0⟩ ∧ doF m ⟨2, 0, 1, 0, s, 0⟩ = doF m ⟨2, 0, s, 0, 1, 0⟩ ∧
    (0 ≤ s → (doF m ⟨2, 0, s, 0, 1, 0⟩).2 = (doF m ⟨1, 0, s, 0, 0, 0⟩).2 ∧ (doF m ⟨2, 0, s, 0, 1, 0⟩).1.bs = (doF m ⟨1, 0, s, 0, 0, 0⟩).1.bs) := by
  have e1 : ∀ o : X.O, o.k = 1 ∨ o.k = 3 ∨ o.k = 2 → doF m o = giveF m o := fun o h => by unfold doF; rw [if_pos h]
  have n23 : ¬ ((2 : Int) = 3) := by decide
  have n12 : ¬ ((1 : Int) = 2) := by decide
  have n32 : ¬ ((3 : Int) = 2) := by decide
  have n13 : ¬ ((1 : Int) = 3) := by decide
  rw [e1 _ (.inr (.inl rfl)), e1 _ (.inl rfl), e1 _ (.inr (.inr rfl)), e1 _ (.inr (.inr rfl))]
  have g1 := giveF_eq (m := m) (o := ⟨1, 0, s, 0, 0, 0⟩) (ce := newF m.c m.live s 1) (q := s) (by simp only [if_neg n12, if_neg n13]) (by simp only [if_neg n12])
  have g3 := giveF_eq (m := m) (o := ⟨3, 0, s, 1, 0, 0⟩) (ce := newF m.c m.live s 1) (q := s) (by simp only [if_neg n32, if_true]) (by simp only [if_neg n32])
  have g2 := giveF_eq (m := m) (o := ⟨2, 0, s, 0, 1, 0⟩) (ce := manyF m.c m.live 1 s) (q := s) (by simp only [if_true]) (by simp only [if_true, Int.one_mul])
  have g4 := giveF_eq (m := m) (o := ⟨2, 0, 1, 0, s, 0⟩) (ce := manyF m.c m.live 1 s) (q := s) (by simp only [if_true]; unfold manyF; rw [prodF_one]) (by simp only [if_true, Int.mul_one])
  simp only [if_neg n12] at g1
  simp only [if_neg n32] at g3
  simp only [if_true] at g2 g4
  refine ⟨by rw [g1, g3], by rw [g2, g4], fun hs => ?_⟩
  rw [manyF_one hN1 hs] at g2
  rw [g1, g2]
  split
  · exact ⟨rfl, rfl⟩
  · split
    · exact ⟨rfl, rfl⟩
    · exact ⟨rfl, rfl⟩
theorem doF_asks {m : Mo} {o : X.O} (h : o.k = 6 ∨ o.k = 7 ∨ o.k = 10) : (doF m o).1 = m := by
  unfold doF
  rw [if_neg (by omega), if_neg (by omega)]
  split
  · rfl
  · rw [if_pos (by omega)]
    cases findB m.bs o.p with
    | none => rfl
    | some i =>
      simp only
      unfold ofB
      simp only
      rw [if_neg (by omega), if_neg (by omega)]
      split
      · rfl
      · split
        · rfl
        · rw [if_pos (by omega)]
end Go.Ev.W
namespace Go.Ev.W
open Go.Ev Go.Ev.N

theorem OpG.of_mem {c : Cf} (hc : c.Ok) {o : X.O} (h : OpG c o) : OpOk o := h.ok hc
theorem opN {k p n : Nat} (h1 : k ≤ 1000000) (h2 : p ≤ 1000000) (h3 : n ≤ 1000000) : OpOk ⟨k, p, 0, 0, n, 0⟩ := ⟨by simp only; omega, by simp only; omega, by simp, by simp, by simp only; omega, by simp⟩
set_option maxRecDepth 20000 in
set_option maxHeartbeats 8000000 in
theorem plainKinds_told {a b : List Nat} (ha : IsB a) (hla : a.length ≤ maxLen) (hb : IsB b) (hlb : b.length ≤ maxLen) {s p n : Nat} (hs : s < 256) (hp : p < 256) (hn : n < 256) : Told P T law17_PlainKinds [] [lB a, lB b, u8 s, u8 p, u8 n] (.bool true) [] := by
  have hua : (a.map u8).length = a.length := by simp
  have hub : (b.map u8).length = b.length := by simp
  have oka : (⟨a, 0⟩ : Pk).Ok := ⟨ha, Nat.zero_le _, hla⟩
  have okb : (⟨b, 0⟩ : Pk).Ok := ⟨hb, Nat.zero_le _, hlb⟩
  have t1 := raw_told ⟨a, 0⟩ oka false
  generalize rawF ⟨a, 0⟩ false = R at *
  obtain ⟨r, pa⟩ := R
  have n2 := new17_told r
  have hok := newM_ok (r := r)
  have t2 := ops_told r (n := 30) (by omega) okb
  obtain ⟨_, hlo, hop⟩ := opsA_ok (r := r) 30 okb
  generalize newM r = M at *
  obtain ⟨m0, e⟩ := M
  generalize opsA r 30 ⟨b, 0⟩ = S at *
  obtain ⟨os, pb⟩ := S
  simp only at hlo hop
  have hoo : ∀ o ∈ os, OpOk o := fun o h => by obtain ⟨c, hc, ho⟩ := hop o h; exact ho.ok hc
  refine told_of_ev (fn := law17_PlainKinds_fn) tabOk mixed (by kernel_rfl) (by kernel_rfl) (by kernel_rfl) (by kernel_rfl) ?_
  (refine gw ?_; refine Choice.mk ⟨false, Choice.mk ⟨false, _, _, begun17_told, ?_⟩⟩)
  by_cases h6 : a.length > 6
  · (refine gw ?_; refine IfB.tt (by rw [hua]; simp; omega) ?_)
    (refine gw ?_; exact RetN.mk ⟨[], rfl, rfl, rfl⟩)
  (refine gw ?_; refine IfB.ff (by rw [hua]; simp; omega) ?_)
  by_cases h7 : b.length > 100
  · (refine gw ?_; refine IfB.tt (by rw [hub]; simp; omega) ?_)
    (refine gw ?_; exact RetN.mk ⟨[], rfl, rfl, rfl⟩)
  (refine gw ?_; refine IfB.ff (by rw [hub]; simp; omega) ?_)
  (refine gw ?_; refine Choice.mk ⟨false, Choice.mk ⟨false, _, _, made_told a, ?_⟩⟩)
  (refine gw ?_; refine Choice.mk ⟨true, Choice.mk ⟨false, _, _, t1, ?_⟩⟩)
  (refine gw ?_; refine Choice.mk ⟨false, Choice.mk ⟨false, _, _, n2, ?_⟩⟩)
  by_cases he : e = 0
  · subst he
    have hm0 : MoOk m0 := hok rfl
    have t3 := all17_told hm0 hoo (by omega)
    have hal := allF_ok hm0 hoo
    generalize allF m0 os = A at *
    obtain ⟨m, ans⟩ := A
    simp only at t3 hal
    have hm : MoOk m := hal.1
    have t2 : Told P T mk_Picks_Ops [pkB ⟨b, 0⟩] [.ptr 0 0 0, eR r, i64 30] (.lst t_api_Op (os.map X.encO)) [pkB pb] := t2
    have hN := hm.c.nM
    have hM := hm.c.mH
    (refine gw ?_; refine Choice.mk ⟨false, Choice.mk ⟨false, _, _, made_told b, ?_⟩⟩)
    (refine gw ?_; refine Choice.mk ⟨true, Choice.mk ⟨false, _, _, t2, ?_⟩⟩)
    (refine gw ?_; refine Choice.mk ⟨false, Choice.mk ⟨false, _, _, t3, ?_⟩⟩)
    (refine gw ?_)
    obtain ⟨z, hz, hz1, hz2⟩ : ∃ z : Nat, ((s : Nat) : Int).tmod ((m.c.N : Int) + 2) = ((z : Nat) : Int) ∧ z ≤ 65536 ∧ 0 ≤ z := ⟨s % (m.c.N + 2), by rw [Int.tmod_eq_emod_of_nonneg (by omega), Int.natCast_emod]; rfl, by have := Nat.mod_le s (m.c.N + 2); omega, by omega⟩
    rw [hz]
    have hN1 : 1 ≤ m.c.N := by
      rw [hm.c.n]; exact Nat.mul_pos hm.c.gpos (Nat.two_pow_pos _)
    have hk := doF_kinds (m := m) hN1 (s := ((z : Nat) : Int))
    obtain ⟨k1, k2, k3⟩ := hk
    obtain ⟨k4, k5⟩ := k3 (by omega)
    have okz : ∀ k n' : Int, 0 ≤ k → k ≤ 10 → (n' = 0 ∨ n' = 1) → OpOk ⟨k, 0, z, n', 0, 0⟩ ∧ OpOk ⟨k, 0, z, 0, n', 0⟩ ∧ OpOk ⟨k, 0, n', 0, z, 0⟩ := fun k n' h1 h2 h3 =>
      ⟨⟨by simp only; omega, by simp only; omega, by simp only; omega, by simp only; omega, by simp only; omega, by simp⟩, ⟨by simp only; omega, by simp only; omega, by simp only; omega, by simp only; omega, by simp only; omega, by simp⟩, ⟨by simp only; omega, by simp only; omega, by simp only; omega, by simp only; omega, by simp only; omega, by simp⟩⟩
    have o1 := (okz 1 0 (by omega) (by omega) (.inl rfl)).1
    have o2 := (okz 3 1 (by omega) (by omega) (.inr rfl)).1
    have o3 := (okz 2 1 (by omega) (by omega) (.inr rfl)).2.1
    have o4 := (okz 2 1 (by omega) (by omega) (.inr rfl)).2.2
    have d1 := plainDo_told hm (hH1 hm) o1
    have d2 := plainDo_told hm (hH1 hm) o2
    have d3 := plainDo_told hm (hH1 hm) o3
    have d4 := plainDo_told hm (hH1 hm) o4
    have m1 := (doF_ok hm o1).1.bd
    have m3 := (doF_ok hm o3).1.bd
    rw [k1] at d2
    rw [k2] at d4
    have s1 := same17R m1.1 m1.2.1 m1.2.2.2
    have s2 := same17R m3.1 m3.2.1 m3.2.2.2
    have s3 := sameBlocksR _ m1.1
    have hbm := hm.bd
    have s4 := same17R hbm.1 hbm.2.1 hbm.2.2.2
    generalize doF m ⟨1, 0, z, 0, 0, 0⟩ = D1 at *
    generalize doF m ⟨2, 0, z, 0, 1, 0⟩ = D2 at *
    obtain ⟨x1, a1⟩ := D1
    obtain ⟨x2, a2⟩ := D2
    simp only at k4 k5
    subst k4
    have s3 : Told P T ref17_SameBlocks [] [lK x1.bs, lK x2.bs] (.bool true) [] := by rw [k5]; exact s3
    (refine gw ?_; refine Choice.mk ⟨false, Choice.mk ⟨false, _, _, d1, ?_⟩⟩)
    (refine gw ?_; refine Choice.mk ⟨false, Choice.mk ⟨false, _, _, d2, ?_⟩⟩)
    (refine gw ?_; refine Choice.mk ⟨false, Choice.mk ⟨false, _, _, d3, ?_⟩⟩)
    (refine gw ?_; refine Choice.mk ⟨false, Choice.mk ⟨false, _, _, d4, ?_⟩⟩)
    (refine gw ?_; refine Choice.mk ⟨false, Choice.mk ⟨true, _, _, s1, ?_⟩⟩)
    (refine gw ?_; refine Choice.mk ⟨false, Choice.mk ⟨true, _, _, s2, ?_⟩⟩)
    (refine gw ?_; refine Choice.mk ⟨false, Choice.mk ⟨true, _, _, s3, ?_⟩⟩)
    obtain ⟨y, hy, hy1⟩ : ∃ y : Nat, ((n : Nat) : Int).tmod 9 = ((y : Nat) : Int) ∧ y ≤ 8 := ⟨n % 9, by rw [Int.tmod_eq_emod_of_nonneg (by omega)]; omega, by omega⟩
    (refine gw ?_)
    rw [hy]
    (refine gw ?_; refine LoopN.mk ⟨[12,23,24], fun vs L => ∃ k : Nat, vs = [.ptr 0 0 0, .lst t_api_Op (([⟨6, p, 0, 0, 0, 0⟩, ⟨7, p, 0, 0, y, 0⟩, ⟨10, 0, 0, 0, 0, 0⟩] : List X.O).map X.encO), i64 k] ∧ L = [.var (eM m)] ∧ k ≤ 3, fun vs L => match vs with | [_, _, .int _ i] => 3 - i.toNat | _ => 0, [23], [2], rfl, ⟨0, rfl, rfl, by omega⟩, ?_⟩)
    rintro vs L ⟨k, rfl, rfl, hk⟩
    by_cases hk3 : k < 3
    · have hkl : k < ([⟨6, p, 0, 0, 0, 0⟩, ⟨7, p, 0, 0, y, 0⟩, ⟨10, 0, 0, 0, 0, 0⟩] : List X.O).length := hk3
      have hox : OpOk (([⟨6, p, 0, 0, 0, 0⟩, ⟨7, p, 0, 0, y, 0⟩, ⟨10, 0, 0, 0, 0, 0⟩] : List X.O)[k]) ∧ (([⟨6, p, 0, 0, 0, 0⟩, ⟨7, p, 0, 0, y, 0⟩, ⟨10, 0, 0, 0, 0, 0⟩] : List X.O)[k].k = 6 ∨ ([⟨6, p, 0, 0, 0, 0⟩, ⟨7, p, 0, 0, y, 0⟩, ⟨10, 0, 0, 0, 0, 0⟩] : List X.O)[k].k = 7 ∨ ([⟨6, p, 0, 0, 0, 0⟩, ⟨7, p, 0, 0, y, 0⟩, ⟨10, 0, 0, 0, 0, 0⟩] : List X.O)[k].k = 10) := by
        rcases (by omega : k = 0 ∨ k = 1 ∨ k = 2) with h | h | h <;> subst h
        · exact ⟨opN (k := 6) (p := p) (n := 0) (by omega) (by omega) (by omega), .inl rfl⟩
        · exact ⟨opN (k := 7) (p := p) (n := y) (by omega) (by omega) (by omega), .inr (.inl rfl)⟩
        · exact ⟨opN (k := 10) (p := 0) (n := 0) (by omega) (by omega) (by omega), .inr (.inr rfl)⟩
      have e := doF_asks (m := m) hox.2
      have d := plainDo_told hm (hH1 hm) hox.1
      rw [e] at d
      (refine gw ?_; refine IfB.tt (by simp; omega) ?_)
      (refine gw ?_; refine idx_map (hkl) ?_)
      (refine gw ?_; refine Choice.mk ⟨false, Choice.mk ⟨false, _, _, d, ?_⟩⟩)
      (refine gw ?_; refine Choice.mk ⟨false, Choice.mk ⟨true, _, _, s4, ?_⟩⟩)
      (refine gw ?_; refine ⟨[], [0], rfl, ⟨k + 1, rfl, rfl, hk3⟩, (by omega : 3 - ((k : Int) + 1).toNat < 3 - (k : Int).toNat)⟩)
    · (refine gw ?_; refine IfB.ff (by simp; omega) ?_)
      (refine gw ?_; exact RetN.mk ⟨[], rfl, rfl, rfl⟩)
  · (refine gw ?_; refine IfB.tt (by simpa using he) ?_)
    (refine gw ?_; exact RetN.mk ⟨[], rfl, rfl, rfl⟩)
theorem plainKinds {x0 x1 x2 x3 x4 : AV} (h0 : Shp T 8 ts_uint8 x0) (h1 : Shp T 8 ts_uint8 x1) (h2 : Shp T 8 t_uint8 x2) (h3 : Shp T 8 t_uint8 x3) (h4 : Shp T 8 t_uint8 x4) : Told P T law17_PlainKinds [] [x0, x1, x2, x3, x4] (.bool true) [] := by
  obtain ⟨a, rfl, ha, hla⟩ := shp_bytes h0
  obtain ⟨b, rfl, hb, hlb⟩ := shp_bytes h1
  obtain ⟨s, rfl, hs⟩ := shp_u8 (by kernel_rfl) h2
  obtain ⟨p, rfl, hp⟩ := shp_u8 (by kernel_rfl) h3
  obtain ⟨n, rfl, hn⟩ := shp_u8 (by kernel_rfl) h4
  exact plainKinds_told ha hla hb hlb hs hp hn
end Go.Ev.W
namespace Go.Ev.W
open Go.Ev Go.Ev.N

def rF : Rw := ⟨1, 4, 8, 4, 2, 0⟩
def osF : List X.O := [⟨1, 0, 3, 0, 0, 0⟩, ⟨3, 0, 1, 2, 0, 0⟩, ⟨1, 0, 4, 0, 0, 0⟩, ⟨1, 0, 1, 0, 0, 0⟩, ⟨6, 4, 0, 0, 0, 0⟩, ⟨5, 0, 0, 0, 0, 0⟩, ⟨1, 0, 4, 0, 0, 0⟩, ⟨5, 4, 0, 0, 0, 0⟩, ⟨4, 6, 4, 0, 0, 0⟩, ⟨4, 0, 5, 0, 0, 0⟩, ⟨4, 1, 9, 0, 0, 0⟩, ⟨7, 0, 0, 0, 4, 0⟩, ⟨7, 0, 0, 0, -1, 0⟩, ⟨7, 3, 0, 0, 0, 0⟩, ⟨9, 0, 0, 0, 0, 0⟩, ⟨10, 0, 0, 0, 0, 0⟩, ⟨11, 0, 0, 0, 0, 0⟩, ⟨0, 0, 0, 0, 0, 0⟩]
def mF0 : Mo := ⟨⟨1, 4, 8, 2, 4, 2, 16, 0⟩, [], 0, 0, 0, [false, false, false, false], List.replicate 16 0⟩
theorem nF : newM rF = (mF0, 0) := by decide +kernel
def stF (k : Nat) : Mo := (allF mF0 (osF.take k)).1
def anF (k : Nat) : An := (doF (stF k) (osF.getD k ⟨0, 0, 0, 0, 0, 0⟩)).2
theorem mF0_ok : MoOk mF0 := by
  have := newM_ok (r := rF) (by rw [nF])
  rw [nF] at this; exact this
theorem osF_ok : ∀ o ∈ osF, OpOk o := by
  intro o ho
  have : o.k ∈ osF.map (·.k) ∧ o.p ∈ osF.map (·.p) ∧ o.s ∈ osF.map (·.s) ∧ o.a ∈ osF.map (·.a) ∧ o.n ∈ osF.map (·.n) ∧ o.b ∈ osF.map (·.b) := ⟨List.mem_map_of_mem ho, List.mem_map_of_mem ho, List.mem_map_of_mem ho, List.mem_map_of_mem ho, List.mem_map_of_mem ho, List.mem_map_of_mem ho⟩
  have hk : ∀ x ∈ osF.map (·.k), -1 ≤ x ∧ x ≤ 16 := by decide
  have hp : ∀ x ∈ osF.map (·.p), -1 ≤ x ∧ x ≤ 16 := by decide
  have hs : ∀ x ∈ osF.map (·.s), -1 ≤ x ∧ x ≤ 16 := by decide
  have ha : ∀ x ∈ osF.map (·.a), -1 ≤ x ∧ x ≤ 16 := by decide
  have hn : ∀ x ∈ osF.map (·.n), -1 ≤ x ∧ x ≤ 16 := by decide
  have hb : ∀ x ∈ osF.map (·.b), 0 ≤ x ∧ x ≤ 16 := by decide
  refine ⟨?_, ?_, ?_, ?_, ?_, ?_⟩
  · have := hk o.k (List.mem_map_of_mem ho); omega
  · have := hp o.p (List.mem_map_of_mem ho); omega
  · have := hs o.s (List.mem_map_of_mem ho); omega
  · have := ha o.a (List.mem_map_of_mem ho); omega
  · have := hn o.n (List.mem_map_of_mem ho); omega
  · have := hb o.b (List.mem_map_of_mem ho); omega
theorem stF_ok (k : Nat) : MoOk (stF k) := (allF_ok mF0_ok fun o h => osF_ok o (List.mem_of_mem_take h)).1
theorem stF_succ {k : Nat} (h : k < osF.length) : stF (k + 1) = (doF (stF k) osF[k]).1 := by
  unfold stF
  rw [List.take_succ_eq_append_getElem h, allF_snoc]
theorem anFs : (List.range 18).map anF = [an0, { an0 with at' := 4 }, anE 5, { an0 with at' := 6 }, { an0 with n := 2 }, an0, an0, an0, { an0 with at' := 4 }, anE 4, anE 8, anE 9, anE 9, anE 8, an0, { an0 with live := 8, peak := 8, mark := 8, pg := 2 }, anE 2, anE 2] := by decide +kernel
theorem stF_end : (stF 18).bs.length = 2 := by decide +kernel
def esF : List Nat := [0, 0, 5, 0, 0, 0, 0, 0, 6, 4, 8, 9, 9, 8, 0, 0, 2, 2]
def atF : List Nat := [0, 4, 0, 6, 0, 0, 0, 0, 0, 0, 0, 0, 0, 0, 0, 0, 0, 0]
set_option maxRecDepth 20000 in
set_option maxHeartbeats 16000000 in
theorem plainForms : Told P T law17_PlainForms [] [] (.bool true) [] := by
  have c1 := plainNew_told rF
  rw [nF] at c1
  have hm8 : (osF.map X.encO).length = 18 := rfl
  refine told_of_ev (fn := law17_PlainForms_fn) tabOk mixed (by kernel_rfl) (by kernel_rfl) (by kernel_rfl) (by kernel_rfl) ?_
  (refine gw ?_; refine Choice.mk ⟨false, Choice.mk ⟨false, _, _, begun17_told, ?_⟩⟩)
  (refine gw ?_; refine Choice.mk ⟨false, Choice.mk ⟨false, _, _, c1, ?_⟩⟩)
  (refine gw ?_; refine LoopN.mk ⟨[1,3,4,5,6], fun vs L => ∃ k : Nat, vs = [.ptr 0 0 0, .lst t_api_Op (osF.map X.encO), .lst t_api_Errno (esF.map fun n => i64 (n : Nat)), .lst t_int (atF.map fun n => i64 (n : Nat)), i64 k] ∧ L = [.var (eM (stF k))] ∧ k ≤ 18, fun vs L => match vs with | [_, _, _, _, .int _ i] => 18 - i.toNat | _ => 0, [3,4,5], [0], rfl, ⟨0, rfl, rfl, by omega⟩, ?_⟩)
  rintro vs L ⟨k, rfl, rfl, hk⟩
  by_cases hk8 : k < 18
  · have hko : k < osF.length := hk8
    have hke : k < esF.length := hk8
    have hka : k < atF.length := hk8
    have d := plainDo_told (stF_ok k) (hH1 (stF_ok k)) (osF_ok _ (List.getElem_mem hko))
    have hg : osF.getD k ⟨0, 0, 0, 0, 0, 0⟩ = osF[k]'hko := by rw [List.getD_eq_getElem?_getD, List.getElem?_eq_getElem hko]; rfl
    have ha : (doF (stF k) (osF[k]'hko)).2 = anF k := by unfold anF; rw [hg]
    rw [← stF_succ hko, ha] at d
    have hx : anF k = ((List.range 18).map anF)[k]'(by simpa using hk8) := by simp
    (refine gw ?_; refine IfB.tt (by rw [hm8]; simp; omega) ?_)
    (refine gw ?_; refine idx_map (hko) ?_)
    (refine gw ?_; refine Choice.mk ⟨false, Choice.mk ⟨false, _, _, d, ?_⟩⟩)
    rcases (by omega : k = 0 ∨ k = 1 ∨ k = 2 ∨ k = 3 ∨ k = 4 ∨ k = 5 ∨ k = 6 ∨ k = 7 ∨ k = 8 ∨ k = 9 ∨ k = 10 ∨ k = 11 ∨ k = 12 ∨ k = 13 ∨ k = 14 ∨ k = 15 ∨ k = 16 ∨ k = 17) with h | h | h | h | h | h | h | h | h | h | h | h | h | h | h | h | h | h <;> subst h
    all_goals simp only [anFs, List.getElem_cons_zero, List.getElem_cons_succ] at hx
    all_goals rw [hx] at *
    all_goals clear c1 hg ha hx d
    · (refine gw ?_)
      refine Idx.mk ⟨_, by omega, rfl, ?_⟩
      (refine gw ?_)
      refine Idx.mk ⟨_, by omega, rfl, ?_⟩
      (refine gw ?_; refine ⟨[], [0], rfl, ⟨1, rfl, rfl, by omega⟩, (by omega : 18 - ((0 : Int) + 1).toNat < 18 - (0 : Int).toNat)⟩)
    · (refine gw ?_)
      refine Idx.mk ⟨_, by omega, rfl, ?_⟩
      (refine gw ?_)
      refine Idx.mk ⟨_, by omega, rfl, ?_⟩
      (refine gw ?_; refine ⟨[], [0], rfl, ⟨2, rfl, rfl, by omega⟩, (by omega : 18 - ((1 : Int) + 1).toNat < 18 - (1 : Int).toNat)⟩)
    · (refine gw ?_)
      refine Idx.mk ⟨_, by omega, rfl, ?_⟩
      (refine gw ?_)
      refine Idx.mk ⟨_, by omega, rfl, ?_⟩
      (refine gw ?_; refine ⟨[], [0], rfl, ⟨3, rfl, rfl, by omega⟩, (by omega : 18 - ((2 : Int) + 1).toNat < 18 - (2 : Int).toNat)⟩)
    · (refine gw ?_)
      refine Idx.mk ⟨_, by omega, rfl, ?_⟩
      (refine gw ?_)
      refine Idx.mk ⟨_, by omega, rfl, ?_⟩
      (refine gw ?_; refine ⟨[], [0], rfl, ⟨4, rfl, rfl, by omega⟩, (by omega : 18 - ((3 : Int) + 1).toNat < 18 - (3 : Int).toNat)⟩)
    · (refine gw ?_)
      refine Idx.mk ⟨_, by omega, rfl, ?_⟩
      (refine gw ?_)
      refine Idx.mk ⟨_, by omega, rfl, ?_⟩
      (refine gw ?_; refine ⟨[], [0], rfl, ⟨5, rfl, rfl, by omega⟩, (by omega : 18 - ((4 : Int) + 1).toNat < 18 - (4 : Int).toNat)⟩)
    · (refine gw ?_)
      refine Idx.mk ⟨_, by omega, rfl, ?_⟩
      (refine gw ?_)
      refine Idx.mk ⟨_, by omega, rfl, ?_⟩
      (refine gw ?_; refine ⟨[], [0], rfl, ⟨6, rfl, rfl, by omega⟩, (by omega : 18 - ((5 : Int) + 1).toNat < 18 - (5 : Int).toNat)⟩)
    · (refine gw ?_)
      refine Idx.mk ⟨_, by omega, rfl, ?_⟩
      (refine gw ?_)
      refine Idx.mk ⟨_, by omega, rfl, ?_⟩
      (refine gw ?_; refine ⟨[], [0], rfl, ⟨7, rfl, rfl, by omega⟩, (by omega : 18 - ((6 : Int) + 1).toNat < 18 - (6 : Int).toNat)⟩)
    · (refine gw ?_)
      refine Idx.mk ⟨_, by omega, rfl, ?_⟩
      (refine gw ?_)
      refine Idx.mk ⟨_, by omega, rfl, ?_⟩
      (refine gw ?_; refine ⟨[], [0], rfl, ⟨8, rfl, rfl, by omega⟩, (by omega : 18 - ((7 : Int) + 1).toNat < 18 - (7 : Int).toNat)⟩)
    · (refine gw ?_; refine ⟨[], [0], rfl, ⟨9, rfl, rfl, by omega⟩, (by omega : 18 - ((8 : Int) + 1).toNat < 18 - (8 : Int).toNat)⟩)
    · (refine gw ?_)
      refine Idx.mk ⟨_, by omega, rfl, ?_⟩
      (refine gw ?_)
      refine Idx.mk ⟨_, by omega, rfl, ?_⟩
      (refine gw ?_; refine ⟨[], [0], rfl, ⟨10, rfl, rfl, by omega⟩, (by omega : 18 - ((9 : Int) + 1).toNat < 18 - (9 : Int).toNat)⟩)
    · (refine gw ?_)
      refine Idx.mk ⟨_, by omega, rfl, ?_⟩
      (refine gw ?_)
      refine Idx.mk ⟨_, by omega, rfl, ?_⟩
      (refine gw ?_; refine ⟨[], [0], rfl, ⟨11, rfl, rfl, by omega⟩, (by omega : 18 - ((10 : Int) + 1).toNat < 18 - (10 : Int).toNat)⟩)
    · (refine gw ?_)
      refine Idx.mk ⟨_, by omega, rfl, ?_⟩
      (refine gw ?_)
      refine Idx.mk ⟨_, by omega, rfl, ?_⟩
      (refine gw ?_; refine ⟨[], [0], rfl, ⟨12, rfl, rfl, by omega⟩, (by omega : 18 - ((11 : Int) + 1).toNat < 18 - (11 : Int).toNat)⟩)
    · (refine gw ?_)
      refine Idx.mk ⟨_, by omega, rfl, ?_⟩
      (refine gw ?_)
      refine Idx.mk ⟨_, by omega, rfl, ?_⟩
      (refine gw ?_; refine ⟨[], [0], rfl, ⟨13, rfl, rfl, by omega⟩, (by omega : 18 - ((12 : Int) + 1).toNat < 18 - (12 : Int).toNat)⟩)
    · (refine gw ?_)
      refine Idx.mk ⟨_, by omega, rfl, ?_⟩
      (refine gw ?_)
      refine Idx.mk ⟨_, by omega, rfl, ?_⟩
      (refine gw ?_; refine ⟨[], [0], rfl, ⟨14, rfl, rfl, by omega⟩, (by omega : 18 - ((13 : Int) + 1).toNat < 18 - (13 : Int).toNat)⟩)
    · (refine gw ?_)
      refine Idx.mk ⟨_, by omega, rfl, ?_⟩
      (refine gw ?_)
      refine Idx.mk ⟨_, by omega, rfl, ?_⟩
      (refine gw ?_; refine ⟨[], [0], rfl, ⟨15, rfl, rfl, by omega⟩, (by omega : 18 - ((14 : Int) + 1).toNat < 18 - (14 : Int).toNat)⟩)
    · (refine gw ?_)
      refine Idx.mk ⟨_, by omega, rfl, ?_⟩
      (refine gw ?_)
      refine Idx.mk ⟨_, by omega, rfl, ?_⟩
      (refine gw ?_; refine ⟨[], [0], rfl, ⟨16, rfl, rfl, by omega⟩, (by omega : 18 - ((15 : Int) + 1).toNat < 18 - (15 : Int).toNat)⟩)
    · (refine gw ?_)
      refine Idx.mk ⟨_, by omega, rfl, ?_⟩
      (refine gw ?_)
      refine Idx.mk ⟨_, by omega, rfl, ?_⟩
      (refine gw ?_; refine ⟨[], [0], rfl, ⟨17, rfl, rfl, by omega⟩, (by omega : 18 - ((16 : Int) + 1).toNat < 18 - (16 : Int).toNat)⟩)
    · (refine gw ?_)
      refine Idx.mk ⟨_, by omega, rfl, ?_⟩
      (refine gw ?_)
      refine Idx.mk ⟨_, by omega, rfl, ?_⟩
      (refine gw ?_; refine ⟨[], [0], rfl, ⟨18, rfl, rfl, by omega⟩, (by omega : 18 - ((17 : Int) + 1).toNat < 18 - (17 : Int).toNat)⟩)
  · have e : k = 18 := by omega
    subst e
    have hl : ((stF 18).bs.map eB).length = 2 := by rw [List.length_map]; exact stF_end
    (refine gw ?_; refine RetN.mk ⟨[], rfl, ?_, rfl⟩)
    rw [hl]; rfl
end Go.Ev.W
namespace Go.Ev.W
open Go.Ev Go.Ev.N

/-- Where the blocks ahead end. -/
def endB (l : List Bk) : Nat → Int
  | 0 => 0
  | k + 1 => (l.getD k bk0).a + (l.getD k bk0).c
set_option maxRecDepth 20000 in
set_option maxHeartbeats 8000000 in
theorem plainApart_told {a b : List Nat} (ha : IsB a) (hla : a.length ≤ maxLen) (hb : IsB b) (hlb : b.length ≤ maxLen) : Told P T law17_PlainApart [] [lB a, lB b] (.bool true) [] := by
  have hua : (a.map u8).length = a.length := by simp
  have hub : (b.map u8).length = b.length := by simp
  have oka : (⟨a, 0⟩ : Pk).Ok := ⟨ha, Nat.zero_le _, hla⟩
  have okb : (⟨b, 0⟩ : Pk).Ok := ⟨hb, Nat.zero_le _, hlb⟩
  have t1 := raw_told ⟨a, 0⟩ oka false
  generalize rawF ⟨a, 0⟩ false = R at *
  obtain ⟨r, pa⟩ := R
  have n1 := plainNew_told r
  have hok := newM_ok (r := r)
  have hno : (newM r).2 ≠ 0 → (newM r).1 = ⟨cf0, [], 0, 0, 0, [], []⟩ := fun h => by
    unfold newM at h ⊢
    split
    · rfl
    · rename_i h2; rw [if_neg h2] at h; exact absurd rfl h
  generalize newM r = M at *
  obtain ⟨m0, e⟩ := M
  refine told_of_ev (fn := law17_PlainApart_fn) tabOk mixed (by kernel_rfl) (by kernel_rfl) (by kernel_rfl) (by kernel_rfl) ?_
  (refine gw ?_; refine Choice.mk ⟨false, Choice.mk ⟨false, _, _, begun17_told, ?_⟩⟩)
  by_cases h6 : a.length > 6
  · (refine gw ?_; refine IfB.tt (by rw [hua]; simp; omega) ?_)
    (refine gw ?_; exact RetN.mk ⟨[], rfl, rfl, rfl⟩)
  (refine gw ?_; refine IfB.ff (by rw [hua]; simp; omega) ?_)
  by_cases h7 : b.length > 150
  · (refine gw ?_; refine IfB.tt (by rw [hub]; simp; omega) ?_)
    (refine gw ?_; exact RetN.mk ⟨[], rfl, rfl, rfl⟩)
  (refine gw ?_; refine IfB.ff (by rw [hub]; simp; omega) ?_)
  (refine gw ?_; refine Choice.mk ⟨false, Choice.mk ⟨false, _, _, made_told a, ?_⟩⟩)
  (refine gw ?_; refine Choice.mk ⟨true, Choice.mk ⟨false, _, _, t1, ?_⟩⟩)
  (refine gw ?_; refine Choice.mk ⟨false, Choice.mk ⟨false, _, _, n1, ?_⟩⟩)
  by_cases he : e = 0
  · subst he
    have hm0 : MoOk m0 := hok rfl
    (refine gw ?_; refine Choice.mk ⟨false, Choice.mk ⟨false, _, _, made_told b, ?_⟩⟩)
    (refine gw ?_; refine LoopN.mk ⟨[6,8,9], fun vs L => ∃ (k : Nat) (q : Pk) (m : Mo), vs = [.ptr 0 0 0, .ptr 1 0 0, i64 k] ∧ L = [.var (eM m), pkB q] ∧ k ≤ 40 ∧ q.Ok ∧ MoOk m, fun vs L => match vs with | [_, _, .int _ i] => 40 - i.toNat | _ => 0, [], [2,6], rfl, ⟨0, ⟨b, 0⟩, m0, rfl, rfl, by omega, okb, hm0⟩, ?_⟩)
    rintro vs L ⟨k, q, m, rfl, rfl, hk, okq, hm⟩
    by_cases hk4 : k < 40
    · obtain ⟨t1, t2, t3⟩ := opO_spec hm okq
      have ht3 := t3.ok hm.c
      generalize opO m q = o at *
      generalize opP m q = q' at *
      (refine gw ?_; refine IfB.tt (by simp; omega) ?_)
      (refine gw ?_; refine Choice.mk ⟨true, Choice.mk ⟨false, _, _, over_told' q, ?_⟩⟩)
      cases hov : q.over with
      | true => (refine gw ?_; exact RetN.mk ⟨[], rfl, rfl, rfl⟩)
      | false =>
        have d1 := plainDo_told hm (hH1 hm) ht3
        have hd := doF_ok hm ht3
        generalize doF m o = D at *
        obtain ⟨m', an'⟩ := D
        have hm : MoOk m' := hd.1
        clear hd
        (refine gw ?_; refine Choice.mk ⟨true, Choice.mk ⟨false, _, _, t1, ?_⟩⟩)
        (refine gw ?_; refine Choice.mk ⟨false, Choice.mk ⟨false, _, _, d1, ?_⟩⟩)
        have hbl : (m'.bs.map eB).length = m'.bs.length := by simp
        have hH := hm.c.h2
        have hlen := hm.a.len
        have htl := totalB_take hm.a
        (refine gw ?_; refine LoopN.mk ⟨[6,8,9,12,13,14], fun vs L => ∃ j : Nat, vs = [.ptr 0 0 0, .ptr 1 0 0, i64 k, i64 (endB m'.bs j), i64 (totalB (m'.bs.take j)), i64 j] ∧ L = [.var (eM m'), pkB q'] ∧ j ≤ m'.bs.length, fun vs L => match vs with | [_, _, _, _, _, .int _ i] => m'.bs.length - i.toNat | _ => 0, [], [0,1], rfl, ⟨0, rfl, rfl, by omega⟩, ?_⟩)
        rintro vs L ⟨j, rfl, rfl, hj⟩
        have hend : 0 ≤ endB m'.bs j ∧ endB m'.bs j ≤ m'.mark ∧ ∀ h : j < m'.bs.length, endB m'.bs j ≤ m'.bs[j].a := by
          rcases j with _ | i
          · exact ⟨by simp [endB], by have := hm.k; show (0 : Int) ≤ _; omega, fun h => by have := hm.a.b _ (List.getElem_mem h); show (0 : Int) ≤ _; omega⟩
          · have hil : i < m'.bs.length := by omega
            have e : endB m'.bs (i + 1) = m'.bs[i].a + m'.bs[i].c := by simp [endB, List.getD_eq_getElem?_getD, hil]
            rw [e]
            have h1 := hm.a.b _ (List.getElem_mem hil)
            have h2 := hm.k.1 _ (List.getElem_mem hil)
            exact ⟨by omega, h2, fun h => List.pairwise_iff_getElem.1 hm.a.p i (i + 1) hil h (by omega)⟩
        (refine gw ?_; first | refine IfB.dec (fun g1 => ?_) (fun g1 => ?_) | refine IfB.eq (fun g1 => ?_) (fun g1 => ?_) | refine IfB.ne (fun g1 => ?_) (fun g1 => ?_) | refine IfB.mk (fun g1 => ?_) (fun g1 => ?_))
        · have hjl : j < m'.bs.length := by omega
          have h1 := hm.a.b _ (List.getElem_mem hjl)
          obtain ⟨_, _, _, z1, z2, z3⟩ := hm.z _ (List.getElem_mem hjl)
          have h2 := hend.2.2 hjl
          have h3 := htl j
          have h4 := htl (j + 1)
          have hsu := totalB_succ hjl
          have e : endB m'.bs (j + 1) = m'.bs[j].a + m'.bs[j].c := by simp [endB, List.getD_eq_getElem?_getD, hjl]
          have em : m'.bs[j].a.tmod m'.bs[j].c = 0 := by rw [Int.tmod_eq_emod_of_nonneg h1.1]; exact z1
          (refine gw ?_; refine idx_map (hjl) ?_)
          (refine gw ?_; refine IfB.ff (by simp; omega) ?_)
          (refine gw ?_; refine IfB.ff (by simp; omega) ?_)
          (refine gw ?_)
          rw [em]
          (refine gw ?_; refine IfB.ff (by simp; omega) ?_)
          (refine gw ?_; refine IfB.ff (by simp; omega) ?_)
          (refine gw ?_; refine IfB.ff (by simp; omega) ?_)
          (refine gw ?_; refine ⟨[], [0,1], rfl, ⟨j + 1, by rw [e, hsu]; rfl, rfl, hjl⟩, (by omega : m'.bs.length - ((j : Int) + 1).toNat < m'.bs.length - (j : Int).toNat)⟩)
        · have ej : j = m'.bs.length := by omega
          subst ej
          rw [List.take_length]
          have hl := hm.l
          have hlM := hm.lM
          have hp := hm.p
          have hmm := hm.mm
          have hmu : (m'.mem.map u8).length = m'.c.H := by rw [List.length_map]; exact hmm
          (refine gw ?_; refine IfB.ff (by simp; omega) ?_)
          (refine gw ?_; refine IfB.ff (by simp; omega) ?_)
          (refine gw ?_; refine IfB.ff (by simp; omega) ?_)
          (refine gw ?_; refine IfB.ff (by simp; omega) ?_)
          (refine gw ?_)
          rw [hmu]
          (refine gw ?_; refine ⟨[], [0,1], rfl, ⟨k + 1, q', m', rfl, rfl, hk4, t2, hm⟩, (by omega : 40 - ((k : Int) + 1).toNat < 40 - (k : Int).toNat)⟩)
    · (refine gw ?_; refine IfB.ff (by simp; omega) ?_)
      (refine gw ?_; exact RetN.mk ⟨[], rfl, rfl, rfl⟩)
  · obtain rfl : m0 = ⟨cf0, [], 0, 0, 0, [], []⟩ := hno he
    (refine gw ?_; refine IfB.tt (by simpa using he) ?_)
    (refine gw ?_; exact RetN.mk ⟨[], rfl, rfl, rfl⟩)
theorem plainApart {x0 x1 : AV} (h0 : Shp T 8 ts_uint8 x0) (h1 : Shp T 8 ts_uint8 x1) : Told P T law17_PlainApart [] [x0, x1] (.bool true) [] := by
  obtain ⟨a, rfl, ha, hla⟩ := shp_bytes h0
  obtain ⟨b, rfl, hb, hlb⟩ := shp_bytes h1
  exact plainApart_told ha hla hb hlb
end Go.Ev.W
namespace Go.Ev.W
open Go.Ev Go.Ev.N

/-- All pages in which something is live are there. -/
def OnOk (m : Mo) : Prop := ∀ x ∈ m.bs, ∀ i : Nat, ovr (i * m.c.Pg : Nat) m.c.Pg x.a x.c = true → m.on.getD i false = true
theorem getD_map {n i : Nat} {f : Nat → Bool} (h : i < n) : ((List.range n).map f).getD i false = f i := by simp [List.getD_eq_getElem?_getD, h]
theorem page_lt {c : Cf} (hc : c.Ok) {i : Nat} {a n : Int} (h : ovr (i * c.Pg : Nat) c.Pg a n = true) (hb : a + n ≤ c.H) : i < c.H / c.Pg := by
  have hp := hc.pgpos
  obtain ⟨k, hk⟩ := hc.pgH
  have h := of_decide_eq_true h
  rw [hk, Nat.mul_div_cancel_left _ (by omega)]
  rcases Nat.lt_or_ge i k with h1 | h1
  · exact h1
  · exfalso
    have : k * c.Pg ≤ i * c.Pg := Nat.mul_le_mul_right _ h1
    rw [Nat.mul_comm] at hk
    omega
theorem commit_on {m : Mo} (hm : MoOk m) {l : List Bk} (hl : ∀ x ∈ l, x ∈ m.bs) (h : OnOk m) {y n : Nat} (hn : 1 ≤ n) (hy : y + n ≤ m.c.H) (hco : (commitF m.on (metF m.c.Pg m.c.H l) (y / m.c.Pg) ((y + n - 1) / m.c.Pg + 1) m.c.P).2.2 = true) :
    ∀ x : Bk, (x ∈ l ∨ (x.a = y ∧ x.c = n)) → ∀ i : Nat, ovr (i * m.c.Pg : Nat) m.c.Pg x.a x.c = true → (commitF m.on (metF m.c.Pg m.c.H l) (y / m.c.Pg) ((y + n - 1) / m.c.Pg + 1) m.c.P).1.getD i false = true := by
  intro x hx i hi
  have hp := hm.c.pgpos
  have hil : i < m.on.length := by
    rw [hm.o]
    refine page_lt hm.c hi ?_
    rcases hx with hx | ⟨h1, h2⟩
    · exact (hm.a.b x (hl x hx)).2.2
    · omega
  have key : (m.on.getD i false || decide (y / m.c.Pg ≤ i ∧ i < (y + n - 1) / m.c.Pg + 1)) = true ∧ ((metF m.c.Pg m.c.H l).getD i false || decide (y / m.c.Pg ≤ i ∧ i < (y + n - 1) / m.c.Pg + 1)) = true := by
    rcases hx with hx | ⟨h1, h2⟩
    · rw [h x (hl x hx) i hi]
      refine ⟨rfl, ?_⟩
      unfold metF
      rw [getD_map (by rw [← hm.o]; exact hil), List.any_eq_true.2 ⟨x, hx, hi⟩]; rfl
    · have h := of_decide_eq_true hi
      rw [h1, h2] at h
      have e : decide (y / m.c.Pg ≤ i ∧ i < (y + n - 1) / m.c.Pg + 1) = true := by
        refine decide_eq_true ⟨?_, ?_⟩
        · rw [← Nat.lt_succ_iff, Nat.div_lt_iff_lt_mul (by omega), Nat.succ_mul]; omega
        · rw [Nat.lt_succ_iff, Nat.le_div_iff_mul_le (by omega)]; omega
      rw [e]; simp
  unfold commitF at hco ⊢
  simp only at hco ⊢
  split at hco
  · simp at hco
  · rename_i h1
    rw [if_neg h1]
    simp only
    split
    · rw [getD_map hil, getD_map hil, getD_map hil, key.1, key.2]; rfl
    · rw [getD_map hil, key.1]
theorem place_on {m : Mo} (hm : MoOk m) {l : List Bk} (hl : ∀ x ∈ l, x ∈ m.bs) (hs : l.Sublist m.bs) (h : OnOk m) {n : Nat} {q : Int} (hn : 1 ≤ n) (h0 : (placeF m l n q).2.2 = 0) : OnOk (placeF m l n q).1 := by
  have hsp := lowF_spec (c := m.c) (l := l) hn
  have hco := commit_on hm hl h (y := (lowF m.c l n).1) hn
  unfold placeF at h0 ⊢
  simp only at h0 ⊢
  split at h0
  · simp at h0
  · rename_i h1
    rw [if_neg h1]
    split at h0
    · simp at h0
    · rename_i h2
      rw [if_neg h2]
      obtain ⟨j, e1, e2, e3, e4⟩ := hsp (by simpa using h1)
      have hput := putB_ok (hm.a.sub hs) (b := ⟨(lowF m.c l n).1, n, q⟩) e3 (by simp only; rw [e1]; omega)
      intro x hx i hi
      have hx := (hput.2.1 x).1 hx
      refine hco (by rw [e1]; exact e2) (by simpa using h2) x ?_ i hi
      rcases hx with rfl | hx
      · exact .inr ⟨rfl, rfl⟩
      · exact .inl hx
theorem OnOk.mem {m : Mo} (h : OnOk m) (mem : List Nat) : OnOk { m with mem := mem } := h
theorem giveG_on {m : Mo} (hm : MoOk m) (h : OnOk m) (ce : Nat × Nat) (q : Int) (f : Mo × Int × Nat → Mo) (hf : ∀ p : Mo × Int × Nat, OnOk p.1 → OnOk (f p)) (h1 : ce.2 = 0 → 1 ≤ ce.1) :
    OnOk (if ce.2 ≠ 0 then (m, anE ce.2) else if (placeF m m.bs ce.1 q).2.2 ≠ 0 then (m, anE (placeF m m.bs ce.1 q).2.2) else (f (placeF m m.bs ce.1 q), { an0 with at' := (placeF m m.bs ce.1 q).2.1 })).1 := by
  split
  · exact h
  · rename_i g1
    split
    · exact h
    · rename_i g2
      exact hf _ (place_on hm (fun _ h => h) (List.Sublist.refl _) h (h1 (by simpa using g1)) (by simpa using g2))
theorem doF_on {m : Mo} (hm : MoOk m) (h : OnOk m) {o : X.O} (ho : OpOk o) : OnOk (doF m o).1 := by
  unfold doF
  split
  · unfold giveF
    simp only
    by_cases h2 : o.k = 2
    · simp only [if_pos h2]
      exact giveG_on hm h (manyF m.c m.live o.n o.s) (o.n * o.s) (fun p => { p.1 with mem := zeroF p.1.mem p.2.1.toNat (manyF m.c m.live o.n o.s).1 }) (fun p hp => hp.mem _) fun h0 => (class_bd hm.c _ (manyF_ok hm.c h0).1).1
    · simp only [if_neg h2]
      exact giveG_on hm h (newF m.c m.live o.s (if o.k = 3 then o.a else 1)) o.s (fun p => p.1) (fun p hp => hp) fun h0 => (class_bd hm.c _ (newF_ok hm.c h0).1).1
  · split
    · intro x hx i hi
      have hil : i < m.on.length := by rw [hm.o]; exact page_lt hm.c hi (hm.a.b x hx).2.2
      show ((List.range m.on.length).map fun i => m.on.getD i false && (metF m.c.Pg m.c.H m.bs).getD i false).getD i false = true
      rw [getD_map hil, h x hx i hi]
      unfold metF
      rw [getD_map (by rw [← hm.o]; exact hil), List.any_eq_true.2 ⟨x, hx, hi⟩]; rfl
    · split
      · exact h
      · split
        · cases hf : findB m.bs o.p with
          | none => exact h
          | some i =>
            obtain ⟨hi, _⟩ := findB_lt hf
            have hds := dropB_sub m.bs i
            simp only
            unfold ofB
            simp only
            split
            · split
              · exact h
              · rename_i h1
                split
                · exact h
                · rename_i h2
                  exact (place_on hm (fun x hx => hds.subset hx) hds h (class_bd hm.c _ (newF_ok hm.c (by simpa using h1)).1).1 (by simpa using h2)).mem _
            · split
              · exact fun x hx => h x (hds.subset hx)
              · split
                · exact h
                · split
                  · exact h
                  · split
                    · exact h
                    · exact h
        · exact h
end Go.Ev.W
namespace Go.Ev.W
open Go.Ev Go.Ev.N

set_option maxRecDepth 20000 in
set_option maxHeartbeats 8000000 in
theorem plainPages_told {a b : List Nat} (ha : IsB a) (hla : a.length ≤ maxLen) (hb : IsB b) (hlb : b.length ≤ maxLen) : Told P T law17_PlainPages [] [lB a, lB b] (.bool true) [] := by
  have hua : (a.map u8).length = a.length := by simp
  have hub : (b.map u8).length = b.length := by simp
  have oka : (⟨a, 0⟩ : Pk).Ok := ⟨ha, Nat.zero_le _, hla⟩
  have okb : (⟨b, 0⟩ : Pk).Ok := ⟨hb, Nat.zero_le _, hlb⟩
  have t1 := raw_told ⟨a, 0⟩ oka false
  generalize rawF ⟨a, 0⟩ false = R at *
  obtain ⟨r, pa⟩ := R
  have n1 := plainNew_told r
  have hok := newM_ok (r := r)
  have hno : (newM r).1.bs = [] := by
    unfold newM
    split <;> rfl
  generalize newM r = M at *
  obtain ⟨m0, e⟩ := M
  refine told_of_ev (fn := law17_PlainPages_fn) tabOk mixed (by kernel_rfl) (by kernel_rfl) (by kernel_rfl) (by kernel_rfl) ?_
  (refine gw ?_; refine Choice.mk ⟨false, Choice.mk ⟨false, _, _, begun17_told, ?_⟩⟩)
  by_cases h6 : a.length > 6
  · (refine gw ?_; refine IfB.tt (by rw [hua]; simp; omega) ?_)
    (refine gw ?_; exact RetN.mk ⟨[], rfl, rfl, rfl⟩)
  (refine gw ?_; refine IfB.ff (by rw [hua]; simp; omega) ?_)
  by_cases h7 : b.length > 150
  · (refine gw ?_; refine IfB.tt (by rw [hub]; simp; omega) ?_)
    (refine gw ?_; exact RetN.mk ⟨[], rfl, rfl, rfl⟩)
  (refine gw ?_; refine IfB.ff (by rw [hub]; simp; omega) ?_)
  (refine gw ?_; refine Choice.mk ⟨false, Choice.mk ⟨false, _, _, made_told a, ?_⟩⟩)
  (refine gw ?_; refine Choice.mk ⟨true, Choice.mk ⟨false, _, _, t1, ?_⟩⟩)
  (refine gw ?_; refine Choice.mk ⟨false, Choice.mk ⟨false, _, _, n1, ?_⟩⟩)
  by_cases he : e = 0
  · subst he
    have hm0 : MoOk m0 := hok rfl
    have hn0 : OnOk m0 := fun x hx => by rw [show m0.bs = [] from hno] at hx; simp at hx
    (refine gw ?_; refine Choice.mk ⟨false, Choice.mk ⟨false, _, _, made_told b, ?_⟩⟩)
    (refine gw ?_; refine LoopN.mk ⟨[5,7,8], fun vs L => ∃ (k : Nat) (q : Pk) (m : Mo), vs = [.ptr 0 0 0, .ptr 1 0 0, i64 k] ∧ L = [.var (eM m), pkB q] ∧ k ≤ 40 ∧ q.Ok ∧ MoOk m ∧ OnOk m, fun vs L => match vs with | [_, _, .int _ i] => 40 - i.toNat | _ => 0, [], [1,5], rfl, ⟨0, ⟨b, 0⟩, m0, rfl, rfl, by omega, okb, hm0, hn0⟩, ?_⟩)
    rintro vs L ⟨k, q, m, rfl, rfl, hk, okq, hm, hon⟩
    by_cases hk4 : k < 40
    · obtain ⟨t1, t2, t3⟩ := opO_spec hm okq
      have ht3 := t3.ok hm.c
      generalize opO m q = o at *
      generalize opP m q = q' at *
      (refine gw ?_; refine IfB.tt (by simp; omega) ?_)
      (refine gw ?_; refine Choice.mk ⟨true, Choice.mk ⟨false, _, _, over_told' q, ?_⟩⟩)
      cases hov : q.over with
      | true => (refine gw ?_; exact RetN.mk ⟨[], rfl, rfl, rfl⟩)
      | false =>
        have d1 := plainDo_told hm (hH1 hm) ht3
        have hd := doF_ok hm ht3
        have hdn := doF_on hm hon ht3
        generalize doF m o = D at *
        obtain ⟨m', an'⟩ := D
        have hm : MoOk m' := hd.1
        have hon : OnOk m' := hdn
        clear hd hdn
        (refine gw ?_; refine Choice.mk ⟨true, Choice.mk ⟨false, _, _, t1, ?_⟩⟩)
        (refine gw ?_; refine Choice.mk ⟨false, Choice.mk ⟨false, _, _, d1, ?_⟩⟩)
        have hbl : (m'.bs.map eB).length = m'.bs.length := by simp
        have hol : (m'.on.map AV.bool).length = m'.on.length := by simp
        have hH := hm.c.h2
        have hlen := hm.a.len
        have hpg := hm.c.pgpos
        have hdl := Nat.div_le_self m'.c.H m'.c.Pg
        have hoo := hm.o
        have hcP := hm.on
        have hdv : ((m'.c.H : Nat) : Int).tdiv ((m'.c.Pg : Nat) : Int) = ((m'.on.length : Nat) : Int) := by rw [hoo]; exact (Int.ofNat_tdiv _ _).symm
        (refine gw ?_; refine LoopN.mk ⟨[5,7,8,11,12], fun vs L => ∃ j : Nat, vs = [.ptr 0 0 0, .ptr 1 0 0, i64 k, i64 (cntB (m'.on.take j) : Nat), i64 j] ∧ L = [.var (eM m'), pkB q'] ∧ j ≤ m'.on.length ∧ cntB (m'.on.take j) ≤ j, fun vs L => match vs with | [_, _, _, _, .int _ i] => m'.on.length - i.toNat | _ => 0, [], [0,1], rfl, ⟨0, rfl, rfl, by omega, by simp [cntB]⟩, ?_⟩)
        rintro vs L ⟨j, rfl, rfl, hj, hcj⟩
        (refine gw ?_; first | refine IfB.dec (fun g1 => ?_) (fun g1 => ?_) | refine IfB.eq (fun g1 => ?_) (fun g1 => ?_) | refine IfB.ne (fun g1 => ?_) (fun g1 => ?_) | refine IfB.mk (fun g1 => ?_) (fun g1 => ?_))
        · have hjl : j < m'.on.length := by omega
          have hsu := cntB_succ hjl
          (refine gw ?_; refine idx_map (hjl) ?_)
          cases hoj : m'.on[j] with
          | true =>
            rw [hoj, if_pos rfl] at hsu
            (refine gw ?_; refine ⟨[], [0,1], rfl, ⟨j + 1, by rw [hsu]; rfl, rfl, hjl, by omega⟩, (by omega : m'.on.length - ((j : Int) + 1).toNat < m'.on.length - (j : Int).toNat)⟩)
          | false =>
            rw [hoj, if_neg (by simp)] at hsu
            (refine gw ?_; refine ⟨[], [0,1], rfl, ⟨j + 1, by rw [hsu]; rfl, rfl, hjl, by omega⟩, (by omega : m'.on.length - ((j : Int) + 1).toNat < m'.on.length - (j : Int).toNat)⟩)
        · have ej : j = m'.on.length := by omega
          subst ej
          rw [List.take_length] at hcj ⊢
          (refine gw ?_; refine IfB.ff (by simp; omega) ?_)
          (refine gw ?_)
          rw [hol, hdv]
          (refine gw ?_; refine LoopN.mk ⟨[5,7,8,13], fun vs L => ∃ j : Nat, vs = [.ptr 0 0 0, .ptr 1 0 0, i64 k, i64 j] ∧ L = [.var (eM m'), pkB q'] ∧ j ≤ m'.bs.length, fun vs L => match vs with | [_, _, _, .int _ i] => m'.bs.length - i.toNat | _ => 0, [], [0,1], rfl, ⟨0, rfl, rfl, by omega⟩, ?_⟩)
          rintro vs L ⟨j, rfl, rfl, hj⟩
          (refine gw ?_; first | refine IfB.dec (fun g2 => ?_) (fun g2 => ?_) | refine IfB.eq (fun g2 => ?_) (fun g2 => ?_) | refine IfB.ne (fun g2 => ?_) (fun g2 => ?_) | refine IfB.mk (fun g2 => ?_) (fun g2 => ?_))
          · have hjl : j < m'.bs.length := by omega
            have h1 := hm.a.b _ (List.getElem_mem hjl)
            have hox := hon _ (List.getElem_mem hjl)
            (refine gw ?_; refine idx_map (hjl) ?_)
            (refine gw ?_; refine LoopN.mk ⟨[5,7,8,13,14], fun vs L => ∃ y : Nat, vs = [.ptr 0 0 0, .ptr 1 0 0, i64 k, i64 j, i64 y] ∧ L = [.var (eM m'), pkB q'] ∧ m'.bs[j].a ≤ y ∧ (y : Int) ≤ m'.bs[j].a + m'.bs[j].c, fun vs L => match vs with | [_, _, _, _, .int _ i] => (m'.bs[j].a + m'.bs[j].c).toNat - i.toNat | _ => 0, [], [0,1], rfl, ⟨m'.bs[j].a.toNat, by rw [Int.toNat_of_nonneg h1.1]; rfl, rfl, by omega, by omega⟩, ?_⟩)
            rintro vs L ⟨y, rfl, rfl, hy1, hy2⟩
            (refine gw ?_; refine idx_map (hjl) ?_)
            (refine gw ?_; refine idx_map (hjl) ?_)
            (refine gw ?_; first | refine IfB.dec (fun g3 => ?_) (fun g3 => ?_) | refine IfB.eq (fun g3 => ?_) (fun g3 => ?_) | refine IfB.ne (fun g3 => ?_) (fun g3 => ?_) | refine IfB.mk (fun g3 => ?_) (fun g3 => ?_))
            · have hyd : ((y : Nat) : Int).tdiv ((m'.c.Pg : Nat) : Int) = ((y / m'.c.Pg : Nat) : Int) := (Int.ofNat_tdiv _ _).symm
              have hov : ovr (y / m'.c.Pg * m'.c.Pg : Nat) m'.c.Pg m'.bs[j].a m'.bs[j].c = true := by
                have e1 := Nat.div_mul_le_self y m'.c.Pg
                have e2 := Nat.lt_mul_div_succ y hpg
                rw [Nat.mul_comm, Nat.succ_mul] at e2
                refine decide_eq_true ⟨by omega, by omega⟩
              have hyo : y / m'.c.Pg < m'.on.length := by rw [hoo]; exact page_lt hm.c hov h1.2.2
              have hoy := hox _ hov
              have hoy : m'.on[y / m'.c.Pg] = true := by simpa [List.getD_eq_getElem?_getD, hyo] using hoy
              obtain ⟨z, hz⟩ : ∃ z, y / m'.c.Pg = z := ⟨_, rfl⟩
              simp only [hz] at hyd hyo hoy
              (refine gw ?_)
              rw [hyd]
              (refine gw ?_)
              rw [hol]
              (refine gw ?_; refine IfB.ff (by simp; omega) ?_)
              (refine gw ?_)
              rw [hyd]
              (refine gw ?_; refine idx_map (hyo) ?_)
              (refine gw ?_)
              rw [hoy]
              (refine gw ?_; refine ⟨[], [0,1], rfl, ⟨y + 1, rfl, rfl, by omega, by omega⟩, (by omega : (m'.bs[j].a + m'.bs[j].c).toNat - ((y : Int) + 1).toNat < (m'.bs[j].a + m'.bs[j].c).toNat - (y : Int).toNat)⟩)
            · (refine gw ?_; refine ⟨[], [0,1], rfl, ⟨j + 1, rfl, rfl, hjl⟩, (by omega : m'.bs.length - ((j : Int) + 1).toNat < m'.bs.length - (j : Int).toNat)⟩)
          · (refine gw ?_; refine ⟨[], [0,1], rfl, ⟨k + 1, q', m', rfl, rfl, hk4, t2, hm, hon⟩, (by omega : 40 - ((k : Int) + 1).toNat < 40 - (k : Int).toNat)⟩)
    · (refine gw ?_; refine IfB.ff (by simp; omega) ?_)
      (refine gw ?_; exact RetN.mk ⟨[], rfl, rfl, rfl⟩)
  · (refine gw ?_; refine IfB.tt (by simpa using he) ?_)
    (refine gw ?_; exact RetN.mk ⟨[], rfl, rfl, rfl⟩)
theorem plainPages {x0 x1 : AV} (h0 : Shp T 8 ts_uint8 x0) (h1 : Shp T 8 ts_uint8 x1) : Told P T law17_PlainPages [] [x0, x1] (.bool true) [] := by
  obtain ⟨a, rfl, ha, hla⟩ := shp_bytes h0
  obtain ⟨b, rfl, hb, hlb⟩ := shp_bytes h1
  exact plainPages_told ha hla hb hlb
end Go.Ev.W
namespace Go.Ev.W
open Go.Ev Go.Ev.N

/-- A block was placed: beside which, where. -/
structure Placed (m : Mo) (o : X.O) (m' : Mo) (y : Int) (l : List Bk) (n : Nat) (q : Int) : Prop where
  bs : m'.bs = putB l ⟨y, n, q⟩
  mem : ∀ x, x ∈ l ↔ x ∈ m.bs ∧ ¬ (o.k = 4 ∧ x.a = o.p)
  a : ApB m.c.H l
  n1 : 1 ≤ n
  y0 : 0 ≤ y
  yH : y + n ≤ m.c.H
  f : freeAt l n y = true
  low : ∃ j : Nat, y = ((j * n : Nat) : Int) ∧ ∀ i, i < j → freeAt l n ((i * n : Nat) : Int) = false
theorem dropB_mem {H : Nat} {l : List Bk} (ha : ApB H l) {i : Nat} (hi : i < l.length) : ∀ x, x ∈ dropB l i ↔ x ∈ l ∧ ¬ x.a = l[i].a := by
  have e : l = l.take i ++ (l[i] :: l.drop (i + 1)) := by rw [← List.drop_eq_getElem_cons hi, List.take_append_drop]
  have hb := ha.b _ (List.getElem_mem hi)
  have hp := ha.p
  have hbb := ha.b
  generalize l[i] = z at *
  intro x
  unfold dropB
  rw [e] at hp hbb
  conv => rhs; rw [e]
  rw [List.pairwise_append, List.pairwise_cons] at hp
  simp only [List.mem_append, List.mem_cons]
  constructor
  · rintro (h | h)
    · refine ⟨.inl h, fun e => ?_⟩
      have := hp.2.2 x h z (by simp)
      have := (hbb x (by simp [h])).2.1
      omega
    · refine ⟨.inr (.inr h), fun e => ?_⟩
      have := hp.2.1.1 x h
      omega
  · rintro ⟨h | rfl | h, h2⟩
    · exact .inl h
    · exact absurd rfl h2
    · exact .inr h
theorem doF_placed {m : Mo} (hm : MoOk m) {o : X.O} (hk : o.k = 1 ∨ o.k = 2 ∨ o.k = 3 ∨ o.k = 4) (h0 : (doF m o).2.e = 0) : ∃ l n q, Placed m o (doF m o).1 (doF m o).2.at' l n q := by
  have give : ∀ (ce : Nat × Nat) (q : Int) (f : Mo × Int × Nat → Mo) (hf : ∀ p, (f p).bs = p.1.bs) (R : Mo × An), R = (if ce.2 ≠ 0 then (m, anE ce.2) else if (placeF m m.bs ce.1 q).2.2 ≠ 0 then (m, anE (placeF m m.bs ce.1 q).2.2) else (f (placeF m m.bs ce.1 q), { an0 with at' := (placeF m m.bs ce.1 q).2.1 })) →
      (ce.2 = 0 → (∃ k, k ≤ m.c.L ∧ ce.1 = m.c.G * 2 ^ k) ∧ 0 ≤ q ∧ q ≤ ce.1 ∧ m.live + ce.1 ≤ m.c.M) → o.k ≠ 4 → R.2.e = 0 → ∃ l n q, Placed m o R.1 R.2.at' l n q := by
    intro ce q f hf R hR hn h4 h
    subst hR
    split at h
    · rename_i g1; exact absurd h g1
    · rename_i g1
      split at h
      · rename_i g2; exact absurd h g2
      · rename_i g2
        rw [if_neg g1, if_neg g2]
        obtain ⟨a1, a2, a3, a4⟩ := hn (by simpa using g1)
        have hput := placeF_ok hm hm.a hm.z a1 ⟨a2, a3⟩ (by rw [← hm.l]; exact a4) hm.k.1 (by simpa using g2)
        exact ⟨m.bs, ce.1, q, ⟨by rw [hf]; exact hput.bs, fun x => ⟨fun h => ⟨h, fun h' => h4 h'.1⟩, fun h => h.1⟩, hm.a, (class_bd hm.c _ a1).1, hput.y0, hput.yH, hput.f, hput.low⟩⟩
  by_cases h4 : o.k = 4
  · unfold doF at h0 ⊢
    rw [if_neg (by omega), if_neg (by omega), if_neg (by omega), if_pos (.inl h4)] at h0 ⊢
    cases hf : findB m.bs o.p with
    | none => rw [hf] at h0; exact absurd h0 (by simp [anE])
    | some i =>
      rw [hf] at h0
      obtain ⟨hi, hpi⟩ := findB_lt hf
      simp only at h0 ⊢
      have hg : m.bs.getD i bk0 = m.bs[i] := by simp [List.getD_eq_getElem?_getD, hi]
      unfold ofB at h0 ⊢
      simp only at h0 ⊢
      rw [if_pos h4, hg] at h0 ⊢
      split at h0
      · rename_i g1; exact absurd h0 g1
      · rename_i g1
        split at h0
        · rename_i g2; exact absurd h0 g2
        · rename_i g2
          rw [if_neg g1, if_neg g2]
          have hn := newF_ok hm.c (by simpa using g1)
          have hdt := dropB_tot hi
          have hds := dropB_sub m.bs i
          have had := hm.a.sub hds
          have hput := placeF_ok hm had (fun x hx => hm.z x (hds.subset hx)) hn.1 ⟨hn.2.1, hn.2.2.1⟩ (by rw [hdt, ← hm.l]; exact hn.2.2.2) (fun x hx => hm.k.1 x (hds.subset hx)) (by simpa using g2)
          refine ⟨dropB m.bs i, _, o.s, ⟨hput.bs, fun x => ?_, had, (class_bd hm.c _ hn.1).1, hput.y0, hput.yH, hput.f, hput.low⟩⟩
          rw [dropB_mem hm.a hi, hpi]
          exact ⟨fun h => ⟨h.1, fun h' => h.2 h'.2⟩, fun h => ⟨h.1, fun h' => h.2 ⟨h4, h'⟩⟩⟩
  · unfold doF at h0 ⊢
    rw [if_pos (by omega)] at h0 ⊢
    unfold giveF at h0 ⊢
    simp only at h0 ⊢
    by_cases h2 : o.k = 2
    · simp only [if_pos h2] at h0 ⊢
      exact give (manyF m.c m.live o.n o.s) (o.n * o.s) (fun p => { p.1 with mem := zeroF p.1.mem p.2.1.toNat (manyF m.c m.live o.n o.s).1 }) (fun _ => rfl) _ rfl (fun h => by have := manyF_ok hm.c h; exact ⟨this.1, this.2.1, this.2.2.1, this.2.2.2.1⟩) h4 h0
    · simp only [if_neg h2] at h0 ⊢
      exact give (newF m.c m.live o.s (if o.k = 3 then o.a else 1)) o.s (fun p => p.1) (fun _ => rfl) _ rfl (fun h => by have := newF_ok hm.c h; exact ⟨this.1, this.2.1, this.2.2.1, this.2.2.2⟩) h4 h0
/-- A byte in which something is live, beside what is moved. -/
def liveF (o : X.O) (l : List Bk) (g : Nat) : Bool := l.any fun b => !(decide (o.k = 4) && decide (b.a = o.p)) && (decide (b.a ≤ g) && decide ((g : Int) < b.a + b.c))
theorem liveF_succ {o : X.O} {l : List Bk} {k : Nat} (h : k < l.length) (g : Nat) : liveF o (l.take (k + 1)) g = (liveF o (l.take k) g || (!(decide (o.k = 4) && decide (l[k].a = o.p)) && (decide (l[k].a ≤ g) && decide ((g : Int) < l[k].a + l[k].c)))) := by
  unfold liveF
  rw [List.take_succ_eq_append_getElem h, List.any_append]
  simp
theorem liveF_iff {m : Mo} {o : X.O} {l : List Bk} (hl : ∀ x, x ∈ l ↔ x ∈ m.bs ∧ ¬ (o.k = 4 ∧ x.a = o.p)) (g : Nat) : liveF o m.bs g = true ↔ ∃ x ∈ l, x.a ≤ g ∧ (g : Int) < x.a + x.c := by
  unfold liveF
  simp only [List.any_eq_true, Bool.and_eq_true, Bool.not_eq_true', decide_eq_true_eq]
  constructor
  · rintro ⟨x, hx, h1, h2⟩
    refine ⟨x, (hl x).2 ⟨hx, fun h => ?_⟩, h2⟩
    rw [decide_eq_true h.1, decide_eq_true h.2] at h1; cases h1
  · rintro ⟨x, hx, h2⟩
    obtain ⟨h3, h4⟩ := (hl x).1 hx
    refine ⟨x, h3, ?_, h2⟩
    by_cases h5 : o.k = 4
    · by_cases h6 : x.a = o.p
      · exact absurd ⟨h5, h6⟩ h4
      · simp [h6]
    · simp [h5]
/-- Is something live in so many bytes? -/
def someF (f : Nat → Bool) (y : Nat) : Nat → Bool
  | 0 => false
  | k + 1 => someF f y k || f (y + k)
theorem someF_iff {f : Nat → Bool} {y : Nat} : ∀ n, someF f y n = true ↔ ∃ k, k < n ∧ f (y + k) = true
  | 0 => by simp [someF]
  | n + 1 => by
    unfold someF
    rw [Bool.or_eq_true, someF_iff n]
    constructor
    · rintro (⟨k, h1, h2⟩ | h)
      · exact ⟨k, by omega, h2⟩
      · exact ⟨n, by omega, h⟩
    · rintro ⟨k, h1, h2⟩
      rcases Nat.lt_or_ge k n with h | h
      · exact .inl ⟨k, h, h2⟩
      · exact .inr (by rw [show n = k by omega]; exact h2)
theorem some_free {m : Mo} {o : X.O} {l : List Bk} {H : Nat} (ha : ApB H l) (hl : ∀ x, x ∈ l ↔ x ∈ m.bs ∧ ¬ (o.k = 4 ∧ x.a = o.p)) (y : Nat) {n : Nat} (hn : 1 ≤ n) : someF (liveF o m.bs) y n = !freeAt l n y := by
  rw [Bool.eq_iff_iff, someF_iff, Bool.not_eq_true', ← Bool.not_eq_true, freeAt_iff]
  constructor
  · rintro ⟨k, h1, h2⟩ hf
    obtain ⟨x, hx, h3, h4⟩ := (liveF_iff hl _).1 h2
    exact hf x hx ⟨by omega, by omega⟩
  · intro hf
    obtain ⟨x, h⟩ := Classical.not_forall.1 hf
    obtain ⟨hx, h⟩ := Classical.not_imp.1 h
    have h := Classical.not_not.1 h
    have hb := ha.b x hx
    refine ⟨(max x.a y - y).toNat, by omega, (liveF_iff hl _).2 ⟨x, hx, by omega, by omega⟩⟩
/-- How much is charged for the block that begins at a place. -/
def atC (l : List Bk) (y : Int) : Nat → Int
  | 0 => 0
  | k + 1 => if (l.getD k bk0).a = y then (l.getD k bk0).c else atC l y k
theorem atC_eq {H : Nat} {l : List Bk} (ha : ApB H l) {x : Bk} (hx : x ∈ l) : atC l x.a l.length = x.c := by
  obtain ⟨i, hi, rfl⟩ := List.getElem_of_mem hx
  have key : ∀ k, k ≤ l.length → atC l l[i].a k = if i < k then l[i].c else 0 := by
    intro k
    induction k with
    | zero => intro _; rfl
    | succ k ih =>
      intro hk
      have hg : l.getD k bk0 = l[k] := by simp [List.getD_eq_getElem?_getD, show k < l.length from hk]
      unfold atC
      rw [hg, ih (by omega)]
      by_cases h : k = i
      · subst h; rw [if_pos rfl, if_pos (by omega)]
      · have hne : l[k].a ≠ l[i].a := by
          have b1 := ha.b _ (List.getElem_mem hi)
          have b2 := ha.b _ (List.getElem_mem (show k < l.length from hk))
          rcases Nat.lt_or_ge k i with h1 | h1
          · have := List.pairwise_iff_getElem.1 ha.p k i hk hi h1; omega
          · have := List.pairwise_iff_getElem.1 ha.p i k hi hk (by omega); omega
        rw [if_neg hne]
        by_cases h2 : i < k
        · rw [if_pos h2, if_pos (by omega)]
        · rw [if_neg h2, if_neg (by omega)]
  rw [key l.length (Nat.le_refl _), if_pos hi]
end Go.Ev.W
namespace Go.Ev.W
open Go.Ev Go.Ev.N

theorem tabF_rep' (n : Nat) : (tabF n fun _ => AV.bool false) = List.replicate n (.bool false) := (tabF_rep n _).symm
set_option maxRecDepth 20000 in
set_option maxHeartbeats 16000000 in
theorem plainLowest_law {a b : List Nat} (ha : IsB a) (hla : a.length ≤ maxLen) (hb : IsB b) (hlb : b.length ≤ maxLen) : Told P T law17_PlainLowest [] [lB a, lB b] (.bool true) [] := by
  have hua : (a.map u8).length = a.length := by simp
  have hub : (b.map u8).length = b.length := by simp
  have oka : (⟨a, 0⟩ : Pk).Ok := ⟨ha, Nat.zero_le _, hla⟩
  have okb : (⟨b, 0⟩ : Pk).Ok := ⟨hb, Nat.zero_le _, hlb⟩
  have t1 := raw_told ⟨a, 0⟩ oka true
  generalize rawF ⟨a, 0⟩ true = R at *
  obtain ⟨r, pa⟩ := R
  have n1 := plainNew_told r
  have hok := newM_ok (r := r)
  generalize newM r = M at *
  obtain ⟨m0, e⟩ := M
  refine told_of_ev (fn := law17_PlainLowest_fn) tabOk mixed (by kernel_rfl) (by kernel_rfl) (by kernel_rfl) (by kernel_rfl) ?_
  (refine gw ?_; refine Choice.mk ⟨false, Choice.mk ⟨false, _, _, begun17_told, ?_⟩⟩)
  by_cases h6 : a.length > 6
  · (refine gw ?_; refine IfB.tt (by rw [hua]; simp; omega) ?_)
    (refine gw ?_; exact RetN.mk ⟨[], rfl, rfl, rfl⟩)
  (refine gw ?_; refine IfB.ff (by rw [hua]; simp; omega) ?_)
  by_cases h7 : b.length > 150
  · (refine gw ?_; refine IfB.tt (by rw [hub]; simp; omega) ?_)
    (refine gw ?_; exact RetN.mk ⟨[], rfl, rfl, rfl⟩)
  (refine gw ?_; refine IfB.ff (by rw [hub]; simp; omega) ?_)
  (refine gw ?_; refine Choice.mk ⟨false, Choice.mk ⟨false, _, _, made_told a, ?_⟩⟩)
  (refine gw ?_; refine Choice.mk ⟨true, Choice.mk ⟨false, _, _, t1, ?_⟩⟩)
  (refine gw ?_; refine Choice.mk ⟨false, Choice.mk ⟨false, _, _, n1, ?_⟩⟩)
  by_cases he : e = 0
  · subst he
    have hm0 : MoOk m0 := hok rfl
    (refine gw ?_; refine Choice.mk ⟨false, Choice.mk ⟨false, _, _, made_told b, ?_⟩⟩)
    (refine gw ?_; refine LoopN.mk ⟨[5,7,8], fun vs L => ∃ (k : Nat) (q : Pk) (m : Mo), vs = [.ptr 0 0 0, .ptr 1 0 0, i64 k] ∧ L = [.var (eM m), pkB q] ∧ k ≤ 40 ∧ q.Ok ∧ MoOk m, fun vs L => match vs with | [_, _, .int _ i] => 40 - i.toNat | _ => 0, [], [1,5], rfl, ⟨0, ⟨b, 0⟩, m0, rfl, rfl, by omega, okb, hm0⟩, ?_⟩)
    rintro vs L ⟨k, q, m, rfl, rfl, hk, okq, hm⟩
    by_cases hk4 : k < 40
    · obtain ⟨t1, t2, t3⟩ := opO_spec hm okq
      have ht3 := t3.ok hm.c
      generalize opO m q = o at *
      generalize opP m q = q' at *
      (refine gw ?_; refine IfB.tt (by simp; omega) ?_)
      (refine gw ?_; refine Choice.mk ⟨true, Choice.mk ⟨false, _, _, over_told' q, ?_⟩⟩)
      cases hov : q.over with
      | true => (refine gw ?_; exact RetN.mk ⟨[], rfl, rfl, rfl⟩)
      | false =>
        have d1 := plainDo_told hm (hH1 hm) ht3
        have hd := doF_ok hm ht3
        have hpl := doF_placed (m := m) hm (o := o)
        generalize doF m o = D at *
        obtain ⟨m', an'⟩ := D
        have hm' : MoOk m' := hd.1
        simp only at hpl
        (refine gw ?_; refine Choice.mk ⟨true, Choice.mk ⟨false, _, _, t1, ?_⟩⟩)
        (refine gw ?_; refine Choice.mk ⟨false, Choice.mk ⟨false, _, _, d1, ?_⟩⟩)
        by_cases h0 : an'.e = 0
        · (refine gw ?_; refine IfB.tt (by simpa using h0) ?_)
          by_cases hkk : o.k = 1 ∨ o.k = 2 ∨ o.k = 3 ∨ o.k = 4
          · obtain ⟨l, n, qq, hP⟩ := hpl hkk h0
            have hH := hm.c.h2
            have hlen := hm.a.len
            have hbl : (m.bs.map eB).length = m.bs.length := by simp
            have hlen' := hm'.a.len
            have hcc : m'.c.H = m.c.H := by rw [hd.2]
            have hbl' : (m'.bs.map eB).length = m'.bs.length := by simp
            clear hd hpl
            have hbs := hP.bs
            have hmem := hP.mem
            have hn1 := hP.n1
            have hy0 := hP.y0
            have hyH := hP.yH
            have hlow := hP.low
            have hfre := hP.f
            have hlap := hP.a
            have hput : ⟨an'.at', n, qq⟩ ∈ m'.bs := by
              rw [hbs]
              exact (putB_ok hlap (b := ⟨an'.at', n, qq⟩) hfre (by simp only; omega)).2.1 _ |>.2 (.inl rfl)
            have hatC := atC_eq hm'.a hput
            have hsf := fun y : Nat => some_free (m := m) (o := o) hlap hmem y hn1
            have hwl := fun f : Nat → AV => tabF_len m.c.H f
            clear hP hput hbs hmem hlap
            obtain ⟨ok, op, os, oa, on, ob⟩ := o
            obtain ⟨ae, yy, an1, ab, al, ap, am, apg⟩ := an'
            simp only at hkk hatC h0 hy0 hyH hlow hfre
            rcases (by omega : ok = 4 ∨ ok = 1 ∨ ok = 2 ∨ ok = 3) with hk1 | hk1
            · subst hk1
              (refine gw ?_)
              refine Room.mk (by omega) ?_
              (refine gw ?_; refine LoopN.mk ⟨[5,7,8,9,10,11,12,13], fun vs L => ∃ j : Nat, vs = [.ptr 0 0 0, .ptr 1 0 0, i64 k, .ptr 2 0 0, .ptr 3 0 0, .ptr 4 0 0, .ref 5, i64 j] ∧ L = [.var (eM m), pkB q', .var (X.encO ⟨4, op, os, oa, on, ob⟩), .var (eM m'), .var (.agg [i64 (ae : Nat), i64 yy, i64 an1, .int .u8 (ab : Nat), i64 al, i64 ap, i64 am, i64 apg]), .row t_bool (tabF m.c.H fun g => .bool (liveF ⟨4, op, os, oa, on, ob⟩ (m.bs.take j) g))] ∧ j ≤ m.bs.length, fun vs L => match vs with | [_, _, _, _, _, _, _, .int _ i] => m.bs.length - i.toNat | _ => 0, [], [0,1,2,3,7,8], rfl, ⟨0, rfl, ?_, by omega⟩, ?_⟩)
              · show [.var (eM m), pkB q', .var (X.encO ⟨4, op, os, oa, on, ob⟩), .var (eM m'), .var (.agg [i64 (ae : Nat), i64 yy, i64 an1, .int .u8 (ab : Nat), i64 al, i64 ap, i64 am, i64 apg]), Blk.row t_bool (List.replicate ((m.c.H : Nat) : Int).toNat (.bool false))] = _
                rw [Int.toNat_natCast, tabF_rep]; rfl
              rintro vs L ⟨j, rfl, rfl, hj⟩
              by_cases hjl : j < m.bs.length
              · have hbj := hm.a.b _ (List.getElem_mem hjl)
                have hlv := liveF_succ (o := ⟨4, op, os, oa, on, ob⟩) hjl
                (refine gw ?_; refine IfB.tt (by simp; omega) ?_)
                (refine gw ?_; refine idx_map (hjl) ?_)
                generalize m.bs[j] = x at *
                obtain ⟨xa, hxa⟩ : ∃ xa : Nat, x.a = xa := ⟨x.a.toNat, by omega⟩
                (refine gw ?_; refine LoopN.mk ⟨[5,7,8,9,10,11,12,13,14,15], fun vs L => ∃ g : Nat, vs = [.ptr 0 0 0, .ptr 1 0 0, i64 k, .ptr 2 0 0, .ptr 3 0 0, .ptr 4 0 0, .ref 5, i64 j, .ptr 6 0 0, i64 g] ∧ L = [.var (eM m), pkB q', .var (X.encO ⟨4, op, os, oa, on, ob⟩), .var (eM m'), .var (.agg [i64 (ae : Nat), i64 yy, i64 an1, .int .u8 (ab : Nat), i64 al, i64 ap, i64 am, i64 apg]), .row t_bool (tabF m.c.H fun z => .bool (or (liveF ⟨4, op, os, oa, on, ob⟩ (m.bs.take j) z) (!(decide (x.a = op)) && (decide (x.a ≤ z) && decide (z < g))))), .var (eB x)] ∧ x.a ≤ g ∧ (g : Int) ≤ x.a + x.c, fun vs L => match vs with | [_, _, _, _, _, _, _, _, _, .int _ i] => (x.a + x.c).toNat - i.toNat | _ => 0, [], [0,1,2,3,4,5,6], rfl, ⟨xa, by rw [hxa]; rfl, ?_, by omega, by omega⟩, ?_⟩)
                · refine congrArg (fun w => [.var (eM m), pkB q', .var (X.encO ⟨4, op, os, oa, on, ob⟩), .var (eM m'), .var (.agg [i64 (ae : Nat), i64 yy, i64 an1, .int .u8 (ab : Nat), i64 al, i64 ap, i64 am, i64 apg]), w, .var (eB x)]) ?_
                  refine congrArg (Blk.row t_bool) (tabF_congr fun z _ => ?_)
                  have : (decide (x.a ≤ (z : Int)) && decide (z < xa)) = false := by rw [Bool.and_eq_false_iff, decide_eq_false_iff_not, decide_eq_false_iff_not]; omega
                  rw [this, Bool.and_false, Bool.or_false]
                rintro vs L ⟨g, rfl, rfl, hg1, hg2⟩
                by_cases hgx : (g : Int) < x.a + x.c
                · (refine gw ?_; refine IfB.tt (by simp; omega) ?_)
                  by_cases hx : x.a = op
                  · (refine gw ?_; refine IfB.ff (by simp [hx]) ?_)
                    (refine gw ?_; refine ⟨[], [0,1,2,3,4,5], rfl, ⟨j + 1, rfl, ?_, hjl⟩, (by omega : m.bs.length - ((j : Int) + 1).toNat < m.bs.length - (j : Int).toNat)⟩)
                    refine congrArg (fun w => [.var (eM m), pkB q', .var (X.encO ⟨4, op, os, oa, on, ob⟩), .var (eM m'), .var (.agg [i64 (ae : Nat), i64 yy, i64 an1, .int .u8 (ab : Nat), i64 al, i64 ap, i64 am, i64 apg]), w]) ?_
                    refine congrArg (Blk.row t_bool) (tabF_congr fun z _ => ?_)
                    rw [hlv]
                    simp [hx]
                  · (refine gw ?_; refine IfB.tt (by simp [hx]) ?_)
                    have hset : (tabF m.c.H fun z => AV.bool (or (liveF ⟨4, op, os, oa, on, ob⟩ (m.bs.take j) z) (!(decide (x.a = op)) && (decide (x.a ≤ z) && decide (z < g))))).set ((g : Nat) : Int).toNat (.bool true) = tabF m.c.H fun z => AV.bool (or (liveF ⟨4, op, os, oa, on, ob⟩ (m.bs.take j) z) (!(decide (x.a = op)) && (decide (x.a ≤ z) && decide (z < g + 1)))) := by
                      rw [Int.toNat_natCast]
                      refine tabF_set (by omega) fun z hz => ?_
                      by_cases e : z = g
                      · subst e; rw [if_pos rfl, decide_eq_true (show x.a ≤ (z : Int) from hg1), decide_eq_true (show z < z + 1 by omega)]; simp [hx]
                      · rw [if_neg e]
                        have : decide (z < g + 1) = decide (z < g) := decide_eq_decide.2 (by omega)
                        rw [this]
                    (refine gw ?_)
                    refine InB.mk (by omega) (by rw [hwl]; omega) ?_
                    (refine gw ?_; refine ⟨[], [0,1,2,3,4,5,6], rfl, ⟨g + 1, rfl, by rw [← hset]; rfl, by omega, by omega⟩, (by omega : (x.a + x.c).toNat - ((g : Int) + 1).toNat < (x.a + x.c).toNat - (g : Int).toNat)⟩)
                · (refine gw ?_; refine IfB.ff (by simp; omega) ?_)
                  (refine gw ?_; refine ⟨[], [0,1,2,3,4,5], rfl, ⟨j + 1, rfl, ?_, hjl⟩, (by omega : m.bs.length - ((j : Int) + 1).toNat < m.bs.length - (j : Int).toNat)⟩)
                  refine congrArg (fun w => [.var (eM m), pkB q', .var (X.encO ⟨4, op, os, oa, on, ob⟩), .var (eM m'), .var (.agg [i64 (ae : Nat), i64 yy, i64 an1, .int .u8 (ab : Nat), i64 al, i64 ap, i64 am, i64 apg]), w]) ?_
                  refine congrArg (Blk.row t_bool) (tabF_congr fun z _ => ?_)
                  rw [hlv]
                  congr 1
                  have e1 : decide ((z : Int) < x.a + x.c) = decide (z < g) := decide_eq_decide.2 (by omega)
                  rw [e1]; simp
              · have ej : j = m.bs.length := by omega
                subst ej
                rw [List.take_length]
                (refine gw ?_; refine LoopN.mk ⟨[5,7,8,10,11,12,16,17], fun vs L => ∃ j : Nat, vs = [.ptr 0 0 0, .ptr 1 0 0, i64 k, .ptr 2 0 0, .ptr 3 0 0, .ref 4, i64 (atC m'.bs yy j), i64 j] ∧ L = [.var (eM m), pkB q', .var (eM m'), .var (.agg [i64 (ae : Nat), i64 yy, i64 an1, .int .u8 (ab : Nat), i64 al, i64 ap, i64 am, i64 apg]), .row t_bool (tabF m.c.H fun g => .bool (liveF ⟨4, op, os, oa, on, ob⟩ m.bs g))] ∧ j ≤ m'.bs.length, fun vs L => match vs with | [_, _, _, _, _, _, _, .int _ i] => m'.bs.length - i.toNat | _ => 0, [], [0,1,3,4,5], rfl, ⟨0, rfl, rfl, by omega⟩, ?_⟩)
                rintro vs L ⟨j, rfl, rfl, hj⟩
                by_cases hjl : j < m'.bs.length
                · have hac : atC m'.bs yy (j + 1) = if m'.bs[j].a = yy then m'.bs[j].c else atC m'.bs yy j := by simp [atC, List.getD_eq_getElem?_getD, hjl]
                  (refine gw ?_; refine IfB.tt (by simp; omega) ?_)
                  (refine gw ?_; refine idx_map (hjl) ?_)
                  (refine gw ?_; first | refine IfB.dec (fun hx => ?_) (fun hx => ?_) | refine IfB.eq (fun hx => ?_) (fun hx => ?_) | refine IfB.ne (fun hx => ?_) (fun hx => ?_) | refine IfB.mk (fun hx => ?_) (fun hx => ?_))
                  · rw [if_pos hx] at hac
                    (refine gw ?_; refine idx_map (hjl) ?_)
                    (refine gw ?_; refine ⟨[], [0,1,2,3,4], rfl, ⟨j + 1, by rw [hac]; rfl, rfl, hjl⟩, (by omega : m'.bs.length - ((j : Int) + 1).toNat < m'.bs.length - (j : Int).toNat)⟩)
                  · rw [if_neg hx] at hac
                    (refine gw ?_; refine ⟨[], [0,1,2,3,4], rfl, ⟨j + 1, by rw [hac]; rfl, rfl, hjl⟩, (by omega : m'.bs.length - ((j : Int) + 1).toNat < m'.bs.length - (j : Int).toNat)⟩)
                · have ej : j = m'.bs.length := by omega
                  subst ej
                  rw [hatC]
                  obtain ⟨jj, hjj, hlo⟩ := hlow
                  have hyn : yy.tmod (n : Nat) = 0 := by rw [hjj, Int.natCast_mul]; exact Int.mul_tmod_left _ _
                  (refine gw ?_; refine IfB.ff (by simp; omega) ?_)
                  (refine gw ?_; refine IfB.ff (by simp; omega) ?_)
                  (refine gw ?_)
                  rw [hyn]
                  (refine gw ?_; refine IfB.ff (by simp; omega) ?_)
                  (refine gw ?_; refine LoopN.mk ⟨[5,7,8,10,11,12,16,18], fun vs L => ∃ i : Nat, vs = [.ptr 0 0 0, .ptr 1 0 0, i64 k, .ptr 2 0 0, .ptr 3 0 0, .ref 4, i64 (n : Nat), i64 (i * n : Nat)] ∧ L = [.var (eM m), pkB q', .var (eM m'), .var (.agg [i64 (ae : Nat), i64 yy, i64 an1, .int .u8 (ab : Nat), i64 al, i64 ap, i64 am, i64 apg]), .row t_bool (tabF m.c.H fun g => .bool (liveF ⟨4, op, os, oa, on, ob⟩ m.bs g))] ∧ i ≤ jj + 1, fun vs L => match vs with | [_, _, _, _, _, _, _, .int _ i] => (yy + n).toNat + 1 - i.toNat | _ => 0, [], [0,1,2,3,4], rfl, ⟨0, by rw [Nat.zero_mul]; rfl, rfl, by omega⟩, ?_⟩)
                  rintro vs L ⟨i, rfl, rfl, hi⟩
                  have hmn : ∀ a b : Nat, a ≤ b → a * n ≤ b * n := fun a b h => Nat.mul_le_mul_right _ h
                  have hsn : (i + 1) * n = i * n + n := Nat.succ_mul _ _
                  have hjn : (jj + 1) * n = jj * n + n := Nat.succ_mul _ _
                  by_cases hij : i ≤ jj
                  · have h1 := hmn i jj hij
                    have hfi := hlo i
                    have hle : (i * n : Nat) = jj * n → i = jj := fun h => Nat.eq_of_mul_eq_mul_right (by omega) h
                    have hlt' : i < jj → i * n < jj * n := fun h => by have := hmn (i + 1) jj h; omega
                    have hsy := hsf (i * n)
                    obtain ⟨at', hat⟩ : ∃ at', i * n = at' := ⟨_, rfl⟩
                    rw [hat] at h1 hfi hle hlt' hsy hsn ⊢
                    (refine gw ?_; refine IfB.tt (by simp; omega) ?_)
                    (refine gw ?_; refine LoopN.mk ⟨[5,7,8,10,11,12,16,18,19,20], fun vs L => ∃ z : Nat, vs = [.ptr 0 0 0, .ptr 1 0 0, i64 k, .ptr 2 0 0, .ptr 3 0 0, .ref 4, i64 (n : Nat), i64 (at' : Nat), .bool (someF (liveF ⟨4, op, os, oa, on, ob⟩ m.bs) at' z), i64 (at' + z : Nat)] ∧ L = [.var (eM m), pkB q', .var (eM m'), .var (.agg [i64 (ae : Nat), i64 yy, i64 an1, .int .u8 (ab : Nat), i64 al, i64 ap, i64 am, i64 apg]), .row t_bool (tabF m.c.H fun g => .bool (liveF ⟨4, op, os, oa, on, ob⟩ m.bs g))] ∧ z ≤ n, fun vs L => match vs with | [_, _, _, _, _, _, _, _, _, .int _ i] => at' + n - i.toNat | _ => 0, [], [0,1,2,3,4], rfl, ⟨0, rfl, rfl, by omega⟩, ?_⟩)
                    rintro vs L ⟨z, rfl, rfl, hz⟩
                    by_cases hzn : z < n
                    · have hcell : (tabF m.c.H fun g => AV.bool (liveF ⟨4, op, os, oa, on, ob⟩ m.bs g))[((at' + z : Nat) : Int).toNat]? = some (.bool (liveF ⟨4, op, os, oa, on, ob⟩ m.bs (at' + z))) := by
                        rw [Int.toNat_natCast]; exact tabF_get (by omega)
                      have hss : someF (liveF ⟨4, op, os, oa, on, ob⟩ m.bs) at' (z + 1) = or (someF (liveF ⟨4, op, os, oa, on, ob⟩ m.bs) at' z) (liveF ⟨4, op, os, oa, on, ob⟩ m.bs (at' + z)) := rfl
                      (refine gw ?_; refine IfB.tt (by simp; omega) ?_)
                      cases hs0 : someF (liveF ⟨4, op, os, oa, on, ob⟩ m.bs) at' z with
                      | true =>
                        rw [hs0, Bool.true_or] at hss
                        (refine gw ?_; refine ⟨[], [0,1,2,3,4], rfl, ⟨z + 1, by rw [hss]; rfl, rfl, hzn⟩, (by omega : at' + n - (((at' + z : Nat) : Int) + 1).toNat < at' + n - ((at' + z : Nat) : Int).toNat)⟩)
                      | false =>
                        rw [hs0, Bool.false_or] at hss
                        (refine gw ?_)
                        refine InB.mk (by omega) (by rw [hwl]; omega) ?_
                        (refine gw ?_)
                        refine At.mk ⟨_, hcell, ?_⟩
                        (refine gw ?_; refine ⟨[], [0,1,2,3,4], rfl, ⟨z + 1, by rw [hss]; rfl, rfl, hzn⟩, (by omega : at' + n - (((at' + z : Nat) : Int) + 1).toNat < at' + n - ((at' + z : Nat) : Int).toNat)⟩)
                    · have ez : z = n := by omega
                      subst ez
                      rw [hsy]
                      by_cases hij2 : i < jj
                      · rw [hfi hij2]
                        have := hlt' hij2
                        (refine gw ?_; refine IfB.ff (by simp; omega) ?_)
                        (refine gw ?_; refine ⟨[], [0,1,2,3,4], rfl, ⟨i + 1, by rw [hsn]; rfl, rfl, by omega⟩, (by omega : (yy + z).toNat + 1 - ((at' : Int) + (z : Int)).toNat < (yy + z).toNat + 1 - (at' : Int).toNat)⟩)
                      · have e2 : i = jj := by omega
                        have hya : yy = ((at' : Nat) : Int) := by rw [hjj, ← e2, hat]
                        have hfre' : freeAt l z ((at' : Nat) : Int) = true := by rw [← hya]; exact hfre
                        rw [hfre']
                        (refine gw ?_; refine IfB.ff (by simp; omega) ?_)
                        (refine gw ?_; refine ⟨[], [0,1,2,3,4], rfl, ⟨i + 1, by rw [hsn]; rfl, rfl, by omega⟩, (by omega : (yy + z).toNat + 1 - ((at' : Int) + (z : Int)).toNat < (yy + z).toNat + 1 - (at' : Int).toNat)⟩)
                  · have h1 := hmn (jj + 1) i (by omega)
                    (refine gw ?_; refine IfB.ff (by simp; omega) ?_)
                    (refine gw ?_; refine ⟨[], [0,1], rfl, ⟨k + 1, q', m', rfl, rfl, hk4, t2, hm'⟩, (by omega : 40 - ((k : Int) + 1).toNat < 40 - (k : Int).toNat)⟩)
            · rcases hk1 with hk1 | hk1 | hk1
              all_goals have h4n : ok ≠ 4 := by omega
              all_goals try (first | (refine gw ?_; refine IfB.tt ?_ ?_; (focus (simp [hk1]; done))) | (refine gw ?_; refine IfB.ff ?_ ?_; (focus (simp [hk1]; done))))
              all_goals try (first | (refine gw ?_; refine IfB.tt ?_ ?_; (focus (simp [hk1]; done))) | (refine gw ?_; refine IfB.ff ?_ ?_; (focus (simp [hk1]; done))))
              all_goals try (first | (refine gw ?_; refine IfB.tt ?_ ?_; (focus (simp [hk1]; done))) | (refine gw ?_; refine IfB.ff ?_ ?_; (focus (simp [hk1]; done))))
              all_goals
                (refine gw ?_)
                refine Room.mk (by omega) ?_
                (refine gw ?_; refine LoopN.mk ⟨[5,7,8,9,10,11,12,13], fun vs L => ∃ j : Nat, vs = [.ptr 0 0 0, .ptr 1 0 0, i64 k, .ptr 2 0 0, .ptr 3 0 0, .ptr 4 0 0, .ref 5, i64 j] ∧ L = [.var (eM m), pkB q', .var (X.encO ⟨ok, op, os, oa, on, ob⟩), .var (eM m'), .var (.agg [i64 (ae : Nat), i64 yy, i64 an1, .int .u8 (ab : Nat), i64 al, i64 ap, i64 am, i64 apg]), .row t_bool (tabF m.c.H fun g => .bool (liveF ⟨ok, op, os, oa, on, ob⟩ (m.bs.take j) g))] ∧ j ≤ m.bs.length, fun vs L => match vs with | [_, _, _, _, _, _, _, .int _ i] => m.bs.length - i.toNat | _ => 0, [], [0,1,2,3,7,8], rfl, ⟨0, rfl, ?_, by omega⟩, ?_⟩)
                · show [.var (eM m), pkB q', .var (X.encO ⟨ok, op, os, oa, on, ob⟩), .var (eM m'), .var (.agg [i64 (ae : Nat), i64 yy, i64 an1, .int .u8 (ab : Nat), i64 al, i64 ap, i64 am, i64 apg]), Blk.row t_bool (List.replicate ((m.c.H : Nat) : Int).toNat (.bool false))] = _
                  rw [Int.toNat_natCast, tabF_rep]; rfl
                rintro vs L ⟨j, rfl, rfl, hj⟩
                by_cases hjl : j < m.bs.length
                · have hbj := hm.a.b _ (List.getElem_mem hjl)
                  have hlv := liveF_succ (o := ⟨ok, op, os, oa, on, ob⟩) hjl
                  (refine gw ?_; refine IfB.tt (by simp; omega) ?_)
                  (refine gw ?_; refine idx_map (hjl) ?_)
                  generalize m.bs[j] = x at *
                  obtain ⟨xa, hxa⟩ : ∃ xa : Nat, x.a = xa := ⟨x.a.toNat, by omega⟩
                  (refine gw ?_; refine LoopN.mk ⟨[5,7,8,9,10,11,12,13,14,15], fun vs L => ∃ g : Nat, vs = [.ptr 0 0 0, .ptr 1 0 0, i64 k, .ptr 2 0 0, .ptr 3 0 0, .ptr 4 0 0, .ref 5, i64 j, .ptr 6 0 0, i64 g] ∧ L = [.var (eM m), pkB q', .var (X.encO ⟨ok, op, os, oa, on, ob⟩), .var (eM m'), .var (.agg [i64 (ae : Nat), i64 yy, i64 an1, .int .u8 (ab : Nat), i64 al, i64 ap, i64 am, i64 apg]), .row t_bool (tabF m.c.H fun z => .bool (or (liveF ⟨ok, op, os, oa, on, ob⟩ (m.bs.take j) z) (true && (decide (x.a ≤ z) && decide (z < g))))), .var (eB x)] ∧ x.a ≤ g ∧ (g : Int) ≤ x.a + x.c, fun vs L => match vs with | [_, _, _, _, _, _, _, _, _, .int _ i] => (x.a + x.c).toNat - i.toNat | _ => 0, [], [0,1,2,3,4,5,6], rfl, ⟨xa, by rw [hxa]; rfl, ?_, by omega, by omega⟩, ?_⟩)
                  · refine congrArg (fun w => [.var (eM m), pkB q', .var (X.encO ⟨ok, op, os, oa, on, ob⟩), .var (eM m'), .var (.agg [i64 (ae : Nat), i64 yy, i64 an1, .int .u8 (ab : Nat), i64 al, i64 ap, i64 am, i64 apg]), w, .var (eB x)]) ?_
                    refine congrArg (Blk.row t_bool) (tabF_congr fun z _ => ?_)
                    have : (decide (x.a ≤ (z : Int)) && decide (z < xa)) = false := by rw [Bool.and_eq_false_iff, decide_eq_false_iff_not, decide_eq_false_iff_not]; omega
                    rw [this, Bool.and_false, Bool.or_false]
                  rintro vs L ⟨g, rfl, rfl, hg1, hg2⟩
                  by_cases hgx : (g : Int) < x.a + x.c
                  · (refine gw ?_; refine IfB.tt (by simp; omega) ?_)
                    (refine gw ?_; refine IfB.ff (by simp [h4n]) ?_)
                    have hset : (tabF m.c.H fun z => AV.bool (or (liveF ⟨ok, op, os, oa, on, ob⟩ (m.bs.take j) z) (true && (decide (x.a ≤ z) && decide (z < g))))).set ((g : Nat) : Int).toNat (.bool true) = tabF m.c.H fun z => AV.bool (or (liveF ⟨ok, op, os, oa, on, ob⟩ (m.bs.take j) z) (true && (decide (x.a ≤ z) && decide (z < g + 1)))) := by
                      rw [Int.toNat_natCast]
                      refine tabF_set (by omega) fun z hz => ?_
                      by_cases e : z = g
                      · subst e; rw [if_pos rfl, decide_eq_true (show x.a ≤ (z : Int) from hg1), decide_eq_true (show z < z + 1 by omega)]; simp
                      · rw [if_neg e]
                        have : decide (z < g + 1) = decide (z < g) := decide_eq_decide.2 (by omega)
                        rw [this]
                    (refine gw ?_)
                    refine InB.mk (by omega) (by rw [hwl]; omega) ?_
                    (refine gw ?_; refine ⟨[], [0,1,2,3,4,5,6], rfl, ⟨g + 1, rfl, by rw [← hset]; rfl, by omega, by omega⟩, (by omega : (x.a + x.c).toNat - ((g : Int) + 1).toNat < (x.a + x.c).toNat - (g : Int).toNat)⟩)
                  · (refine gw ?_; refine IfB.ff (by simp; omega) ?_)
                    (refine gw ?_; refine ⟨[], [0,1,2,3,4,5], rfl, ⟨j + 1, rfl, ?_, hjl⟩, (by omega : m.bs.length - ((j : Int) + 1).toNat < m.bs.length - (j : Int).toNat)⟩)
                    refine congrArg (fun w => [.var (eM m), pkB q', .var (X.encO ⟨ok, op, os, oa, on, ob⟩), .var (eM m'), .var (.agg [i64 (ae : Nat), i64 yy, i64 an1, .int .u8 (ab : Nat), i64 al, i64 ap, i64 am, i64 apg]), w]) ?_
                    refine congrArg (Blk.row t_bool) (tabF_congr fun z _ => ?_)
                    rw [hlv]
                    congr 1
                    have e1 : decide ((z : Int) < x.a + x.c) = decide (z < g) := decide_eq_decide.2 (by omega)
                    rw [e1, decide_eq_false h4n]; simp
                · have ej : j = m.bs.length := by omega
                  subst ej
                  rw [List.take_length]
                  (refine gw ?_; refine LoopN.mk ⟨[5,7,8,10,11,12,16,17], fun vs L => ∃ j : Nat, vs = [.ptr 0 0 0, .ptr 1 0 0, i64 k, .ptr 2 0 0, .ptr 3 0 0, .ref 4, i64 (atC m'.bs yy j), i64 j] ∧ L = [.var (eM m), pkB q', .var (eM m'), .var (.agg [i64 (ae : Nat), i64 yy, i64 an1, .int .u8 (ab : Nat), i64 al, i64 ap, i64 am, i64 apg]), .row t_bool (tabF m.c.H fun g => .bool (liveF ⟨ok, op, os, oa, on, ob⟩ m.bs g))] ∧ j ≤ m'.bs.length, fun vs L => match vs with | [_, _, _, _, _, _, _, .int _ i] => m'.bs.length - i.toNat | _ => 0, [], [0,1,3,4,5], rfl, ⟨0, rfl, rfl, by omega⟩, ?_⟩)
                  rintro vs L ⟨j, rfl, rfl, hj⟩
                  by_cases hjl : j < m'.bs.length
                  · have hac : atC m'.bs yy (j + 1) = if m'.bs[j].a = yy then m'.bs[j].c else atC m'.bs yy j := by simp [atC, List.getD_eq_getElem?_getD, hjl]
                    (refine gw ?_; refine IfB.tt (by simp; omega) ?_)
                    (refine gw ?_; refine idx_map (hjl) ?_)
                    (refine gw ?_; first | refine IfB.dec (fun hx => ?_) (fun hx => ?_) | refine IfB.eq (fun hx => ?_) (fun hx => ?_) | refine IfB.ne (fun hx => ?_) (fun hx => ?_) | refine IfB.mk (fun hx => ?_) (fun hx => ?_))
                    · rw [if_pos hx] at hac
                      (refine gw ?_; refine idx_map (hjl) ?_)
                      (refine gw ?_; refine ⟨[], [0,1,2,3,4], rfl, ⟨j + 1, by rw [hac]; rfl, rfl, hjl⟩, (by omega : m'.bs.length - ((j : Int) + 1).toNat < m'.bs.length - (j : Int).toNat)⟩)
                    · rw [if_neg hx] at hac
                      (refine gw ?_; refine ⟨[], [0,1,2,3,4], rfl, ⟨j + 1, by rw [hac]; rfl, rfl, hjl⟩, (by omega : m'.bs.length - ((j : Int) + 1).toNat < m'.bs.length - (j : Int).toNat)⟩)
                  · have ej : j = m'.bs.length := by omega
                    subst ej
                    rw [hatC]
                    obtain ⟨jj, hjj, hlo⟩ := hlow
                    have hyn : yy.tmod (n : Nat) = 0 := by rw [hjj, Int.natCast_mul]; exact Int.mul_tmod_left _ _
                    (refine gw ?_; refine IfB.ff (by simp; omega) ?_)
                    (refine gw ?_; refine IfB.ff (by simp; omega) ?_)
                    (refine gw ?_)
                    rw [hyn]
                    (refine gw ?_; refine IfB.ff (by simp; omega) ?_)
                    (refine gw ?_; refine LoopN.mk ⟨[5,7,8,10,11,12,16,18], fun vs L => ∃ i : Nat, vs = [.ptr 0 0 0, .ptr 1 0 0, i64 k, .ptr 2 0 0, .ptr 3 0 0, .ref 4, i64 (n : Nat), i64 (i * n : Nat)] ∧ L = [.var (eM m), pkB q', .var (eM m'), .var (.agg [i64 (ae : Nat), i64 yy, i64 an1, .int .u8 (ab : Nat), i64 al, i64 ap, i64 am, i64 apg]), .row t_bool (tabF m.c.H fun g => .bool (liveF ⟨ok, op, os, oa, on, ob⟩ m.bs g))] ∧ i ≤ jj + 1, fun vs L => match vs with | [_, _, _, _, _, _, _, .int _ i] => (yy + n).toNat + 1 - i.toNat | _ => 0, [], [0,1,2,3,4], rfl, ⟨0, by rw [Nat.zero_mul]; rfl, rfl, by omega⟩, ?_⟩)
                    rintro vs L ⟨i, rfl, rfl, hi⟩
                    have hmn : ∀ a b : Nat, a ≤ b → a * n ≤ b * n := fun a b h => Nat.mul_le_mul_right _ h
                    have hsn : (i + 1) * n = i * n + n := Nat.succ_mul _ _
                    have hjn : (jj + 1) * n = jj * n + n := Nat.succ_mul _ _
                    by_cases hij : i ≤ jj
                    · have h1 := hmn i jj hij
                      have hfi := hlo i
                      have hle : (i * n : Nat) = jj * n → i = jj := fun h => Nat.eq_of_mul_eq_mul_right (by omega) h
                      have hlt' : i < jj → i * n < jj * n := fun h => by have := hmn (i + 1) jj h; omega
                      have hsy := hsf (i * n)
                      obtain ⟨at', hat⟩ : ∃ at', i * n = at' := ⟨_, rfl⟩
                      rw [hat] at h1 hfi hle hlt' hsy hsn ⊢
                      (refine gw ?_; refine IfB.tt (by simp; omega) ?_)
                      (refine gw ?_; refine LoopN.mk ⟨[5,7,8,10,11,12,16,18,19,20], fun vs L => ∃ z : Nat, vs = [.ptr 0 0 0, .ptr 1 0 0, i64 k, .ptr 2 0 0, .ptr 3 0 0, .ref 4, i64 (n : Nat), i64 (at' : Nat), .bool (someF (liveF ⟨ok, op, os, oa, on, ob⟩ m.bs) at' z), i64 (at' + z : Nat)] ∧ L = [.var (eM m), pkB q', .var (eM m'), .var (.agg [i64 (ae : Nat), i64 yy, i64 an1, .int .u8 (ab : Nat), i64 al, i64 ap, i64 am, i64 apg]), .row t_bool (tabF m.c.H fun g => .bool (liveF ⟨ok, op, os, oa, on, ob⟩ m.bs g))] ∧ z ≤ n, fun vs L => match vs with | [_, _, _, _, _, _, _, _, _, .int _ i] => at' + n - i.toNat | _ => 0, [], [0,1,2,3,4], rfl, ⟨0, rfl, rfl, by omega⟩, ?_⟩)
                      rintro vs L ⟨z, rfl, rfl, hz⟩
                      by_cases hzn : z < n
                      · have hcell : (tabF m.c.H fun g => AV.bool (liveF ⟨ok, op, os, oa, on, ob⟩ m.bs g))[((at' + z : Nat) : Int).toNat]? = some (.bool (liveF ⟨ok, op, os, oa, on, ob⟩ m.bs (at' + z))) := by
                          rw [Int.toNat_natCast]; exact tabF_get (by omega)
                        have hss : someF (liveF ⟨ok, op, os, oa, on, ob⟩ m.bs) at' (z + 1) = or (someF (liveF ⟨ok, op, os, oa, on, ob⟩ m.bs) at' z) (liveF ⟨ok, op, os, oa, on, ob⟩ m.bs (at' + z)) := rfl
                        (refine gw ?_; refine IfB.tt (by simp; omega) ?_)
                        cases hs0 : someF (liveF ⟨ok, op, os, oa, on, ob⟩ m.bs) at' z with
                        | true =>
                          rw [hs0, Bool.true_or] at hss
                          (refine gw ?_; refine ⟨[], [0,1,2,3,4], rfl, ⟨z + 1, by rw [hss]; rfl, rfl, hzn⟩, (by omega : at' + n - (((at' + z : Nat) : Int) + 1).toNat < at' + n - ((at' + z : Nat) : Int).toNat)⟩)
                        | false =>
                          rw [hs0, Bool.false_or] at hss
                          (refine gw ?_)
                          refine InB.mk (by omega) (by rw [hwl]; omega) ?_
                          (refine gw ?_)
                          refine At.mk ⟨_, hcell, ?_⟩
                          (refine gw ?_; refine ⟨[], [0,1,2,3,4], rfl, ⟨z + 1, by rw [hss]; rfl, rfl, hzn⟩, (by omega : at' + n - (((at' + z : Nat) : Int) + 1).toNat < at' + n - ((at' + z : Nat) : Int).toNat)⟩)
                      · have ez : z = n := by omega
                        subst ez
                        rw [hsy]
                        by_cases hij2 : i < jj
                        · rw [hfi hij2]
                          have := hlt' hij2
                          (refine gw ?_; refine IfB.ff (by simp; omega) ?_)
                          (refine gw ?_; refine ⟨[], [0,1,2,3,4], rfl, ⟨i + 1, by rw [hsn]; rfl, rfl, by omega⟩, (by omega : (yy + z).toNat + 1 - ((at' : Int) + (z : Int)).toNat < (yy + z).toNat + 1 - (at' : Int).toNat)⟩)
                        · have e2 : i = jj := by omega
                          have hya : yy = ((at' : Nat) : Int) := by rw [hjj, ← e2, hat]
                          have hfre' : freeAt l z ((at' : Nat) : Int) = true := by rw [← hya]; exact hfre
                          rw [hfre']
                          (refine gw ?_; refine IfB.ff (by simp; omega) ?_)
                          (refine gw ?_; refine ⟨[], [0,1,2,3,4], rfl, ⟨i + 1, by rw [hsn]; rfl, rfl, by omega⟩, (by omega : (yy + z).toNat + 1 - ((at' : Int) + (z : Int)).toNat < (yy + z).toNat + 1 - (at' : Int).toNat)⟩)
                    · have h1 := hmn (jj + 1) i (by omega)
                      (refine gw ?_; refine IfB.ff (by simp; omega) ?_)
                      (refine gw ?_; refine ⟨[], [0,1], rfl, ⟨k + 1, q', m', rfl, rfl, hk4, t2, hm'⟩, (by omega : 40 - ((k : Int) + 1).toNat < 40 - (k : Int).toNat)⟩)
          · (refine gw ?_; refine IfB.ff (by simp; omega) ?_)
            (refine gw ?_; refine IfB.ff (by simp; omega) ?_)
            (refine gw ?_; refine IfB.ff (by simp; omega) ?_)
            (refine gw ?_; refine IfB.ff (by simp; omega) ?_)
            (refine gw ?_; refine ⟨[], [0,1], rfl, ⟨k + 1, q', m', rfl, rfl, hk4, t2, hm'⟩, (by omega : 40 - ((k : Int) + 1).toNat < 40 - (k : Int).toNat)⟩)
        · (refine gw ?_; refine IfB.ff (by simpa using h0) ?_)
          (refine gw ?_; refine ⟨[], [0,1], rfl, ⟨k + 1, q', m', rfl, rfl, hk4, t2, hm'⟩, (by omega : 40 - ((k : Int) + 1).toNat < 40 - (k : Int).toNat)⟩)
    · (refine gw ?_; refine IfB.ff (by simp; omega) ?_)
      (refine gw ?_; exact RetN.mk ⟨[], rfl, rfl, rfl⟩)
  · (refine gw ?_; refine IfB.tt (by simpa using he) ?_)
    (refine gw ?_; exact RetN.mk ⟨[], rfl, rfl, rfl⟩)
theorem plainLowest {x0 x1 : AV} (h0 : Shp T 8 ts_uint8 x0) (h1 : Shp T 8 ts_uint8 x1) : Told P T law17_PlainLowest [] [x0, x1] (.bool true) [] := by
  obtain ⟨a, rfl, ha, hla⟩ := shp_bytes h0
  obtain ⟨b, rfl, hb, hlb⟩ := shp_bytes h1
  exact plainLowest_law ha hla hb hlb
end Go.Ev.W
