/- Words and lemmas, part 3, for laws of this seat (a part of their proofs). -/
import Derived.Test.YtbhjocgepgpnmaaGreatC2
set_option linter.unusedVariables false
set_option linter.unusedSimpArgs false
namespace Go.Ev.W
open Go.Ev Go.Ev.N

theorem wrong17_told (m : Mo) (e : Nat) : Told P T ref17_wrong [] [eM m, i64 e] (.tup [eM m, eA (anE e)]) [] := by
  refine told_of_ev (fn := ref17_wrong_fn) tabOk mixed (by kernel_rfl) (by kernel_rfl) (by kernel_rfl) (by kernel_rfl) ?_
  (refine gw ?_; exact RetN.mk ⟨[], rfl, rfl, rfl⟩)

def zAt (mem : List Nat) (a n j : Nat) : Nat := if a ≤ j ∧ j < a + n then 0 else mem.getD j 0
set_option maxHeartbeats 4000000 in
theorem zero8_told {mem : List Nat} (hl : mem.length ≤ 65536) {a n : Nat} (h : a + n ≤ mem.length) : Told P T ref8_Zero [] [lU mem, i64 a, i64 n] (.tup [lU (zeroF mem a n), .bool true]) [] := by
  obtain ⟨D, hD⟩ : ∃ D, mem.length = D := ⟨_, rfl⟩
  have hmu : (mem.map u8).length = D := by simp [hD]
  have hml : (mem.map u8).length = mem.length := by simp
  refine told_of_ev (fn := ref8_Zero_fn) tabOk mixed (by kernel_rfl) (by kernel_rfl) (by kernel_rfl) (by kernel_rfl) ?_
  (refine gw ?_; refine Choice.mk ⟨false, Choice.mk ⟨true, _, _, there8_told hl h, ?_⟩⟩)
  (refine gw ?_; refine Room.mk (by first | omega | (simp; omega) | (simp <;> fail)) ?_)
  (refine gw ?_; refine LoopN.mk ⟨[1,2,8,9], fun vs L => ∃ k : Nat, vs = [i64 a, i64 n, .ref 0, i64 k] ∧ L = [.row t_uint8 (tabF D fun j => u8 (zAt mem a k j))] ∧ k ≤ n, fun vs L => match vs with | [_, _, _, .int _ i] => n - i.toNat | _ => 0, [], [2], rfl, ⟨0, rfl, ?_, by omega⟩, ?_⟩)
  · show [Blk.row t_uint8 (mem.map u8)] = _
    rw [lU_tab, hD]
    exact congrArg (fun z => [Blk.row t_uint8 z]) (tabF_congr fun k _ => by unfold zAt; rw [if_neg (by omega)])
  rintro vs L ⟨k, rfl, rfl, hk⟩
  have hb := tabF_len D (fun j => u8 (zAt mem a k j))
  (refine gw ?_; first | refine IfB.dec (fun g1 => ?_) (fun g1 => ?_) | refine IfB.eq (fun g1 => ?_) (fun g1 => ?_) | refine IfB.ne (fun g1 => ?_) (fun g1 => ?_) | refine IfB.mk (fun g1 => ?_) (fun g1 => ?_))
  · have hset : (tabF D fun j => u8 (zAt mem a k j)).set ((a : Nat) + (k : Nat) : Int).toNat (u8 0) = tabF D fun j => u8 (zAt mem a (k + 1) j) := by
      rw [show ((a : Nat) + (k : Nat) : Int).toNat = a + k by omega]
      refine tabF_set (by omega) fun j hj => ?_
      unfold zAt
      by_cases e : j = a + k
      · rw [if_pos e, if_pos (by omega)]
      · rw [if_neg e]
        by_cases e2 : a ≤ j ∧ j < a + k
        · rw [if_pos e2, if_pos (by omega)]
        · rw [if_neg e2, if_neg (by omega)]
    (refine gw ?_; refine ⟨[], [0], rfl, ⟨k + 1, rfl, by rw [← hset]; rfl, by omega⟩, (by omega : n - ((k : Int) + 1).toNat < n - (k : Int).toNat)⟩)
  · have e : k = n := by omega
    subst e
    have f1 : (tabF D fun j => u8 (zAt mem a k j)) = (zeroF mem a k).map u8 := by
      unfold zeroF; rw [hD, ← tabF_of]; rfl
    rw [f1]
    (refine gw ?_; exact RetN.fz ⟨[true, true], [], rfl, rfl, rfl⟩)

set_option maxRecDepth 20000 in
set_option maxHeartbeats 8000000 in
theorem give17_told {m : Mo} (hm : MoOk m) {o : X.O} (ho : OpOk o) : Told P T ref17_give [] [eM m, X.encO o] (.tup [eM (giveF m o).1, eA (giveF m o).2]) [] := by
  have hH := hm.c.h2
  have hNM := hm.c.nM
  have hMH : m.c.M ≤ m.c.H := by have := hm.c.h; omega
  have htb := totalB_nonneg hm.a
  have hlive : 0 ≤ m.live ∧ m.live ≤ 65536 := by have := hm.l; have := hm.lM; omega
  have hnr := ho.n
  have hsr := ho.s
  have har := ho.a
  have hpl : ∀ ch, (∃ k, k ≤ m.c.L ∧ ch = m.c.G * 2 ^ k) → 1 ≤ ch ∧ ch ≤ m.c.N := fun ch ⟨k, h1, h2⟩ => by
    rw [h2, hm.c.n]
    exact ⟨Nat.mul_pos hm.c.gpos (Nat.two_pow_pos _), Nat.mul_le_mul_left _ (Nat.pow_le_pow_right (by omega) h1)⟩
  unfold giveF
  simp only []
  refine told_of_ev (fn := ref17_give_fn) tabOk mixed (by kernel_rfl) (by kernel_rfl) (by kernel_rfl) (by kernel_rfl) ?_
  by_cases hk : o.k = 2
  · simp only [if_pos hk]
    (refine gw ?_; refine IfB.ff (by simp [hk]) ?_)
    have c0 := refNew_told hm.c m.live o.s 1 (by omega) (by omega)
    (refine gw ?_; refine Choice.mk ⟨false, Choice.mk ⟨true, _, _, c0, ?_⟩⟩)
    (refine gw ?_; refine IfB.tt (by simp [hk]) ?_)
    have c1 := refMany_told hm.c m.live o.n o.s (by omega) (by omega) (by omega)
    have n1 := manyF_ok hm.c (live := m.live) (n := o.n) (s := o.s)
    obtain ⟨C, hC⟩ : ∃ C, manyF m.c m.live o.n o.s = C := ⟨_, rfl⟩
    rw [hC] at c1 n1 ⊢
    obtain ⟨ch, e⟩ := C
    (refine gw ?_; refine Choice.mk ⟨false, Choice.mk ⟨true, _, _, c1, ?_⟩⟩)
    by_cases he0 : e = 0
    · have hq := n1 he0
      have hq1 := hq.2.1
      have hq4 := hq.2.2.2.2
      have hNb : m.c.N ≤ 65536 := by omega
      subst he0
      obtain ⟨hch, hq1, hq2, hq3, hq4⟩ := n1 rfl
      obtain ⟨hc1, hc2⟩ := hpl ch hch
      have c2 := place17_told hm hm.a hc1 hc2 (q := (o.n * o.s))
      have n2 := placeF_ok hm hm.a hm.z hch ⟨hq1, hq2⟩ (by rw [← hm.l]; exact hq3) hm.k.1
      obtain ⟨C2, hC2⟩ : ∃ C2, placeF m m.bs ch (o.n * o.s) = C2 := ⟨_, rfl⟩
      rw [hC2] at c2 n2
      simp only [ne_eq, not_true_eq_false, if_false]
      rw [hC2]
      obtain ⟨m2, y2, e2⟩ := C2
      (refine gw ?_; refine Choice.mk ⟨false, Choice.mk ⟨false, _, _, c2, ?_⟩⟩)
      by_cases he2 : e2 = 0
      · subst he2
        have n3 : Put m m.bs ch ((o.n * o.s)) m2 y2 := n2 rfl
        simp only [ne_eq, not_true_eq_false, if_false]
        (refine gw ?_; refine IfB.tt (by simp [hk]) ?_)
        have hy := n3.y0
        have hy2 := n3.yH
        have hml := n3.ml
        have hmm := hm.mm
        have c4 := zero8_told (mem := m2.mem) (by omega) (a := y2.toNat) (n := ch) (by omega)
        rw [Int.toNat_of_nonneg hy] at c4
        (refine gw ?_; refine Choice.mk ⟨false, Choice.mk ⟨false, _, _, c4, ?_⟩⟩)
        (refine gw ?_; exact RetN.mk ⟨[], rfl, rfl, rfl⟩)
      · have he2' : ¬ ((e2 : Nat) : Int) = 0 := by omega
        simp only [ne_eq, he2, not_false_eq_true, if_true]
        (refine gw ?_; refine IfB.tt (by simpa using he2) ?_)
        (refine gw ?_; refine Choice.mk ⟨false, Choice.mk ⟨false, _, _, wrong17_told m e2, ?_⟩⟩)
        (refine gw ?_; exact RetN.mk ⟨[], rfl, rfl, rfl⟩)
    · (refine gw ?_)
      refine ⟨?_⟩
      simp only [ne_eq, he0, not_false_eq_true, if_true]
      (refine gw ?_; refine IfB.tt (by simpa using he0) ?_)
      (refine gw ?_; refine Choice.mk ⟨false, Choice.mk ⟨false, _, _, wrong17_told m e, ?_⟩⟩)
      (refine gw ?_; exact RetN.mk ⟨[], rfl, rfl, rfl⟩)
  · simp only [if_neg hk]
    by_cases hk3 : o.k = 3
    · simp only [if_pos hk3]
      (refine gw ?_; refine IfB.tt (by simp [hk3]) ?_)
      have c1 := refNew_told hm.c m.live o.s o.a (by omega) (by omega)
      have n1 := newF_ok hm.c (live := m.live) (s := o.s) (a := o.a)
      obtain ⟨C, hC⟩ : ∃ C, newF m.c m.live o.s o.a = C := ⟨_, rfl⟩
      rw [hC] at c1 n1 ⊢
      obtain ⟨ch, e⟩ := C
      (refine gw ?_; refine Choice.mk ⟨false, Choice.mk ⟨true, _, _, c1, ?_⟩⟩)
      (refine gw ?_; refine IfB.ff (by simp [hk]) ?_)
      by_cases he : e = 0
      · subst he
        obtain ⟨hch, hq1, hq2, hq3⟩ := n1 rfl
        obtain ⟨hc1, hc2⟩ := hpl ch hch
        have c2 := place17_told hm hm.a hc1 hc2 (q := o.s)
        have n2 := placeF_ok hm hm.a hm.z hch ⟨hq1, hq2⟩ (by rw [← hm.l]; exact hq3) hm.k.1
        obtain ⟨C2, hC2⟩ : ∃ C2, placeF m m.bs ch o.s = C2 := ⟨_, rfl⟩
        rw [hC2] at c2 n2
        simp only [ne_eq, not_true_eq_false, if_false]
        rw [hC2]
        obtain ⟨m2, y2, e2⟩ := C2
        (refine gw ?_; refine Choice.mk ⟨false, Choice.mk ⟨false, _, _, c2, ?_⟩⟩)
        by_cases he2 : e2 = 0
        · subst he2
          have n3 : Put m m.bs ch (o.s) m2 y2 := n2 rfl
          simp only [ne_eq, not_true_eq_false, if_false]
          (refine gw ?_; refine IfB.ff (by simp [hk]) ?_)
          (refine gw ?_; exact RetN.mk ⟨[], rfl, rfl, rfl⟩)
        · have he2' : ¬ ((e2 : Nat) : Int) = 0 := by omega
          simp only [ne_eq, he2, not_false_eq_true, if_true]
          (refine gw ?_; refine IfB.tt (by simpa using he2) ?_)
          (refine gw ?_; refine Choice.mk ⟨false, Choice.mk ⟨false, _, _, wrong17_told m e2, ?_⟩⟩)
          (refine gw ?_; exact RetN.mk ⟨[], rfl, rfl, rfl⟩)
      · simp only [ne_eq, he, not_false_eq_true, if_true]
        (refine gw ?_; refine IfB.tt (by simpa using he) ?_)
        (refine gw ?_; refine Choice.mk ⟨false, Choice.mk ⟨false, _, _, wrong17_told m e, ?_⟩⟩)
        (refine gw ?_; exact RetN.mk ⟨[], rfl, rfl, rfl⟩)
    · simp only [if_neg hk3]
      (refine gw ?_; refine IfB.ff (by simp [hk3]) ?_)
      have c1 := refNew_told hm.c m.live o.s 1 (by omega) (by omega)
      have n1 := newF_ok hm.c (live := m.live) (s := o.s) (a := 1)
      obtain ⟨C, hC⟩ : ∃ C, newF m.c m.live o.s 1 = C := ⟨_, rfl⟩
      rw [hC] at c1 n1 ⊢
      obtain ⟨ch, e⟩ := C
      (refine gw ?_; refine Choice.mk ⟨false, Choice.mk ⟨true, _, _, c1, ?_⟩⟩)
      (refine gw ?_; refine IfB.ff (by simp [hk]) ?_)
      by_cases he : e = 0
      · subst he
        obtain ⟨hch, hq1, hq2, hq3⟩ := n1 rfl
        obtain ⟨hc1, hc2⟩ := hpl ch hch
        have c2 := place17_told hm hm.a hc1 hc2 (q := o.s)
        have n2 := placeF_ok hm hm.a hm.z hch ⟨hq1, hq2⟩ (by rw [← hm.l]; exact hq3) hm.k.1
        obtain ⟨C2, hC2⟩ : ∃ C2, placeF m m.bs ch o.s = C2 := ⟨_, rfl⟩
        rw [hC2] at c2 n2
        simp only [ne_eq, not_true_eq_false, if_false]
        rw [hC2]
        obtain ⟨m2, y2, e2⟩ := C2
        (refine gw ?_; refine Choice.mk ⟨false, Choice.mk ⟨false, _, _, c2, ?_⟩⟩)
        by_cases he2 : e2 = 0
        · subst he2
          have n3 : Put m m.bs ch (o.s) m2 y2 := n2 rfl
          simp only [ne_eq, not_true_eq_false, if_false]
          (refine gw ?_; refine IfB.ff (by simp [hk]) ?_)
          (refine gw ?_; exact RetN.mk ⟨[], rfl, rfl, rfl⟩)
        · have he2' : ¬ ((e2 : Nat) : Int) = 0 := by omega
          simp only [ne_eq, he2, not_false_eq_true, if_true]
          (refine gw ?_; refine IfB.tt (by simpa using he2) ?_)
          (refine gw ?_; refine Choice.mk ⟨false, Choice.mk ⟨false, _, _, wrong17_told m e2, ?_⟩⟩)
          (refine gw ?_; exact RetN.mk ⟨[], rfl, rfl, rfl⟩)
      · simp only [ne_eq, he, not_false_eq_true, if_true]
        (refine gw ?_; refine IfB.tt (by simpa using he) ?_)
        (refine gw ?_; refine Choice.mk ⟨false, Choice.mk ⟨false, _, _, wrong17_told m e, ?_⟩⟩)
        (refine gw ?_; exact RetN.mk ⟨[], rfl, rfl, rfl⟩)
end Go.Ev.W
namespace Go.Ev.W
open Go.Ev Go.Ev.N

theorem dropB_sub (l : List Bk) (i : Nat) : (dropB l i).Sublist l := by
  unfold dropB
  have h := List.take_append_drop i l
  conv => rhs; rw [← h]
  refine List.Sublist.append (List.Sublist.refl _) ?_
  rw [show i + 1 = i + 1 by rfl, ← List.drop_drop]
  exact List.drop_sublist _ _
theorem dropB_tot {l : List Bk} {i : Nat} (h : i < l.length) : totalB (dropB l i) = totalB l - l[i].c := by
  have e : l = l.take i ++ (l[i] :: l.drop (i + 1)) := by rw [← List.drop_eq_getElem_cons h, List.take_append_drop]
  have e2 : totalB l = totalB (l.take i ++ (l[i] :: l.drop (i + 1))) := by rw [← e]
  rw [e2]
  unfold dropB totalB
  simp only [List.map_append, List.sum_append, List.map_cons, List.sum_cons]
  omega
set_option maxRecDepth 20000 in
set_option maxHeartbeats 8000000 in
theorem of17_told {m : Mo} (hm : MoOk m) {o : X.O} (ho : OpOk o) {i : Nat} (hi : i < m.bs.length) (hk : o.k = 4 ∨ o.k = 5 ∨ o.k = 6 ∨ o.k = 7 ∨ o.k = 8) : Told P T ref17_of [] [eM m, X.encO o, i64 i] (.tup [eM (ofB m o i).1, eA (ofB m o i).2]) [] := by
  have hH := hm.c.h2
  have hNM := hm.c.nM
  have hMH : m.c.M ≤ m.c.H := by have := hm.c.h; omega
  have htb := totalB_nonneg hm.a
  have hlen := hm.a.len
  have hlive : 0 ≤ m.live ∧ m.live ≤ 65536 := by have := hm.l; have := hm.lM; omega
  have hml : (m.bs.map eB).length = m.bs.length := by simp
  have hmu : (m.mem.map u8).length = m.c.H := by rw [List.length_map]; exact hm.mm
  have hmm := hm.mm
  have hnr := ho.n
  have hsr := ho.s
  have hb := hm.a.b _ (List.getElem_mem hi)
  have hpl : ∀ ch, (∃ k, k ≤ m.c.L ∧ ch = m.c.G * 2 ^ k) → 1 ≤ ch ∧ ch ≤ m.c.N := fun ch ⟨k, h1, h2⟩ => by
    rw [h2, hm.c.n]
    exact ⟨Nat.mul_pos hm.c.gpos (Nat.two_pow_pos _), Nat.mul_le_mul_left _ (Nat.pow_le_pow_right (by omega) h1)⟩
  have hdt := dropB_tot hi
  have hds := dropB_sub m.bs i
  have hg : m.bs.getD i bk0 = m.bs[i] := by simp [List.getD_eq_getElem?_getD, hi]
  unfold ofB
  simp only []
  rw [hg]
  have hdm : (dropB m.bs i).map eB = (m.bs.map eB).take i ++ (m.bs.map eB).drop (i + 1) := by unfold dropB; rw [List.map_append, List.map_take, List.map_drop]
  refine told_of_ev (fn := ref17_of_fn) tabOk mixed (by kernel_rfl) (by kernel_rfl) (by kernel_rfl) (by kernel_rfl) ?_
  (refine gw ?_; refine idx_map (hi) ?_)
  (refine gw ?_; refine Cut.mk (by first | omega | (simp; omega) | (simp <;> fail)) (by first | omega | (simp; omega) | (simp <;> fail)) (by first | omega | (simp; omega) | (simp <;> fail)) ?_)
  (refine gw ?_; refine Room.mk (by first | omega | (simp; omega) | (simp <;> fail)) ?_)
  (refine gw ?_; refine Cut.mk (by first | omega | (simp; omega) | (simp <;> fail)) (by first | omega | (simp; omega) | (simp <;> fail)) (by first | omega | (simp; omega) | (simp <;> fail)) ?_)
  (refine gw ?_; refine Room.mk (by first | omega | (simp; omega) | (simp <;> fail)) ?_)
  have hbad : ¬ (o.n < 0 ∨ o.n ≥ m.bs[i].c) → ∃ j : Nat, m.bs[i].a + o.n = ((j : Nat) : Int) ∧ j < m.mem.length := fun h => ⟨(m.bs[i].a + o.n).toNat, by omega, by rw [hm.mm]; omega⟩
  rcases hk with hk | hk | hk | hk | hk
  · rw [if_pos hk]
    (refine gw ?_; refine IfB.tt (by simp [hk]) ?_)
    have hl1 : -1000000 ≤ m.live ∧ m.live ≤ 1000000 := by omega
    have hl2 : -1000000 ≤ m.bs[i].c ∧ m.bs[i].c ≤ 1000000 := by omega
    have c1 := refAnew_told hm.c m.live m.bs[i].c o.s hl1 hl2
    have n1 := newF_ok hm.c (live := m.live - m.bs[i].c) (s := o.s) (a := 1)
    obtain ⟨C, hC⟩ : ∃ C, newF m.c (m.live - m.bs[i].c) o.s 1 = C := ⟨_, rfl⟩
    rw [hC] at c1 n1 ⊢
    obtain ⟨ch, e⟩ := C
    (refine gw ?_; refine Choice.mk ⟨false, Choice.mk ⟨true, _, _, c1, ?_⟩⟩)
    by_cases he : e = 0
    · subst he
      obtain ⟨hch, hq1, hq2, hq3⟩ := n1 rfl
      obtain ⟨hc1, hc2⟩ := hpl ch hch
      have had := hm.a.sub hds
      have c2 := place17_told hm had hc1 hc2 (q := o.s)
      rw [show lK (dropB m.bs i) = .lst t_api_Block ((m.bs.map eB).take i ++ (m.bs.map eB).drop (i + 1)) by unfold lK; rw [hdm]] at c2
      have n2 := placeF_ok hm had (fun x hx => hm.z x (hds.subset hx)) hch ⟨hq1, hq2⟩ (by rw [hdt, ← hm.l]; exact hq3) (fun x hx => hm.k.1 x (hds.subset hx))
      obtain ⟨C2, hC2⟩ : ∃ C2, placeF m (dropB m.bs i) ch o.s = C2 := ⟨_, rfl⟩
      rw [hC2] at c2 n2
      simp only [ne_eq, not_true_eq_false, if_false]
      rw [hC2]
      obtain ⟨m2, y2, e2⟩ := C2
      (refine gw ?_; refine Choice.mk ⟨false, Choice.mk ⟨false, _, _, c2, ?_⟩⟩)
      by_cases he2 : e2 = 0
      · subst he2
        have n3 : Put m (dropB m.bs i) ch o.s m2 y2 := n2 rfl
        simp only [ne_eq, not_true_eq_false, if_false]
        have hy := n3.y0
        have hy2 := n3.yH
        have hml2 := n3.ml
        have hu2 : (m2.mem.map u8).length = m.c.H := by rw [List.length_map]; omega
        have emin : ∀ a b : Int, min a b = if b < a then b else a := fun a b => by split <;> omega
        obtain ⟨y, rfl⟩ : ∃ y : Nat, y2 = ((y : Nat) : Int) := ⟨y2.toNat, by omega⟩
        rw [emin]
        obtain ⟨N, hN, hN1, hN2⟩ : ∃ N : Nat, (if m.bs[i].c < (ch : Int) then m.bs[i].c else (ch : Int)) = ((N : Nat) : Int) ∧ N ≤ ch ∧ ((N : Nat) : Int) ≤ m.bs[i].c := ⟨(if m.bs[i].c < (ch : Int) then m.bs[i].c else (ch : Int)).toNat, by split <;> omega, by split <;> omega, by split <;> omega⟩
        rw [hN]
        (refine gw ?_; refine Cut.mk (by first | omega | (simp; omega) | (simp <;> fail)) (by first | omega | (simp; omega) | (simp <;> fail)) (by first | omega | (simp; omega) | (simp <;> fail)) ?_)
        (refine gw ?_; refine Room.mk (by first | omega | (simp; omega) | (simp <;> fail)) ?_)
        (refine gw ?_)
        rw [hN]
        (refine gw ?_; refine Cut.mk (by first | omega | (simp; omega) | (simp <;> fail)) (by first | omega | (simp; omega) | (simp <;> fail)) (by first | omega | (simp; omega) | (simp <;> fail)) ?_)
        (refine gw ?_; refine Room.mk (by first | omega | (simp; omega) | (simp <;> fail)) ?_)
        (refine gw ?_; refine Cut.mk (by first | omega | (simp; omega) | (simp <;> fail)) (by first | omega | (simp; omega) | (simp <;> fail)) (by first | omega | (simp; omega) | (simp <;> fail)) ?_)
        (refine gw ?_; refine Room.mk (by first | omega | (simp; omega) | (simp <;> fail)) ?_)
        have hse : lU (m2.mem.take ((y : Nat) : Int).toNat ++ (m.mem.take (m.bs[i].a + ((N : Nat) : Int)).toNat).drop m.bs[i].a.toNat ++ m2.mem.drop (((y : Nat) : Int) + ((N : Nat) : Int)).toNat) = .lst t_uint8 ([] ++ (m2.mem.map u8).take ((y : Nat) : Int).toNat ++ ((m.mem.map u8).take (m.bs[i].a + ((N : Nat) : Int)).toNat).drop m.bs[i].a.toNat ++ (m2.mem.map u8).drop (((y : Nat) : Int) + ((N : Nat) : Int)).toNat) := by
          unfold lU
          simp only [List.map_append, List.map_take, List.map_drop, List.nil_append]
        have hE : eM { m2 with mem := m2.mem.take ((y : Nat) : Int).toNat ++ (m.mem.take (m.bs[i].a + ((N : Nat) : Int)).toNat).drop m.bs[i].a.toNat ++ m2.mem.drop (((y : Nat) : Int) + ((N : Nat) : Int)).toNat } = .agg [i64 m2.c.G, i64 m2.c.N, i64 m2.c.M, i64 m2.c.L, i64 m2.c.Pg, i64 m2.c.P, i64 m2.c.H, i64 m2.c.Sd, lK m2.bs, i64 m2.live, i64 m2.peak, i64 m2.mark, lT m2.on, .lst t_uint8 ([] ++ (m2.mem.map u8).take ((y : Nat) : Int).toNat ++ ((m.mem.map u8).take (m.bs[i].a + ((N : Nat) : Int)).toNat).drop m.bs[i].a.toNat ++ (m2.mem.map u8).drop (((y : Nat) : Int) + ((N : Nat) : Int)).toNat)] := by rw [← hse]; rfl
        (refine gw ?_; refine RetN.fz ⟨[true, true], [], rfl, ?_, rfl⟩)
        refine Eq.trans ?_ (congrArg (fun z => AV.tup [z, eA { an0 with at' := ((y : Nat) : Int) }]) hE.symm)
        rfl
      · have he2' : ¬ ((e2 : Nat) : Int) = 0 := by omega
        simp only [ne_eq, he2, not_false_eq_true, if_true]
        (refine gw ?_; refine IfB.tt (by simpa using he2) ?_)
        (refine gw ?_; refine Choice.mk ⟨false, Choice.mk ⟨false, _, _, wrong17_told m e2, ?_⟩⟩)
        (refine gw ?_; exact RetN.mk ⟨[], rfl, rfl, rfl⟩)
    · simp only [ne_eq, he, not_false_eq_true, if_true]
      (refine gw ?_; refine IfB.tt (by simpa using he) ?_)
      (refine gw ?_; refine Choice.mk ⟨false, Choice.mk ⟨false, _, _, wrong17_told m e, ?_⟩⟩)
      (refine gw ?_; exact RetN.mk ⟨[], rfl, rfl, rfl⟩)
  · rw [if_neg (by omega), if_pos hk]
    (refine gw ?_; refine IfB.ff (by simp [hk]) ?_)
    (refine gw ?_; refine IfB.tt (by simp [hk]) ?_)
    (refine gw ?_; refine RetN.fz ⟨[true, true], [], rfl, ?_, rfl⟩)
    unfold eM
    simp only []
    rw [show lK (dropB m.bs i) = .lst t_api_Block ((m.bs.map eB).take i ++ (m.bs.map eB).drop (i + 1)) by unfold lK; rw [hdm]]
    rfl
  · rw [if_neg (by omega), if_neg (by omega), if_pos hk]
    (refine gw ?_; refine IfB.ff (by simp [hk]) ?_)
    (refine gw ?_; refine IfB.ff (by simp [hk]) ?_)
    (refine gw ?_; refine IfB.tt (by simp [hk]) ?_)
    (refine gw ?_; exact RetN.mk ⟨[], rfl, rfl, rfl⟩)
  · rw [if_neg (by omega), if_neg (by omega), if_neg (by omega)]
    (refine gw ?_; refine IfB.ff (by simp [hk]) ?_)
    (refine gw ?_; refine IfB.ff (by simp [hk]) ?_)
    (refine gw ?_; refine IfB.ff (by simp [hk]) ?_)
    by_cases hr : o.n < 0 ∨ o.n ≥ m.bs[i].c
    · rw [if_pos hr]
      (refine gw ?_; first | refine IfB.dec (fun g1 => ?_) (fun g1 => ?_) | refine IfB.eq (fun g1 => ?_) (fun g1 => ?_) | refine IfB.ne (fun g1 => ?_) (fun g1 => ?_) | refine IfB.mk (fun g1 => ?_) (fun g1 => ?_))
      · (refine gw ?_; refine Choice.mk ⟨false, Choice.mk ⟨false, _, _, wrong17_told m 9, ?_⟩⟩)
        (refine gw ?_; exact RetN.mk ⟨[], rfl, rfl, rfl⟩)
      · (refine gw ?_; refine IfB.tt (by simp; omega) ?_)
        (refine gw ?_; refine Choice.mk ⟨false, Choice.mk ⟨false, _, _, wrong17_told m 9, ?_⟩⟩)
        (refine gw ?_; exact RetN.mk ⟨[], rfl, rfl, rfl⟩)
    · rw [if_neg hr, if_pos hk]
      (refine gw ?_; refine IfB.ff (by simp; omega) ?_)
      (refine gw ?_; refine IfB.ff (by simp; omega) ?_)
      (refine gw ?_; refine IfB.tt (by simp [hk]) ?_)
      obtain ⟨j, hj1, hj2⟩ := hbad hr
      have hgj : m.mem.getD ((j : Nat) : Int).toNat 0 = m.mem[j] := by simp [List.getD_eq_getElem?_getD, hj2]
      rw [hj1, hgj]
      (refine gw ?_)
      rw [hj1]
      (refine gw ?_; refine idx_map (hj2) ?_)
      (refine gw ?_; exact RetN.mk ⟨[], rfl, rfl, rfl⟩)
  · rw [if_neg (by omega), if_neg (by omega), if_neg (by omega)]
    (refine gw ?_; refine IfB.ff (by simp [hk]) ?_)
    (refine gw ?_; refine IfB.ff (by simp [hk]) ?_)
    (refine gw ?_; refine IfB.ff (by simp [hk]) ?_)
    by_cases hr : o.n < 0 ∨ o.n ≥ m.bs[i].c
    · rw [if_pos hr]
      (refine gw ?_; first | refine IfB.dec (fun g1 => ?_) (fun g1 => ?_) | refine IfB.eq (fun g1 => ?_) (fun g1 => ?_) | refine IfB.ne (fun g1 => ?_) (fun g1 => ?_) | refine IfB.mk (fun g1 => ?_) (fun g1 => ?_))
      · (refine gw ?_; refine Choice.mk ⟨false, Choice.mk ⟨false, _, _, wrong17_told m 9, ?_⟩⟩)
        (refine gw ?_; exact RetN.mk ⟨[], rfl, rfl, rfl⟩)
      · (refine gw ?_; refine IfB.tt (by simp; omega) ?_)
        (refine gw ?_; refine Choice.mk ⟨false, Choice.mk ⟨false, _, _, wrong17_told m 9, ?_⟩⟩)
        (refine gw ?_; exact RetN.mk ⟨[], rfl, rfl, rfl⟩)
    · rw [if_neg hr, if_neg (by omega)]
      (refine gw ?_; refine IfB.ff (by simp; omega) ?_)
      (refine gw ?_; refine IfB.ff (by simp; omega) ?_)
      (refine gw ?_; refine IfB.ff (by simp [hk]) ?_)
      obtain ⟨j, hj1, hj2⟩ := hbad hr
      have hmr : (m.mem.map u8).length ≤ 65536 := by omega
      (refine gw ?_; refine Room.mk (by first | omega | (simp; omega) | (simp <;> fail)) ?_)
      (refine gw ?_)
      rw [hj1]
      (refine gw ?_; refine InB.mk (by first | omega | (simp; omega) | (simp <;> fail)) (by first | omega | (simp; omega) | (simp <;> fail)) ?_)
      (refine gw ?_; refine RetN.fz ⟨[true, true], [], rfl, ?_, rfl⟩)
      have hbr := ho.b
      have hse : lU (m.mem.set ((j : Nat) : Int).toNat o.b.toNat) = .lst t_uint8 ((m.mem.map u8).set ((j : Nat) : Int).toNat (.int .u8 o.b)) := by
        unfold lU
        rw [List.map_set]
        have : u8 o.b.toNat = .int .u8 o.b := by unfold u8; rw [Int.toNat_of_nonneg hbr.1]
        rw [this]
      have hE : eM { m with mem := m.mem.set ((j : Nat) : Int).toNat o.b.toNat } = .agg [i64 m.c.G, i64 m.c.N, i64 m.c.M, i64 m.c.L, i64 m.c.Pg, i64 m.c.P, i64 m.c.H, i64 m.c.Sd, lK m.bs, i64 m.live, i64 m.peak, i64 m.mark, lT m.on, .lst t_uint8 ((m.mem.map u8).set ((j : Nat) : Int).toNat (.int .u8 o.b))] := by rw [← hse]; rfl
      refine Eq.trans ?_ (congrArg (fun z => AV.tup [z, eA an0]) hE.symm)
      rfl
end Go.Ev.W
namespace Go.Ev.W
open Go.Ev Go.Ev.N

theorem findB_lt {l : List Bk} {y : Int} {i : Nat} (h : findB l y = some i) : ∃ hi : i < l.length, l[i].a = y := by
  unfold findB at h
  rw [List.findIdx?_eq_some_iff_getElem] at h
  obtain ⟨h1, h2, _⟩ := h
  exact ⟨h1, of_decide_eq_true h2⟩
set_option maxRecDepth 20000 in
set_option maxHeartbeats 8000000 in
theorem do17_told {m : Mo} (hm : MoOk m) {o : X.O} (ho : OpOk o) : Told P T ref17_Do [] [eM m, X.encO o] (.tup [eM (doF m o).1, eA (doF m o).2]) [] := by
  have hH := hm.c.h2
  have hlen := hm.a.len
  have hpg := hm.c.pgpos
  have c1 := give17_told hm ho
  have hol : m.on.length ≤ 65536 := by have := hm.o; have := Nat.div_le_self m.c.H m.c.Pg; omega
  have hml : (metF m.c.Pg m.c.H m.bs).length = m.on.length := by rw [hm.o]; simp [metF]
  unfold doF
  refine told_of_ev (fn := ref17_Do_fn) tabOk mixed (by kernel_rfl) (by kernel_rfl) (by kernel_rfl) (by kernel_rfl) ?_
  by_cases h1 : o.k = 1
  · rw [if_pos (.inl h1)]
    (refine gw ?_; refine IfB.tt (by simp [h1]) ?_)
    (refine gw ?_; refine IfB.tt (by simp [h1]) ?_)
    (refine gw ?_; refine Choice.mk ⟨false, Choice.mk ⟨false, _, _, c1, ?_⟩⟩)
    (refine gw ?_; exact RetN.mk ⟨[], rfl, rfl, rfl⟩)
  (refine gw ?_; refine IfB.ff (by simp [h1]) ?_)
  by_cases h3 : o.k = 3
  · rw [if_pos (.inr (.inl h3))]
    (refine gw ?_; refine IfB.tt (by simp [h3]) ?_)
    (refine gw ?_; refine IfB.tt (by simp [h3]) ?_)
    (refine gw ?_; refine Choice.mk ⟨false, Choice.mk ⟨false, _, _, c1, ?_⟩⟩)
    (refine gw ?_; exact RetN.mk ⟨[], rfl, rfl, rfl⟩)
  (refine gw ?_; refine IfB.ff (by simp [h3]) ?_)
  by_cases h2 : o.k = 2
  · rw [if_pos (.inr (.inr h2))]
    (refine gw ?_; refine IfB.tt (by simp [h2]) ?_)
    (refine gw ?_; refine Choice.mk ⟨false, Choice.mk ⟨false, _, _, c1, ?_⟩⟩)
    (refine gw ?_; exact RetN.mk ⟨[], rfl, rfl, rfl⟩)
  (refine gw ?_; refine IfB.ff (by simp [h2]) ?_)
  rw [if_neg (by omega)]
  by_cases h9 : o.k = 9
  · rw [if_pos h9]
    (refine gw ?_; refine IfB.tt (by simp [h9]) ?_)
    (refine gw ?_; refine Choice.mk ⟨false, Choice.mk ⟨false, _, _, met8_told (pg := m.c.Pg) (size := m.c.H) hpg hH (l := m.bs) (by omega) hm.a.b, ?_⟩⟩)
    (refine gw ?_; refine Choice.mk ⟨false, Choice.mk ⟨false, _, _, trim8_told (on := m.on) hml hol, ?_⟩⟩)
    (refine gw ?_; exact RetN.mk ⟨[], rfl, rfl, rfl⟩)
  rw [if_neg h9]
  (refine gw ?_; refine IfB.ff (by simp [h9]) ?_)
  by_cases h10 : o.k = 10
  · rw [if_pos h10]
    (refine gw ?_; refine IfB.tt (by simp [h10]) ?_)
    (refine gw ?_; refine Choice.mk ⟨false, Choice.mk ⟨false, _, _, count8_told m.on (by omega), ?_⟩⟩)
    (refine gw ?_; exact RetN.mk ⟨[], rfl, rfl, rfl⟩)
  rw [if_neg h10]
  (refine gw ?_; refine IfB.ff (by simp [h10]) ?_)
  by_cases hk : o.k = 4 ∨ o.k = 5 ∨ o.k = 6 ∨ o.k = 7 ∨ o.k = 8
  · rw [if_pos hk]
    have c2 := find17_told m.bs (by omega) o.p
    have key : ∀ Q : Prop, (o.k = 4 → Q) → (o.k = 5 → Q) → (o.k = 6 → Q) → (o.k = 7 → Q) → (o.k = 8 → Q) → Q := fun Q a b c d e => by
      rcases hk with h | h | h | h | h
      · exact a h
      · exact b h
      · exact c h
      · exact d h
      · exact e h
    cases hf : findB m.bs o.p with
    | none =>
      rw [hf] at c2
      refine key _ ?_ ?_ ?_ ?_ ?_ <;> intro hx
      · (refine gw ?_; refine IfB.tt (by simp [hx]) ?_)
        (refine gw ?_; refine IfB.tt (by simp [hx]) ?_)
        (refine gw ?_; refine Choice.mk ⟨false, Choice.mk ⟨true, _, _, c2, ?_⟩⟩)
        (refine gw ?_; refine Choice.mk ⟨false, Choice.mk ⟨false, _, _, wrong17_told m 8, ?_⟩⟩)
        (refine gw ?_; exact RetN.mk ⟨[], rfl, rfl, rfl⟩)
      · (refine gw ?_; refine IfB.ff (by simp [hx]) ?_)
        (refine gw ?_; refine IfB.tt (by simp [hx]) ?_)
        (refine gw ?_; refine IfB.tt (by simp [hx]) ?_)
        (refine gw ?_; refine Choice.mk ⟨false, Choice.mk ⟨true, _, _, c2, ?_⟩⟩)
        (refine gw ?_; refine Choice.mk ⟨false, Choice.mk ⟨false, _, _, wrong17_told m 8, ?_⟩⟩)
        (refine gw ?_; exact RetN.mk ⟨[], rfl, rfl, rfl⟩)
      · (refine gw ?_; refine IfB.ff (by simp [hx]) ?_)
        (refine gw ?_; refine IfB.ff (by simp [hx]) ?_)
        (refine gw ?_; refine IfB.tt (by simp [hx]) ?_)
        (refine gw ?_; refine IfB.tt (by simp [hx]) ?_)
        (refine gw ?_; refine Choice.mk ⟨false, Choice.mk ⟨true, _, _, c2, ?_⟩⟩)
        (refine gw ?_; refine Choice.mk ⟨false, Choice.mk ⟨false, _, _, wrong17_told m 8, ?_⟩⟩)
        (refine gw ?_; exact RetN.mk ⟨[], rfl, rfl, rfl⟩)
      · (refine gw ?_; refine IfB.ff (by simp [hx]) ?_)
        (refine gw ?_; refine IfB.ff (by simp [hx]) ?_)
        (refine gw ?_; refine IfB.ff (by simp [hx]) ?_)
        (refine gw ?_; refine IfB.tt (by simp [hx]) ?_)
        (refine gw ?_; refine IfB.tt (by simp [hx]) ?_)
        (refine gw ?_; refine Choice.mk ⟨false, Choice.mk ⟨true, _, _, c2, ?_⟩⟩)
        (refine gw ?_; refine Choice.mk ⟨false, Choice.mk ⟨false, _, _, wrong17_told m 8, ?_⟩⟩)
        (refine gw ?_; exact RetN.mk ⟨[], rfl, rfl, rfl⟩)
      · (refine gw ?_; refine IfB.ff (by simp [hx]) ?_)
        (refine gw ?_; refine IfB.ff (by simp [hx]) ?_)
        (refine gw ?_; refine IfB.ff (by simp [hx]) ?_)
        (refine gw ?_; refine IfB.ff (by simp [hx]) ?_)
        (refine gw ?_; refine IfB.tt (by simp [hx]) ?_)
        (refine gw ?_; refine Choice.mk ⟨false, Choice.mk ⟨true, _, _, c2, ?_⟩⟩)
        (refine gw ?_; refine Choice.mk ⟨false, Choice.mk ⟨false, _, _, wrong17_told m 8, ?_⟩⟩)
        (refine gw ?_; exact RetN.mk ⟨[], rfl, rfl, rfl⟩)
    | some i =>
      rw [hf] at c2
      obtain ⟨hi, _⟩ := findB_lt hf
      have c3 := of17_told hm ho hi hk
      refine key _ ?_ ?_ ?_ ?_ ?_ <;> intro hx
      · (refine gw ?_; refine IfB.tt (by simp [hx]) ?_)
        (refine gw ?_; refine IfB.tt (by simp [hx]) ?_)
        (refine gw ?_; refine Choice.mk ⟨false, Choice.mk ⟨true, _, _, c2, ?_⟩⟩)
        (refine gw ?_; refine Choice.mk ⟨false, Choice.mk ⟨false, _, _, c3, ?_⟩⟩)
        (refine gw ?_; exact RetN.mk ⟨[], rfl, rfl, rfl⟩)
      · (refine gw ?_; refine IfB.ff (by simp [hx]) ?_)
        (refine gw ?_; refine IfB.tt (by simp [hx]) ?_)
        (refine gw ?_; refine IfB.tt (by simp [hx]) ?_)
        (refine gw ?_; refine Choice.mk ⟨false, Choice.mk ⟨true, _, _, c2, ?_⟩⟩)
        (refine gw ?_; refine Choice.mk ⟨false, Choice.mk ⟨false, _, _, c3, ?_⟩⟩)
        (refine gw ?_; exact RetN.mk ⟨[], rfl, rfl, rfl⟩)
      · (refine gw ?_; refine IfB.ff (by simp [hx]) ?_)
        (refine gw ?_; refine IfB.ff (by simp [hx]) ?_)
        (refine gw ?_; refine IfB.tt (by simp [hx]) ?_)
        (refine gw ?_; refine IfB.tt (by simp [hx]) ?_)
        (refine gw ?_; refine Choice.mk ⟨false, Choice.mk ⟨true, _, _, c2, ?_⟩⟩)
        (refine gw ?_; refine Choice.mk ⟨false, Choice.mk ⟨false, _, _, c3, ?_⟩⟩)
        (refine gw ?_; exact RetN.mk ⟨[], rfl, rfl, rfl⟩)
      · (refine gw ?_; refine IfB.ff (by simp [hx]) ?_)
        (refine gw ?_; refine IfB.ff (by simp [hx]) ?_)
        (refine gw ?_; refine IfB.ff (by simp [hx]) ?_)
        (refine gw ?_; refine IfB.tt (by simp [hx]) ?_)
        (refine gw ?_; refine IfB.tt (by simp [hx]) ?_)
        (refine gw ?_; refine Choice.mk ⟨false, Choice.mk ⟨true, _, _, c2, ?_⟩⟩)
        (refine gw ?_; refine Choice.mk ⟨false, Choice.mk ⟨false, _, _, c3, ?_⟩⟩)
        (refine gw ?_; exact RetN.mk ⟨[], rfl, rfl, rfl⟩)
      · (refine gw ?_; refine IfB.ff (by simp [hx]) ?_)
        (refine gw ?_; refine IfB.ff (by simp [hx]) ?_)
        (refine gw ?_; refine IfB.ff (by simp [hx]) ?_)
        (refine gw ?_; refine IfB.ff (by simp [hx]) ?_)
        (refine gw ?_; refine IfB.tt (by simp [hx]) ?_)
        (refine gw ?_; refine Choice.mk ⟨false, Choice.mk ⟨true, _, _, c2, ?_⟩⟩)
        (refine gw ?_; refine Choice.mk ⟨false, Choice.mk ⟨false, _, _, c3, ?_⟩⟩)
        (refine gw ?_; exact RetN.mk ⟨[], rfl, rfl, rfl⟩)
  · rw [if_neg hk]
    (refine gw ?_; refine IfB.ff (by simp; omega) ?_)
    (refine gw ?_; refine IfB.ff (by simp; omega) ?_)
    (refine gw ?_; refine IfB.ff (by simp; omega) ?_)
    (refine gw ?_; refine IfB.ff (by simp; omega) ?_)
    (refine gw ?_; refine IfB.ff (by simp; omega) ?_)
    (refine gw ?_; refine Choice.mk ⟨false, Choice.mk ⟨false, _, _, wrong17_told m 2, ?_⟩⟩)
    (refine gw ?_; exact RetN.mk ⟨[], rfl, rfl, rfl⟩)

theorem giveG_ok {m : Mo} (hm : MoOk m) (ce : Nat × Nat) (q : Int) (f : Mo × Int × Nat → Mo) (hf : ∀ p : Mo × Int × Nat, MoOk p.1 → p.1.c = m.c → MoOk (f p) ∧ (f p).c = m.c) (h : ce.2 = 0 → (∃ k, k ≤ m.c.L ∧ ce.1 = m.c.G * 2 ^ k) ∧ 0 ≤ q ∧ q ≤ ce.1 ∧ m.live + ce.1 ≤ m.c.M) :
    MoOk (if ce.2 ≠ 0 then (m, anE ce.2) else if (placeF m m.bs ce.1 q).2.2 ≠ 0 then (m, anE (placeF m m.bs ce.1 q).2.2) else (f (placeF m m.bs ce.1 q), { an0 with at' := (placeF m m.bs ce.1 q).2.1 })).1 ∧
    (if ce.2 ≠ 0 then (m, anE ce.2) else if (placeF m m.bs ce.1 q).2.2 ≠ 0 then (m, anE (placeF m m.bs ce.1 q).2.2) else (f (placeF m m.bs ce.1 q), { an0 with at' := (placeF m m.bs ce.1 q).2.1 })).1.c = m.c := by
  by_cases h1 : ce.2 = 0
  · rw [if_neg (by simpa using h1)]
    obtain ⟨a1, a2, a3, a4⟩ := h h1
    by_cases h2 : (placeF m m.bs ce.1 q).2.2 = 0
    · rw [if_neg (by simpa using h2)]
      have hput := placeF_ok hm hm.a hm.z a1 ⟨a2, a3⟩ (by rw [← hm.l]; exact a4) hm.k.1 h2
      exact hf _ hput.ok hput.c
    · rw [if_pos h2]; exact ⟨hm, rfl⟩
  · rw [if_pos h1]; exact ⟨hm, rfl⟩
theorem doF_ok {m : Mo} (hm : MoOk m) {o : X.O} (ho : OpOk o) : MoOk (doF m o).1 ∧ (doF m o).1.c = m.c := by
  have hkeep : MoOk m ∧ m.c = m.c := ⟨hm, rfl⟩
  have hmm := hm.mm
  have htb := totalB_nonneg hm.a
  unfold doF
  split
  · unfold giveF
    simp only
    by_cases h2 : o.k = 2
    · simp only [if_pos h2]
      refine giveG_ok hm (manyF m.c m.live o.n o.s) (o.n * o.s) (fun p => { p.1 with mem := zeroF p.1.mem p.2.1.toNat (manyF m.c m.live o.n o.s).1 }) (fun p hok hc => ⟨⟨hok.c, hok.a, hok.z, hok.l, hok.lM, hok.p, hok.k, hok.o, hok.on, ?_, zeroF_b hok.b _ _⟩, hc⟩) fun h => ?_
      · rw [zeroF_len]; exact hok.mm
      · have := manyF_ok hm.c h
        exact ⟨this.1, this.2.1, this.2.2.1, this.2.2.2.1⟩
    · simp only [if_neg h2]
      refine giveG_ok hm (newF m.c m.live o.s (if o.k = 3 then o.a else 1)) o.s (fun p => p.1) (fun p hok hc => ⟨hok, hc⟩) fun h => ?_
      have := newF_ok hm.c h
      exact ⟨this.1, this.2.1, this.2.2.1, this.2.2.2⟩
  · split
    · refine ⟨⟨hm.c, hm.a, hm.z, hm.l, hm.lM, hm.p, hm.k, ?_, ?_, hm.mm, hm.b⟩, rfl⟩
      · simp only [trimF, List.length_map, List.length_range]; exact hm.o
      · have h := hm.on
        refine Nat.le_trans ?_ h
        have e : m.on = (List.range m.on.length).map fun i => m.on.getD i false := by
          refine List.ext_getElem (by simp) fun i h1 h2 => ?_
          simp [List.getD_eq_getElem?_getD, h1]
        conv => rhs; rw [e]
        exact cnt_mono fun i hi => by rw [Bool.and_eq_true] at hi; exact hi.1
    · split
      · exact hkeep
      · split
        · split
          · exact hkeep
          · rename_i hk i hf
            obtain ⟨hi, _⟩ := findB_lt hf
            have hg : m.bs.getD i bk0 = m.bs[i] := by simp [List.getD_eq_getElem?_getD, hi]
            have hdt := dropB_tot hi
            have hds := dropB_sub m.bs i
            have hb := hm.a.b _ (List.getElem_mem hi)
            unfold ofB
            rw [hg]
            simp only
            split
            · split
              · exact hkeep
              · rename_i h1
                have h1 := Decidable.of_not_not h1
                have hn := newF_ok hm.c h1
                split
                · exact hkeep
                · rename_i h2
                  have h2 := Decidable.of_not_not h2
                  have had := hm.a.sub hds
                  have hput : Put m (dropB m.bs i) _ _ _ _ := placeF_ok hm had (fun x hx => hm.z x (hds.subset hx)) hn.1 ⟨hn.2.1, hn.2.2.1⟩ (by rw [hdt, ← hm.l]; exact hn.2.2.2) (fun x hx => hm.k.1 x (hds.subset hx)) h2
                  have hok := hput.ok
                  have hy := hput.y0
                  have hyH := hput.yH
                  have hml := hput.ml
                  generalize placeF m (dropB m.bs i) (newF m.c (m.live - m.bs[i].c) o.s 1).1 o.s = p at *
                  generalize (newF m.c (m.live - m.bs[i].c) o.s 1).1 = ch at *
                  refine ⟨⟨hok.c, hok.a, hok.z, hok.l, hok.lM, hok.p, hok.k, hok.o, hok.on, ?_, ?_⟩, hput.c⟩
                  · simp only [List.length_append, List.length_take, List.length_drop]
                    rw [hput.c]
                    omega
                  · intro x hx
                    simp only [List.mem_append] at hx
                    rcases hx with (hx | hx) | hx
                    · exact hok.b x (List.mem_of_mem_take hx)
                    · exact hm.b x (List.mem_of_mem_take (List.mem_of_mem_drop hx))
                    · exact hok.b x (List.mem_of_mem_drop hx)
            · split
              · have had := hm.a.sub hds
                have hdn := totalB_nonneg had
                have hl := hm.l
                have hlM := hm.lM
                have hp := hm.p
                refine ⟨⟨hm.c, had, fun x hx => hm.z x (hds.subset hx), by rw [hdt, ← hl], by simp only; omega, by simp only; omega, ⟨fun x hx => hm.k.1 x (hds.subset hx), hm.k.2⟩, hm.o, hm.on, hm.mm, hm.b⟩, rfl⟩
              · split
                · exact hkeep
                · split
                  · exact hkeep
                  · split
                    · exact hkeep
                    · refine ⟨⟨hm.c, hm.a, hm.z, hm.l, hm.lM, hm.p, hm.k, hm.o, hm.on, by rw [List.length_set]; exact hm.mm, fun x hx => ?_⟩, rfl⟩
                      have hob := ho.b
                      rcases List.mem_or_eq_of_mem_set hx with hx | rfl
                      · exact hm.b x hx
                      · omega
        · exact hkeep
end Go.Ev.W
namespace Go.Ev.W
open Go.Ev Go.Ev.N

theorem up_told (v : Nat) (h1 : 1 ≤ v) (h2 : v ≤ 1000000) : Told P T calc_Up [] [i64 v] (.tup [i64 (upN v : Nat), .bool true]) [] := by
  have hu := upN_lt h1
  have hsh : ∀ x : Int, x * 2 ^ min (Int.toNat 1) IntKind.i64.bits = x * 2 := fun x => by
    have : (2 : Int) ^ min (Int.toNat 1) IntKind.i64.bits = 2 := by decide
    rw [this]
  refine told_of_ev (fn := calc_Up_fn) tabOk mixed (by kernel_rfl) (by kernel_rfl) (by kernel_rfl) (by kernel_rfl) ?_
  (refine gw ?_; first | refine IfB.dec (fun h3 => ?_) (fun h3 => ?_) | refine IfB.eq (fun h3 => ?_) (fun h3 => ?_) | refine IfB.ne (fun h3 => ?_) (fun h3 => ?_) | refine IfB.mk (fun h3 => ?_) (fun h3 => ?_))
  · omega
  · (refine gw ?_; first | refine IfB.dec (fun h4 => ?_) (fun h4 => ?_) | refine IfB.eq (fun h4 => ?_) (fun h4 => ?_) | refine IfB.ne (fun h4 => ?_) (fun h4 => ?_) | refine IfB.mk (fun h4 => ?_) (fun h4 => ?_))
    · omega
    · (refine gw ?_; refine LoopN.mk ⟨[0,4], fun vs L => ∃ j : Nat, vs = [i64 v, i64 (2 ^ j : Nat)] ∧ L = [] ∧ 2 ^ j ≤ upN v, fun vs L => match vs with | [_, .int _ i] => 4000000 - i.toNat | _ => 0, [], [], rfl, ⟨0, rfl, rfl, upN_pos v⟩, ?_⟩)
      rintro vs L ⟨j, rfl, rfl, hj⟩
      obtain ⟨p, hp⟩ : ∃ p, 2 ^ j = p := ⟨_, rfl⟩
      obtain ⟨k, hk⟩ := upN_pow v
      have hle := le_upN v
      (refine gw ?_; first | refine IfB.dec (fun h5 => ?_) (fun h5 => ?_) | refine IfB.eq (fun h5 => ?_) (fun h5 => ?_) | refine IfB.ne (fun h5 => ?_) (fun h5 => ?_) | refine IfB.mk (fun h5 => ?_) (fun h5 => ?_))
      · have hd : 2 ^ j * 2 ≤ upN v := by rw [hk]; exact pow_lt_dbl (by omega)
        have e : ((2 ^ (j + 1) : Nat) : Int) = ((2 ^ j : Nat) : Int) * 2 := by rw [Nat.pow_succ]; omega
        rw [hp] at hd e ⊢
        have hpos : 1 ≤ p := by rw [← hp]; exact Nat.one_le_two_pow
        (refine gw ?_)
        rw [hsh]
        (refine gw ?_; refine ⟨[], [], rfl, ⟨j + 1, by rw [e]; rfl, rfl, by rw [Nat.pow_succ, hp]; exact hd⟩, (by omega : 4000000 - ((p : Int) * 2).toNat < 4000000 - (p : Int).toNat)⟩)
      · have e : upN v = 2 ^ j := by
          have := upN_le (v := v) (k := j) (by omega)
          omega
        rw [e]
        (refine gw ?_; exact RetN.mk ⟨[], rfl, rfl, rfl⟩)
theorem pinCount_told (l : List Bool) (hl : l.length ≤ 1000000) : Told P T pin_Count [] [lT l] (i64 (cntB l : Nat)) [] := by
  have hml : (l.map AV.bool).length = l.length := by simp
  refine told_of_ev (fn := pin_Count_fn) tabOk mixed (by kernel_rfl) (by kernel_rfl) (by kernel_rfl) (by kernel_rfl) ?_
  (refine gw ?_; refine LoopN.mk ⟨[2,5,6,7], fun vs L => ∃ i : Nat, vs = [i64 (cntB (l.take i) : Nat), lT l, i64 (l.map AV.bool).length, i64 i] ∧ L = [] ∧ i ≤ l.length, fun vs L => match vs with | [_, _, _, .int _ i] => l.length - i.toNat | _ => 0, [], [], rfl, ⟨0, rfl, rfl, by omega⟩, ?_⟩)
  rintro vs L ⟨i, rfl, rfl, hi⟩
  (refine gw ?_; first | refine IfB.dec (fun h1 => ?_) (fun h1 => ?_) | refine IfB.eq (fun h1 => ?_) (fun h1 => ?_) | refine IfB.ne (fun h1 => ?_) (fun h1 => ?_) | refine IfB.mk (fun h1 => ?_) (fun h1 => ?_))
  · have hlt : i < l.length := by omega
    have hs := cntB_succ hlt
    have hb := cntB_le (l.take i)
    rw [List.length_take] at hb
    (refine gw ?_; refine idx_map (hlt) ?_)
    cases hb : l[i] with
    | false =>
      rw [hb, if_neg (by simp)] at hs
      (refine gw ?_; refine ⟨[], [], rfl, ⟨i + 1, by rw [hs]; rfl, rfl, hlt⟩, (by omega : l.length - ((i : Int) + 1).toNat < l.length - (i : Int).toNat)⟩)
    | true =>
      rw [hb, if_pos rfl] at hs
      (refine gw ?_; refine ⟨[], [], rfl, ⟨i + 1, by rw [hs]; rfl, rfl, hlt⟩, (by omega : l.length - ((i : Int) + 1).toNat < l.length - (i : Int).toNat)⟩)
  · have : i = l.length := by omega
    subst this
    rw [List.take_length]
    (refine gw ?_; exact RetN.mk ⟨[], rfl, rfl, rfl⟩)
end Go.Ev.W
namespace Go.Ev.W
open Go.Ev Go.Ev.N

theorem junkByte_told (seed page k : Nat) : Told P T junk_Byte [] [i64 seed, i64 page, i64 k] (u8 (byteF seed page k)) [] := by
  refine told_of_ev (fn := junk_Byte_fn) tabOk mixed (by kernel_rfl) (by kernel_rfl) (by kernel_rfl) (by kernel_rfl) ?_
  (refine gw ?_)
  refine ⟨?_⟩
  (refine gw ?_)
  refine ⟨?_⟩
  (refine gw ?_)
  refine ⟨?_⟩
  (refine gw ?_)
  refine ⟨?_⟩
  (refine gw ?_)
  refine ⟨?_⟩
  (refine gw ?_)
  refine ⟨?_⟩
  (refine gw ?_)
  refine ⟨?_⟩
  (refine gw ?_)
  refine ⟨?_⟩
  (refine gw ?_; refine RetN.mk ⟨[], rfl, ?_, rfl⟩)
  unfold byteF
  simp only [IntKind.wrap_u8]
  refine congrArg (AV.int .u8) ?_
  omega
theorem pinPages_told {pg y n : Nat} (hp : 1 ≤ pg) (hn : 1 ≤ n) (hy : y + n ≤ 1000000) : Told P T pin_Pages [] [i64 pg, i64 y, i64 n] (.tup [i64 (y / pg : Nat), i64 ((y + n - 1) / pg + 1 : Nat)]) [] := by
  have e1 : ((y : Nat) : Int).tdiv (pg : Nat) = ((y / pg : Nat) : Int) := by rw [Int.tdiv_eq_ediv_of_nonneg (by omega)]; omega
  have e0 : ((y : Nat) : Int) + ((n : Nat) : Int) - 1 = ((y + n - 1 : Nat) : Int) := by omega
  have e2 : (((y + n - 1 : Nat)) : Int).tdiv (pg : Nat) = (((y + n - 1) / pg : Nat) : Int) := by rw [Int.tdiv_eq_ediv_of_nonneg (by omega)]; omega
  have d1 := Nat.div_le_self y pg
  have d2 := Nat.div_le_self (y + n - 1) pg
  generalize y / pg = q at *
  generalize (y + n - 1) / pg = r at *
  refine told_of_ev (fn := pin_Pages_fn) tabOk mixed (by kernel_rfl) (by kernel_rfl) (by kernel_rfl) (by kernel_rfl) ?_
  (refine gw ?_; refine IfB.ff (by simp; omega) ?_)
  (refine gw ?_)
  rw [e1]
  (refine gw ?_; refine IfB.ff (by simp; omega) ?_)
  (refine gw ?_; refine IfB.tt (by simp; omega) ?_)
  (refine gw ?_)
  rw [e0]
  (refine gw ?_)
  rw [e2]
  (refine gw ?_; exact RetN.mk ⟨[], rfl, rfl, rfl⟩)
end Go.Ev.W
namespace Go.Ev.W
open Go.Ev Go.Ev.N

theorem clone_bool (es : List AV) (hl : es.length ≤ 1000000) : Told P T slices_Clone_bool_bool [] [.lst t_bool es] (.ref 0) [.row t_bool es] := by
  refine told_of_ev (fn := slices_Clone_bool_bool_fn) tabOk mixed (by kernel_rfl) (by kernel_rfl) (by kernel_rfl) (by kernel_rfl) ?_
  refine AnyB.mk (fun b hb => ?_)
  refine IfB.mk (fun h1 => ?_) (fun h1 => ?_)
  · obtain rfl := hb h1
    exact RetN.mk ⟨[1], rfl, rfl, rfl⟩
  · refine Room.mk (by first | omega | (simp; omega) | (simp; done)) ?_
    exact RetN.mk ⟨[2], rfl, rfl, rfl⟩
theorem clone_byte (es : List AV) (hl : es.length ≤ 1000000) : Told P T slices_Clone_byte_byte [] [.lst t_uint8 es] (.ref 0) [.row t_uint8 es] := by
  refine told_of_ev (fn := slices_Clone_byte_byte_fn) tabOk mixed (by kernel_rfl) (by kernel_rfl) (by kernel_rfl) (by kernel_rfl) ?_
  refine AnyB.mk (fun b hb => ?_)
  refine IfB.mk (fun h1 => ?_) (fun h1 => ?_)
  · obtain rfl := hb h1
    exact RetN.mk ⟨[1], rfl, rfl, rfl⟩
  · refine Room.mk (by first | omega | (simp; omega) | (simp; done)) ?_
    exact RetN.mk ⟨[2], rfl, rfl, rfl⟩
end Go.Ev.W
namespace Go.Ev.W
open Go.Ev Go.Ev.N

set_option maxHeartbeats 4000000 in
theorem trim_told {on met : List Bool} (hN : met.length = on.length) (hl : on.length ≤ 65536) : Told P T commit_Trim [] [lT on, lT met] (.tup [lT (trimF on met).1, i64 ((trimF on met).2 : Nat)]) [] := by
  have hmo : (on.map AV.bool).length = on.length := by simp
  have hmm : (met.map AV.bool).length = met.length := by simp
  obtain ⟨D, hD⟩ : ∃ D, on.length = D := ⟨_, rfl⟩
  have c1 := clone_bool (on.map AV.bool) (by omega)
  refine told_of_ev (fn := commit_Trim_fn) tabOk mixed (by kernel_rfl) (by kernel_rfl) (by kernel_rfl) (by kernel_rfl) ?_
  (refine gw ?_; refine Choice.mk ⟨false, Choice.mk ⟨false, _, _, c1, ?_⟩⟩)
  (refine gw ?_; refine LoopN.mk ⟨[1,4,5,10,11,12], fun vs L => ∃ i : Nat, vs = [lT met, .ref 0, i64 (((List.range i).filter fun i => on.getD i false && !met.getD i false).length : Nat), lT on, i64 (on.map AV.bool).length, i64 i] ∧ L = [.row t_bool (tabF D fun j => .bool (on.getD j false && or (decide (i ≤ j)) (met.getD j false)))] ∧ i ≤ D, fun vs L => match vs with | [_, _, _, _, _, .int _ i] => D - i.toNat | _ => 0, [], [1], rfl, ⟨0, rfl, ?_, by omega⟩, ?_⟩)
  · show [Blk.row t_bool (on.map AV.bool)] = _
    rw [tabF_map on AV.bool false, hD]
    refine congrArg (fun z => [Blk.row t_bool z]) (tabF_congr fun k _ => ?_)
    rw [decide_eq_true (Nat.zero_le k)]; simp
  rintro vs L ⟨i, rfl, rfl, hi⟩
  have hset : ∀ (v : Bool), i < D → v = (on.getD i false && met.getD i false) → (tabF D fun j => AV.bool (on.getD j false && or (decide (i ≤ j)) (met.getD j false))).set ((i : Nat) : Int).toNat (.bool v) = tabF D fun j => AV.bool (on.getD j false && or (decide (i + 1 ≤ j)) (met.getD j false)) := fun v hiD hv => by
    rw [Int.toNat_natCast]
    refine tabF_set hiD fun j hj => ?_
    by_cases e : j = i
    · subst e; rw [if_pos rfl, decide_eq_false (show ¬ j + 1 ≤ j by omega), hv]; rfl
    · rw [if_neg e]
      have : decide (i + 1 ≤ j) = decide (i ≤ j) := decide_eq_decide.2 (by omega)
      rw [this]
  have hkeep : i < D → (on.getD i false = true → met.getD i false = true) → (tabF D fun j => AV.bool (on.getD j false && or (decide (i ≤ j)) (met.getD j false))) = tabF D fun j => AV.bool (on.getD j false && or (decide (i + 1 ≤ j)) (met.getD j false)) := fun hiD hv => by
    refine tabF_congr fun j hj => ?_
    by_cases e : j = i
    · subst e
      rw [decide_eq_false (show ¬ j + 1 ≤ j by omega), decide_eq_true (Nat.le_refl j)]
      cases ho : on.getD j false with
      | true => rw [hv ho]; rfl
      | false => rfl
    · have : decide (i + 1 ≤ j) = decide (i ≤ j) := decide_eq_decide.2 (by omega)
      rw [this]
  (refine gw ?_; first | refine IfB.dec (fun g1 => ?_) (fun g1 => ?_) | refine IfB.eq (fun g1 => ?_) (fun g1 => ?_) | refine IfB.ne (fun g1 => ?_) (fun g1 => ?_) | refine IfB.mk (fun g1 => ?_) (fun g1 => ?_))
  · have hiD : i < D := by omega
    have hio : i < on.length := by omega
    have him : i < met.length := by omega
    have ho := lT_get hio
    have hm := lT_get him
    have hs : (List.filter (fun i => on.getD i false && !met.getD i false) (List.range (i + 1))).length = (List.filter (fun i => on.getD i false && !met.getD i false) (List.range i)).length + if (on[i] && !met[i]) = true then 1 else 0 := by
      rw [List.range_succ, List.filter_append, List.length_append, ← ho, ← hm]; simp only [List.filter_cons, List.filter_nil]; split <;> rfl
    have hs2 : (List.filter (fun i => on.getD i false && !met.getD i false) (List.range i)).length ≤ i := by
      simpa using List.length_filter_le (fun i => on.getD i false && !met.getD i false) (List.range i)
    rw [ho, hm] at hset hkeep
    (refine gw ?_; refine idx_map (hio) ?_)
    rcases hov : on[i] with _ | _
    · rw [hov] at hs hkeep
      rw [Bool.false_and] at hs
      have hs : (List.filter (fun i => on.getD i false && !met.getD i false) (List.range (i + 1))).length = (List.filter (fun i => on.getD i false && !met.getD i false) (List.range i)).length := hs
      (refine gw ?_; refine ⟨[], [0], rfl, ⟨i + 1, by rw [hs]; rfl, by rw [← hkeep hiD (by simp)]; rfl, hiD⟩, (by omega : D - ((i : Int) + 1).toNat < D - (i : Int).toNat)⟩)
    · rw [hov] at hs hset hkeep
      rw [Bool.true_and] at hs hset
      (refine gw ?_; refine IfB.ff (by rw [hmm]; simp; omega) ?_)
      (refine gw ?_; refine idx_map (him) ?_)
      rcases hmv : met[i] with _ | _
      · rw [hmv] at hs hset
        have hs : (List.filter (fun i => on.getD i false && !met.getD i false) (List.range (i + 1))).length = (List.filter (fun i => on.getD i false && !met.getD i false) (List.range i)).length + 1 := hs
        (refine gw ?_; refine InB.mk (by omega) (by rw [tabF_len]; omega) ?_)
        (refine gw ?_; refine ⟨[], [0], rfl, ⟨i + 1, by rw [hs]; rfl, by rw [← hset false hiD rfl]; rfl, hiD⟩, (by omega : D - ((i : Int) + 1).toNat < D - (i : Int).toNat)⟩)
      · rw [hmv] at hs hkeep
        have hs : (List.filter (fun i => on.getD i false && !met.getD i false) (List.range (i + 1))).length = (List.filter (fun i => on.getD i false && !met.getD i false) (List.range i)).length := hs
        (refine gw ?_; refine ⟨[], [0], rfl, ⟨i + 1, by rw [hs]; rfl, by rw [← hkeep hiD (by simp)]; rfl, hiD⟩, (by omega : D - ((i : Int) + 1).toNat < D - (i : Int).toNat)⟩)
  · have e : i = D := by omega
    subst e
    have f1 : (tabF i fun j => AV.bool (on.getD j false && or (decide (i ≤ j)) (met.getD j false))) = ((List.range i).map fun j => on.getD j false && met.getD j false).map AV.bool := by
      rw [← tabF_of]; exact tabF_congr fun j hj => by rw [decide_eq_false (show ¬ i ≤ j by omega)]; simp
    rw [f1]
    unfold trimF
    rw [hD]
    (refine gw ?_; exact RetN.fz ⟨[true, true], [], rfl, rfl, rfl⟩)
end Go.Ev.W
namespace Go.Ev.W
open Go.Ev Go.Ev.N

/-- Which are there behind the first so many of what is given. -/
def upF (on : List Bool) (f i j : Nat) : Bool := on.getD j false || (decide (f ≤ j) && decide (j < i))
theorem freshL_at (on : List Bool) {f b i : Nat} (h1 : f ≤ i) (h2 : i ≤ b) : freshL on f b i = (List.range i).filter fun j => decide (f ≤ j) && !on.getD j false := by
  unfold freshL
  refine List.filter_congr fun j hj => ?_
  have hj : j < i := by simpa using hj
  unfold isIn
  have : decide (f ≤ j ∧ j < b) = decide (f ≤ j) := decide_eq_decide.2 ⟨fun h => h.1, fun h => ⟨h, by omega⟩⟩
  rw [this]
theorem freshL_end (on : List Bool) {f b n : Nat} (h1 : f ≤ b) (h2 : b ≤ n) : freshL on f b n = freshL on f b b := by
  unfold freshL
  obtain ⟨d, rfl⟩ : ∃ d, n = b + d := ⟨n - b, by omega⟩
  clear h2
  induction d with
  | zero => rfl
  | succ d ih =>
    rw [show b + (d + 1) = b + d + 1 by omega, List.range_succ, List.filter_append, ih]
    have : isIn f b (b + d) = false := decide_eq_false (by omega)
    simp [this]
theorem freshL_low (on : List Bool) {f b : Nat} : freshL on f b f = [] := by
  unfold freshL
  rw [List.filter_eq_nil_iff]
  intro j hj
  have hj : j < f := by simpa using hj
  have : isIn f b j = false := decide_eq_false (by omega)
  simp [this]
set_option maxHeartbeats 8000000 in
theorem commit_told {on met : List Bool} (hN : met.length = on.length) (hl : on.length ≤ 65536) {f b most : Nat} (hf : f ≤ b) (hb : b ≤ on.length) (hm : most ≤ 65536) : Told P T commit_Commit [] [lT on, lT met, i64 f, i64 b, i64 most] (.tup [lT (commitF on met f b most).1, .lst t_int ((commitF on met f b most).2.1.map fun n => i64 (n : Nat)), .bool (commitF on met f b most).2.2]) [] := by
  have hmo : (on.map AV.bool).length = on.length := by simp
  have hmm : (met.map AV.bool).length = met.length := by simp
  have e3 := commitF_eq on met f b most
  obtain ⟨D, hD⟩ : ∃ D, on.length = D := ⟨_, rfl⟩
  have c1 := clone_bool (on.map AV.bool) (by omega)
  have c2 := clone_bool (met.map AV.bool) (by omega)
  refine told_of_ev (fn := commit_Commit_fn) tabOk mixed (by kernel_rfl) (by kernel_rfl) (by kernel_rfl) (by kernel_rfl) ?_
  (refine gw ?_; refine IfB.ff (by rw [hmm, hmo, hN]; simp) ?_)
  (refine gw ?_; refine IfB.ff (by simp; omega) ?_)
  (refine gw ?_; refine IfB.ff (by rw [hmo]; simp; omega) ?_)
  (refine gw ?_; refine Choice.mk ⟨false, Choice.mk ⟨false, _, _, c1, ?_⟩⟩)
  (refine gw ?_; refine Choice.mk ⟨false, Choice.mk ⟨false, _, _, c2, ?_⟩⟩)
  rw [hD] at hN hl hb hmo e3
  (refine gw ?_; refine LoopN.mk ⟨[0,3,4,10,11,13,14], fun vs L => ∃ i : Nat, vs = [lT on, i64 b, i64 most, .ref 0, .ref 1, .ref 2, i64 i] ∧ L = [.row t_bool (tabF D fun j => .bool (upF on f i j)), .row t_int ((freshL on f b i).map fun n => i64 (n : Nat)), .row t_bool (tabF D fun j => .bool (upF met f i j))] ∧ f ≤ i ∧ i ≤ b, fun vs L => match vs with | [_, _, _, _, _, _, .int _ i] => b - i.toNat | _ => 0, [], [2,1,3], rfl, ⟨f, rfl, ?_, by omega, by omega⟩, ?_⟩)
  · show [Blk.row t_bool (on.map AV.bool), Blk.row t_int [], Blk.row t_bool (met.map AV.bool)] = _
    have e0 : ∀ l : List Bool, l.length = D → l.map AV.bool = tabF D fun j => AV.bool (upF l f f j) := fun l hl => by
      rw [tabF_map l AV.bool false, hl]
      refine tabF_congr fun k _ => ?_
      unfold upF
      have : (decide (f ≤ k) && decide (k < f)) = false := by rw [Bool.and_eq_false_iff]; by_cases h : f ≤ k <;> simp [h]
      rw [this, Bool.or_false]
    rw [e0 on hD, e0 met hN, freshL_low]; rfl
  rintro vs L ⟨i, rfl, rfl, hfi, hib⟩
  have hfl := freshL_len on f b i
  have hfm : ((freshL on f b i).map fun n => i64 (n : Nat)).length = (freshL on f b i).length := by simp
  have hset : ∀ l : List Bool, i < D → (tabF D fun j => AV.bool (upF l f i j)).set ((i : Nat) : Int).toNat (.bool true) = tabF D fun j => AV.bool (upF l f (i + 1) j) := fun l hiD => by
    rw [Int.toNat_natCast]
    refine tabF_set hiD fun j hj => ?_
    unfold upF
    by_cases e : j = i
    · subst e; rw [if_pos rfl, decide_eq_true (show j < j + 1 by omega), decide_eq_true hfi]; simp
    · rw [if_neg e]
      have : decide (j < i + 1) = decide (j < i) := decide_eq_decide.2 (by omega)
      rw [this]
  (refine gw ?_; first | refine IfB.dec (fun g1 => ?_) (fun g1 => ?_) | refine IfB.eq (fun g1 => ?_) (fun g1 => ?_) | refine IfB.ne (fun g1 => ?_) (fun g1 => ?_) | refine IfB.mk (fun g1 => ?_) (fun g1 => ?_))
  · have hiD : i < D := by omega
    have hio : i < on.length := by omega
    have ho := lT_get hio
    have hfs := freshL_succ on f b i
    have hin : isIn f b i = true := decide_eq_true (by omega)
    rw [ho, hin, Bool.true_and] at hfs
    (refine gw ?_; refine idx_map (hio) ?_)
    rcases hov : on[i] with _ | _
    · rw [hov] at hfs
      have hz : (freshL on f b i).map (fun n => i64 (n : Nat)) ++ [i64 (i : Nat)] = (freshL on f b (i + 1)).map fun n => i64 (n : Nat) := by rw [hfs]; simp
      (refine gw ?_; refine Room.mk (by first | omega | (simp; omega) | (simp <;> fail)) ?_)
      (refine gw ?_; refine InB.mk (by omega) (by rw [tabF_len]; omega) ?_)
      (refine gw ?_; refine InB.mk (by omega) (by rw [tabF_len]; omega) ?_)
      (refine gw ?_; refine ⟨[], [0,4,2], rfl, ⟨i + 1, rfl, by rw [← hset on hiD, ← hset met hiD, ← hz]; rfl, by omega, by omega⟩, (by omega : b - ((i : Int) + 1).toNat < b - (i : Int).toNat)⟩)
    · rw [hov] at hfs
      have hz : freshL on f b (i + 1) = freshL on f b i := by rw [hfs]; simp
      (refine gw ?_; refine InB.mk (by omega) (by rw [tabF_len]; omega) ?_)
      (refine gw ?_; refine InB.mk (by omega) (by rw [tabF_len]; omega) ?_)
      (refine gw ?_; refine ⟨[], [0,1,2], rfl, ⟨i + 1, rfl, by rw [← hset on hiD, ← hset met hiD, hz]; rfl, by omega, by omega⟩, (by omega : b - ((i : Int) + 1).toNat < b - (i : Int).toNat)⟩)
  · have e : i = b := by omega
    subst e
    have f1 : ∀ l : List Bool, (tabF D fun j => AV.bool (upF l f i j)) = ((List.range D).map (needF l f i)).map AV.bool := fun l => by
      rw [← tabF_of]
      refine tabF_congr fun j hj => ?_
      unfold upF needF isIn
      congr 2
      rw [Bool.decide_and]
    rw [f1, f1]
    rw [freshL_end on hfi hb] at e3
    have c3 := pinCount_told ((List.range D).map (needF met f i)) (by simp; omega)
    have c4 := pinCount_told ((List.range D).map (needF on f i)) (by simp; omega)
    (refine gw ?_; refine Choice.mk ⟨false, Choice.mk ⟨true, _, _, c3, ?_⟩⟩)
    (refine gw ?_; first | refine IfB.dec (fun g2 => ?_) (fun g2 => ?_) | refine IfB.eq (fun g2 => ?_) (fun g2 => ?_) | refine IfB.ne (fun g2 => ?_) (fun g2 => ?_) | refine IfB.mk (fun g2 => ?_) (fun g2 => ?_))
    · rw [e3, if_pos (by omega)]
      (refine gw ?_; exact RetN.fz ⟨[true, true, true], [], rfl, rfl, rfl⟩)
    · rw [if_neg (by omega)] at e3
      (refine gw ?_; refine Choice.mk ⟨false, Choice.mk ⟨true, _, _, c4, ?_⟩⟩)
      (refine gw ?_; first | refine IfB.dec (fun g3 => ?_) (fun g3 => ?_) | refine IfB.eq (fun g3 => ?_) (fun g3 => ?_) | refine IfB.ne (fun g3 => ?_) (fun g3 => ?_) | refine IfB.mk (fun g3 => ?_) (fun g3 => ?_))
      · rw [if_pos (by omega)] at e3
        have hlA : ((List.range D).map (needF on f i)).length = D := by simp
        have hlN : ((List.range D).map (needF met f i)).length = D := by simp
        have c5 := trim_told (on := (List.range D).map (needF on f i)) (met := (List.range D).map (needF met f i)) (by rw [hlA, hlN]) (by omega)
        have et : (trimF ((List.range D).map (needF on f i)) ((List.range D).map (needF met f i))).1 = (List.range D).map fun j => needF on f i j && needF met f i j := by
          unfold trimF
          rw [hlA]
          refine List.map_congr_left fun j hj => ?_
          have hj : j < D := by simpa using hj
          simp [List.getD_eq_getElem?_getD, hj]
        rw [et] at c5
        (refine gw ?_; refine Choice.mk ⟨false, Choice.mk ⟨false, _, _, c5, ?_⟩⟩)
        rw [e3]
        (refine gw ?_; exact RetN.fz ⟨[true, true, true], [], rfl, rfl, rfl⟩)
      · rw [if_neg (by omega)] at e3
        rw [e3]
        (refine gw ?_; exact RetN.fz ⟨[true, true, true], [], rfl, rfl, rfl⟩)
end Go.Ev.W
namespace Go.Ev.W
open Go.Ev Go.Ev.N

theorem bits_xor {x y : Nat} (hx : x < 9223372036854775808) (hy : y < 9223372036854775808) : bitsOp .xor .i64 (x : Int) (y : Int) = ((x ^^^ y : Nat) : Int) ∧ x ^^^ y < 9223372036854775808 := by
  have h0 : x ^^^ y < 2 ^ 63 := Nat.xor_lt_two_pow (n := 63) (by omega) (by omega)
  have e : (BitVec.ofInt 64 (x : Int) ^^^ BitVec.ofInt 64 (y : Int)).toNat = x ^^^ y := by
    rw [BitVec.toNat_xor, BitVec.ofInt_natCast, BitVec.ofInt_natCast, BitVec.toNat_ofNat, BitVec.toNat_ofNat, Nat.mod_eq_of_lt (by omega), Nat.mod_eq_of_lt (by omega)]
  refine ⟨?_, by omega⟩
  show IntKind.i64.wrap ((BitVec.ofInt 64 (x : Int) ^^^ BitVec.ofInt 64 (y : Int)).toNat : Int) = _
  rw [e]
  exact wrap64 (by omega) (by omega)
theorem bits_and {x y : Nat} (hx : x < 9223372036854775808) (hy : y < 9223372036854775808) : bitsOp .and .i64 (x : Int) (y : Int) = ((x &&& y : Nat) : Int) ∧ x &&& y < 9223372036854775808 := by
  have h0 : x &&& y < 2 ^ 63 := Nat.and_lt_two_pow (n := 63) x (by omega)
  have e : (BitVec.ofInt 64 (x : Int) &&& BitVec.ofInt 64 (y : Int)).toNat = x &&& y := by
    rw [BitVec.toNat_and, BitVec.ofInt_natCast, BitVec.ofInt_natCast, BitVec.toNat_ofNat, BitVec.toNat_ofNat, Nat.mod_eq_of_lt (by omega), Nat.mod_eq_of_lt (by omega)]
  refine ⟨?_, by omega⟩
  show IntKind.i64.wrap ((BitVec.ofInt 64 (x : Int) &&& BitVec.ofInt 64 (y : Int)).toNat : Int) = _
  rw [e]
  exact wrap64 (by omega) (by omega)
theorem calcAdd_told {a b : Int} (ha : 0 ≤ a) (hb : 0 ≤ b) (hab : a + b ≤ 9223372036854775807) : Told P T calc_Add [] [i64 a, i64 b] (.tup [i64 (a + b), .bool true]) [] := by
  obtain ⟨x, rfl⟩ : ∃ x : Nat, a = (x : Int) := ⟨a.toNat, by omega⟩
  obtain ⟨y, rfl⟩ : ∃ y : Nat, b = (y : Int) := ⟨b.toNat, by omega⟩
  obtain ⟨h1, h1'⟩ := bits_xor (x := x) (y := x + y) (by omega) (by omega)
  obtain ⟨h2, h2'⟩ := bits_xor (x := y) (y := x + y) (by omega) (by omega)
  obtain ⟨h3, h3'⟩ := bits_and h1' h2'
  rw [← Int.natCast_add]
  have hn : (((x : Int) + (y : Int))) = ((x + y : Nat) : Int) := by omega
  refine told_of_ev (fn := calc_Add_fn) tabOk mixed (by kernel_rfl) (by kernel_rfl) (by kernel_rfl) (by kernel_rfl) ?_
  (refine gw ?_)
  rw [hn, h1, h2, h3]
  (refine gw ?_; exact RetN.mk ⟨[], rfl, rfl, rfl⟩)
theorem calcLog_told (v : Int) (h2 : v ≤ 9223372036854775807) : Told P T calc_Log [] [i64 v] (.tup [i64 ((logF v).1 : Nat), .bool (logF v).2]) [] := by
  have hsh : ∀ m : Nat, (((2 ^ (m + 1) : Nat)) : Int).fdiv (2 ^ min (Int.toNat 1) IntKind.i64.bits) = ((2 ^ m : Nat) : Int) := fun m => by
    have : (2 : Int) ^ min (Int.toNat 1) IntKind.i64.bits = 2 := by decide
    rw [this, Int.fdiv_eq_ediv_of_nonneg _ (by omega), Nat.pow_succ]; omega
  by_cases h1 : v < 1
  · have e : logF v = (0, false) := by unfold logF; rw [if_neg (by omega)]
    rw [e]
    refine told_of_ev (fn := calc_Log_fn) tabOk mixed (by kernel_rfl) (by kernel_rfl) (by kernel_rfl) (by kernel_rfl) ?_
    (refine gw ?_; refine IfB.tt (by simp; omega) ?_)
    (refine gw ?_; exact RetN.mk ⟨[], rfl, rfl, rfl⟩)
  · obtain ⟨n, rfl⟩ : ∃ n : Nat, v = (n : Int) := ⟨v.toNat, by omega⟩
    have hn : n ≠ 0 := by omega
    obtain ⟨b1, b2⟩ := bits_and (x := n) (y := n - 1) (by omega) (by omega)
    have hc : ((n : Int) - 1) = ((n - 1 : Nat) : Int) := by omega
    have hp := Nat.and_sub_one_eq_zero_iff_isPowerOfTwo hn
    by_cases h0 : n &&& (n - 1) = 0
    · obtain ⟨K, hK⟩ := hp.1 h0
      have e : logF (n : Int) = (K, true) := by rw [hK]; exact logF_pow K
      rw [e]
      have hK63 : K < 63 := by
        refine (Nat.pow_lt_pow_iff_right (a := 2) (by omega)).1 ?_
        rw [← hK]; omega
      refine told_of_ev (fn := calc_Log_fn) tabOk mixed (by kernel_rfl) (by kernel_rfl) (by kernel_rfl) (by kernel_rfl) ?_
      (refine gw ?_; refine IfB.ff (by simp; omega) ?_)
      (refine gw ?_)
      rw [hc, b1, h0]
      (refine gw ?_; refine LoopN.mk ⟨[0,2], fun vs L => ∃ j : Nat, vs = [i64 (2 ^ (K - j) : Nat), i64 j] ∧ L = [] ∧ j ≤ K, fun vs L => match vs with | [_, .int _ i] => 63 - i.toNat | _ => 0, [], [], rfl, ⟨0, by rw [Nat.sub_zero, ← hK]; rfl, rfl, by omega⟩, ?_⟩)
      rintro vs L ⟨j, rfl, rfl, hj⟩
      by_cases hjK : j < K
      · obtain ⟨m, hm⟩ : ∃ m, K - j = m + 1 := ⟨K - j - 1, by omega⟩
        rw [hm]
        have hpos : 2 ≤ 2 ^ (m + 1) := by have := Nat.one_le_two_pow (n := m); rw [Nat.pow_succ]; omega
        have hs := hsh m
        generalize hq : 2 ^ (m + 1) = q at *
        (refine gw ?_; refine IfB.tt (by simp; omega) ?_)
        (refine gw ?_)
        rw [hs]
        (refine gw ?_; refine ⟨[], [], rfl, ⟨j + 1, by rw [show K - (j + 1) = m by omega]; rfl, rfl, by omega⟩, (by omega : 63 - ((j : Int) + 1).toNat < 63 - (j : Int).toNat)⟩)
      · have e : j = K := by omega
        subst e
        rw [Nat.sub_self]
        (refine gw ?_; exact RetN.mk ⟨[], rfl, rfl, rfl⟩)
    · have e : logF (n : Int) = (0, false) := by
        unfold logF
        rw [if_neg]
        rintro ⟨_, h4⟩
        refine h0 (hp.2 ⟨Nat.log2 n, ?_⟩)
        rw [Int.toNat_natCast] at h4
        omega
      rw [e]
      refine told_of_ev (fn := calc_Log_fn) tabOk mixed (by kernel_rfl) (by kernel_rfl) (by kernel_rfl) (by kernel_rfl) ?_
      (refine gw ?_; refine IfB.ff (by simp; omega) ?_)
      (refine gw ?_)
      rw [hc, b1]
      (refine gw ?_; refine IfB.tt (by simp; omega) ?_)
      (refine gw ?_; exact RetN.mk ⟨[], rfl, rfl, rfl⟩)
end Go.Ev.W
namespace Go.Ev.W
open Go.Ev Go.Ev.N

theorem classCharge_told {c : Cf} (hc : c.N ≤ 65536) (hg : c.G ≤ 65536) (hg1 : 1 ≤ c.G) (s a : Int) (ha : a ≤ 9223372036854775807) : Told P T class_Charge [] [eC c, i64 s, i64 a] (.tup [i64 ((chargeF c s a).1 : Nat), i64 ((chargeF c s a).2 : Nat)]) [] := by
  refine told_of_ev (fn := class_Charge_fn) tabOk mixed (by kernel_rfl) (by kernel_rfl) (by kernel_rfl) (by kernel_rfl) ?_
  (refine gw ?_; refine Choice.mk ⟨false, Choice.mk ⟨true, _, _, calcLog_told a ha, ?_⟩⟩)
  cases h1 : (logF a).2 with
  | false =>
    rw [show chargeF c s a = (0, 3) by unfold chargeF; rw [if_pos (.inl h1)]]
    (refine gw ?_; exact RetN.mk ⟨[], rfl, rfl, rfl⟩)
  | true =>
    have ha1 : 1 ≤ a := by
      unfold logF at h1; split at h1
      · rename_i h; exact h.1
      · cases h1
    (refine gw ?_; first | refine IfB.dec (fun h2 => ?_) (fun h2 => ?_) | refine IfB.eq (fun h2 => ?_) (fun h2 => ?_) | refine IfB.ne (fun h2 => ?_) (fun h2 => ?_) | refine IfB.mk (fun h2 => ?_) (fun h2 => ?_))
    · rw [show chargeF c s a = (0, 3) by unfold chargeF; rw [if_pos (.inr h2)]]
      (refine gw ?_; exact RetN.mk ⟨[], rfl, rfl, rfl⟩)
    · (refine gw ?_; first | refine IfB.dec (fun h3 => ?_) (fun h3 => ?_) | refine IfB.eq (fun h3 => ?_) (fun h3 => ?_) | refine IfB.ne (fun h3 => ?_) (fun h3 => ?_) | refine IfB.mk (fun h3 => ?_) (fun h3 => ?_))
      · rw [show chargeF c s a = (0, 4) by unfold chargeF; rw [if_neg (by rw [h1]; simp; omega), if_pos (.inl h3)]]
        (refine gw ?_; exact RetN.mk ⟨[], rfl, rfl, rfl⟩)
      · (refine gw ?_; first | refine IfB.dec (fun h4 => ?_) (fun h4 => ?_) | refine IfB.eq (fun h4 => ?_) (fun h4 => ?_) | refine IfB.ne (fun h4 => ?_) (fun h4 => ?_) | refine IfB.mk (fun h4 => ?_) (fun h4 => ?_))
        · rw [show chargeF c s a = (0, 4) by unfold chargeF; rw [if_neg (by rw [h1]; simp; omega), if_pos (.inr h4)]]
          (refine gw ?_; exact RetN.mk ⟨[], rfl, rfl, rfl⟩)
        · have cu := up_told (max (max s.toNat a.toNat) c.G) (by omega) (by omega)
          have e1 : (if a > s then a else s) = ((max s.toNat a.toNat : Nat) : Int) := by split <;> omega
          have e2 : (if ((c.G : Nat) : Int) > ((max s.toNat a.toNat : Nat) : Int) then ((c.G : Nat) : Int) else ((max s.toNat a.toNat : Nat) : Int)) = ((max (max s.toNat a.toNat) c.G : Nat) : Int) := by split <;> omega
          rw [← e2, ← e1] at cu
          rw [show chargeF c s a = (upN (max (max s.toNat a.toNat) c.G), 0) by unfold chargeF; rw [if_neg (by rw [h1]; simp; omega), if_neg (by omega)]]
          (refine gw ?_; refine Choice.mk ⟨false, Choice.mk ⟨true, _, _, cu, ?_⟩⟩)
          (refine gw ?_; exact RetN.mk ⟨[], rfl, rfl, rfl⟩)
theorem admitNew_told {c : Cf} (hc : c.Ok) (live s a : Int) (hl : 0 ≤ live ∧ live ≤ 1000000) (ha : a ≤ 9223372036854775807) : Told P T admit_New [] [eC c, i64 live, i64 s, i64 a] (.tup [i64 ((newF c live s a).1 : Nat), i64 ((newF c live s a).2 : Nat)]) [] := by
  have h1 := hc.nM
  have h2 := hc.mH
  have h3 := hc.gpos
  have h4 : c.G ≤ c.N := by rw [hc.n]; exact Nat.le_mul_of_pos_right _ (Nat.two_pow_pos _)
  have hb := (chargeF_bd hc s a).1
  have c2 := calcAdd_told (a := live) (b := ((chargeF c s a).1 : Nat)) (by omega) (by omega) (by omega)
  refine told_of_ev (fn := admit_New_fn) tabOk mixed (by kernel_rfl) (by kernel_rfl) (by kernel_rfl) (by kernel_rfl) ?_
  (refine gw ?_; refine Choice.mk ⟨false, Choice.mk ⟨true, _, _, classCharge_told (by omega) (by omega) h3 s a ha, ?_⟩⟩)
  (refine gw ?_; first | refine IfB.dec (fun g1 => ?_) (fun g1 => ?_) | refine IfB.eq (fun g1 => ?_) (fun g1 => ?_) | refine IfB.ne (fun g1 => ?_) (fun g1 => ?_) | refine IfB.mk (fun g1 => ?_) (fun g1 => ?_))
  · rw [show newF c live s a = (0, (chargeF c s a).2) by unfold newF; rw [if_pos (by omega)]]
    (refine gw ?_; exact RetN.mk ⟨[], rfl, rfl, rfl⟩)
  · (refine gw ?_; refine Choice.mk ⟨false, Choice.mk ⟨true, _, _, c2, ?_⟩⟩)
    (refine gw ?_; first | refine IfB.dec (fun g2 => ?_) (fun g2 => ?_) | refine IfB.eq (fun g2 => ?_) (fun g2 => ?_) | refine IfB.ne (fun g2 => ?_) (fun g2 => ?_) | refine IfB.mk (fun g2 => ?_) (fun g2 => ?_))
    · rw [show newF c live s a = (0, 5) by unfold newF; rw [if_neg (by omega), if_pos (by omega)]]
      (refine gw ?_; exact RetN.mk ⟨[], rfl, rfl, rfl⟩)
    · rw [show newF c live s a = ((chargeF c s a).1, 0) by unfold newF; rw [if_neg (by omega), if_neg (by omega)]]
      (refine gw ?_; exact RetN.mk ⟨[], rfl, rfl, rfl⟩)
theorem admitAnew_told {c : Cf} (hc : c.Ok) (live old s : Int) (hl : 0 ≤ old ∧ old ≤ live ∧ live ≤ 1000000) : Told P T admit_Anew [] [eC c, i64 live, i64 old, i64 s] (.tup [i64 ((newF c (live - old) s 1).1 : Nat), i64 ((newF c (live - old) s 1).2 : Nat)]) [] := by
  refine told_of_ev (fn := admit_Anew_fn) tabOk mixed (by kernel_rfl) (by kernel_rfl) (by kernel_rfl) (by kernel_rfl) ?_
  (refine gw ?_; refine Choice.mk ⟨false, Choice.mk ⟨true, _, _, admitNew_told hc (live - old) s 1 (by omega) (by omega), ?_⟩⟩)
  (refine gw ?_; exact RetN.mk ⟨[], rfl, rfl, rfl⟩)
end Go.Ev.W
namespace Go.Ev.W
open Go.Ev Go.Ev.N

theorem wrap_both (p : Int) : IntKind.i64.wrap (IntKind.u64.wrap p) = IntKind.i64.wrap p := by
  rw [IntKind.wrap_i64, IntKind.wrap_i64, IntKind.wrap_u64]; omega
theorem calcMul_told (n s : Int) (hn : 0 ≤ n ∧ n ≤ 9223372036854775807) (hs : 0 ≤ s ∧ s ≤ 9223372036854775807) : Told P T calc_Mul [] [i64 n, i64 s] (.tup [i64 (if n * s ≤ 9223372036854775807 then n * s else 0), .bool (decide (n * s ≤ 9223372036854775807))]) [] := by
  refine told_of_ev (fn := calc_Mul_fn) tabOk mixed (by kernel_rfl) (by kernel_rfl) (by kernel_rfl) (by kernel_rfl) ?_
  (refine gw ?_; first | refine IfB.dec (fun h1 => ?_) (fun h1 => ?_) | refine IfB.eq (fun h1 => ?_) (fun h1 => ?_) | refine IfB.ne (fun h1 => ?_) (fun h1 => ?_) | refine IfB.mk (fun h1 => ?_) (fun h1 => ?_))
  · rw [h1, Int.zero_mul]
    (refine gw ?_; exact RetN.mk ⟨[], rfl, rfl, rfl⟩)
  · (refine gw ?_; first | refine IfB.dec (fun h2 => ?_) (fun h2 => ?_) | refine IfB.eq (fun h2 => ?_) (fun h2 => ?_) | refine IfB.ne (fun h2 => ?_) (fun h2 => ?_) | refine IfB.mk (fun h2 => ?_) (fun h2 => ?_))
    · rw [h2, Int.mul_zero]
      (refine gw ?_; exact RetN.mk ⟨[], rfl, rfl, rfl⟩)
    · (refine gw ?_; refine IfB.ff (by simp; omega) ?_)
      (refine gw ?_; refine IfB.ff (by simp; omega) ?_)
      by_cases h : n * s ≤ 9223372036854775807
      · rw [if_pos h, decide_eq_true h]
        have hp : 0 ≤ n * s := Int.mul_nonneg hn.1 hs.1
        have e : (n * s).tdiv s = n := Int.mul_tdiv_cancel _ (by omega)
        (refine gw ?_; refine IfB.ff (by simpa using e) ?_)
        (refine gw ?_; exact RetN.mk ⟨[], rfl, rfl, rfl⟩)
      · rw [if_neg h, decide_eq_false h]
        have hne := mul_over hn.1 (s := s) (by omega) (by omega)
        obtain ⟨w, hw⟩ : ∃ w, IntKind.i64.wrap (n * s) = w := ⟨_, rfl⟩
        have hwr : -9223372036854775808 ≤ w ∧ w ≤ 9223372036854775807 := by
          rw [← hw, IntKind.wrap_i64]; omega
        rw [hw] at hne
        have ht := tdiv_rng hwr.1 hwr.2 (s := s) (by omega)
        (refine gw ?_)
        refine ⟨?_⟩
        (refine gw ?_)
        refine ⟨?_⟩
        rw [wrap_both, hw]
        (refine gw ?_; refine IfB.tt (by simpa using hne) ?_)
        (refine gw ?_; exact RetN.mk ⟨[], rfl, rfl, rfl⟩)
theorem classProd_told {c : Cf} (hc : c.N ≤ 65536) (n s : Int) (hn : -9223372036854775808 ≤ n ∧ n ≤ 9223372036854775807) (hs : -9223372036854775808 ≤ s ∧ s ≤ 9223372036854775807) : Told P T class_Product [] [eC c, i64 n, i64 s] (.tup [i64 ((prodF c n s).1 : Nat), i64 ((prodF c n s).2 : Nat)]) [] := by
  refine told_of_ev (fn := class_Product_fn) tabOk mixed (by kernel_rfl) (by kernel_rfl) (by kernel_rfl) (by kernel_rfl) ?_
  (refine gw ?_; first | refine IfB.dec (fun h1 => ?_) (fun h1 => ?_) | refine IfB.eq (fun h1 => ?_) (fun h1 => ?_) | refine IfB.ne (fun h1 => ?_) (fun h1 => ?_) | refine IfB.mk (fun h1 => ?_) (fun h1 => ?_))
  · rw [show prodF c n s = (0, 2) by unfold prodF; rw [if_pos (.inl h1)]]
    (refine gw ?_; exact RetN.mk ⟨[], rfl, rfl, rfl⟩)
  · (refine gw ?_; first | refine IfB.dec (fun h2 => ?_) (fun h2 => ?_) | refine IfB.eq (fun h2 => ?_) (fun h2 => ?_) | refine IfB.ne (fun h2 => ?_) (fun h2 => ?_) | refine IfB.mk (fun h2 => ?_) (fun h2 => ?_))
    · rw [show prodF c n s = (0, 2) by unfold prodF; rw [if_pos (.inr h2)]]
      (refine gw ?_; exact RetN.mk ⟨[], rfl, rfl, rfl⟩)
    · have hm := calcMul_told n s (by omega) (by omega)
      have hp : 0 ≤ n * s := Int.mul_nonneg (by omega) (by omega)
      by_cases h : n * s ≤ 9223372036854775807
      · rw [if_pos h, decide_eq_true h] at hm
        (refine gw ?_; refine Choice.mk ⟨false, Choice.mk ⟨true, _, _, hm, ?_⟩⟩)
        (refine gw ?_; first | refine IfB.dec (fun h3 => ?_) (fun h3 => ?_) | refine IfB.eq (fun h3 => ?_) (fun h3 => ?_) | refine IfB.ne (fun h3 => ?_) (fun h3 => ?_) | refine IfB.mk (fun h3 => ?_) (fun h3 => ?_))
        · rw [show prodF c n s = (0, 4) by unfold prodF; rw [if_neg (by omega), if_neg (by omega)]]
          (refine gw ?_; exact RetN.mk ⟨[], rfl, rfl, rfl⟩)
        · rw [show prodF c n s = ((n * s).toNat, 0) by unfold prodF; rw [if_neg (by omega), if_pos (by omega)]]
          have e : (((n * s).toNat : Nat) : Int) = n * s := by omega
          rw [e]
          (refine gw ?_; exact RetN.mk ⟨[], rfl, rfl, rfl⟩)
      · rw [if_neg h, decide_eq_false h] at hm
        rw [show prodF c n s = (0, 4) by unfold prodF; rw [if_neg (by omega), if_neg (by omega)]]
        (refine gw ?_; refine Choice.mk ⟨false, Choice.mk ⟨true, _, _, hm, ?_⟩⟩)
        (refine gw ?_; exact RetN.mk ⟨[], rfl, rfl, rfl⟩)
theorem admitMany_told {c : Cf} (hc : c.Ok) (live n s : Int) (hl : 0 ≤ live ∧ live ≤ 1000000) (hn : -9223372036854775808 ≤ n ∧ n ≤ 9223372036854775807) (hs : -9223372036854775808 ≤ s ∧ s ≤ 9223372036854775807) : Told P T admit_Many [] [eC c, i64 live, i64 n, i64 s] (.tup [i64 ((manyF c live n s).1 : Nat), i64 ((manyF c live n s).2 : Nat)]) [] := by
  have h1 := hc.nM
  have h2 := hc.mH
  have h3 := prodF_bd (c := c) n s
  refine told_of_ev (fn := admit_Many_fn) tabOk mixed (by kernel_rfl) (by kernel_rfl) (by kernel_rfl) (by kernel_rfl) ?_
  (refine gw ?_; refine Choice.mk ⟨false, Choice.mk ⟨true, _, _, classProd_told (c := c) (by omega) n s hn hs, ?_⟩⟩)
  (refine gw ?_; first | refine IfB.dec (fun g1 => ?_) (fun g1 => ?_) | refine IfB.eq (fun g1 => ?_) (fun g1 => ?_) | refine IfB.ne (fun g1 => ?_) (fun g1 => ?_) | refine IfB.mk (fun g1 => ?_) (fun g1 => ?_))
  · rw [show manyF c live n s = (0, (prodF c n s).2) by unfold manyF; rw [if_pos (by omega)]]
    (refine gw ?_; exact RetN.mk ⟨[], rfl, rfl, rfl⟩)
  · rw [show manyF c live n s = newF c live (prodF c n s).1 1 by unfold manyF; rw [if_neg (by omega)]]
    (refine gw ?_; refine Choice.mk ⟨false, Choice.mk ⟨true, _, _, admitNew_told hc live ((prodF c n s).1 : Nat) 1 hl (by omega), ?_⟩⟩)
    (refine gw ?_; exact RetN.mk ⟨[], rfl, rfl, rfl⟩)
end Go.Ev.W
namespace Go.Ev.W
open Go.Ev Go.Ev.N

theorem calcRound_told (v t : Nat) (hv : v ≤ 1000000) (h1 : 1 ≤ t) (h2 : t ≤ 1000000) : Told P T calc_Round [] [i64 v, i64 t] (.tup [i64 (rnd v t : Nat), .bool true]) [] := by
  have em : ((v : Nat) : Int).tmod (t : Nat) = ((v % t : Nat) : Int) := by rw [Int.tmod_eq_emod_of_nonneg (by omega)]; omega
  have hm := Nat.mod_lt v h1
  have hd := Nat.mod_le v t
  have e0 : v % t = 0 → rnd v t = v := fun h => by unfold rnd; rw [if_pos h]
  have e1 : v % t ≠ 0 → rnd v t = v - v % t + t := fun h => by unfold rnd; rw [if_neg h]
  generalize v % t = r at *
  refine told_of_ev (fn := calc_Round_fn) tabOk mixed (by kernel_rfl) (by kernel_rfl) (by kernel_rfl) (by kernel_rfl) ?_
  (refine gw ?_; refine IfB.ff (by simp; omega) ?_)
  (refine gw ?_)
  rw [em]
  by_cases h5 : r = 0
  · rw [e0 h5]
    (refine gw ?_; refine IfB.tt (by simp [h5]) ?_)
    (refine gw ?_; exact RetN.mk ⟨[], rfl, rfl, rfl⟩)
  · rw [e1 h5]
    (refine gw ?_; refine IfB.ff (by simp; omega) ?_)
    have c := calcAdd_told (a := (v : Int)) (b := (t : Int) - (r : Int)) (by omega) (by omega) (by omega)
    have e2 : ((v - r + t : Nat) : Int) = (v : Int) + ((t : Int) - (r : Int)) := by omega
    rw [e2]
    (refine gw ?_; refine Choice.mk ⟨false, Choice.mk ⟨true, _, _, c, ?_⟩⟩)
    (refine gw ?_; exact RetN.mk ⟨[], rfl, rfl, rfl⟩)
theorem confWithin_told (l : List Int) (hl : l.length ≤ 1000) : Told P T conf_within [] [.lst t_int (l.map i64)] (.bool (l.all inR)) [] := by
  have hml : (l.map i64).length = l.length := by simp
  refine told_of_ev (fn := conf_within_fn) tabOk mixed (by kernel_rfl) (by kernel_rfl) (by kernel_rfl) (by kernel_rfl) ?_
  (refine gw ?_; refine LoopN.mk ⟨[5,6,7], fun vs L => ∃ i : Nat, vs = [.lst t_int (l.map i64), i64 (l.map i64).length, i64 i] ∧ L = [] ∧ i ≤ l.length ∧ (l.take i).all inR = true, fun vs L => match vs with | [_, _, .int _ i] => l.length - i.toNat | _ => 0, [], [], rfl, ⟨0, rfl, rfl, by omega, rfl⟩, ?_⟩)
  rintro vs L ⟨i, rfl, rfl, hi, hin⟩
  (refine gw ?_; first | refine IfB.dec (fun h1 => ?_) (fun h1 => ?_) | refine IfB.eq (fun h1 => ?_) (fun h1 => ?_) | refine IfB.ne (fun h1 => ?_) (fun h1 => ?_) | refine IfB.mk (fun h1 => ?_) (fun h1 => ?_))
  · have hlt : i < l.length := by omega
    have hbad : inR l[i] = false → l.all inR = false := fun h => by
      rw [List.all_eq_false]
      exact ⟨l[i], List.getElem_mem hlt, by rw [h]; simp⟩
    have hnext : inR l[i] = true → (l.take (i + 1)).all inR = true := fun h => by
      rw [List.take_succ_eq_append_getElem hlt, List.all_append, hin]; simp [h]
    (refine gw ?_; refine idx_map (hlt) ?_)
    generalize l[i] = x at *
    (refine gw ?_; first | refine IfB.dec (fun h2 => ?_) (fun h2 => ?_) | refine IfB.eq (fun h2 => ?_) (fun h2 => ?_) | refine IfB.ne (fun h2 => ?_) (fun h2 => ?_) | refine IfB.mk (fun h2 => ?_) (fun h2 => ?_))
    · rw [hbad (by simp [inR]; omega)]
      (refine gw ?_; exact RetN.mk ⟨[], rfl, rfl, rfl⟩)
    · (refine gw ?_; first | refine IfB.dec (fun h3 => ?_) (fun h3 => ?_) | refine IfB.eq (fun h3 => ?_) (fun h3 => ?_) | refine IfB.ne (fun h3 => ?_) (fun h3 => ?_) | refine IfB.mk (fun h3 => ?_) (fun h3 => ?_))
      · rw [hbad (by simp [inR]; omega)]
        (refine gw ?_; exact RetN.mk ⟨[], rfl, rfl, rfl⟩)
      · (refine gw ?_; refine ⟨[], [], rfl, ⟨i + 1, rfl, rfl, hlt, hnext (by simp [inR]; omega)⟩, (by omega : l.length - ((i : Int) + 1).toNat < l.length - (i : Int).toNat)⟩)
  · have e : i = l.length := by omega
    subst e
    rw [List.take_length] at hin
    rw [hin]
    (refine gw ?_; exact RetN.mk ⟨[], rfl, rfl, rfl⟩)
end Go.Ev.W
namespace Go.Ev.W
open Go.Ev Go.Ev.N

set_option maxHeartbeats 8000000 in
theorem confOf_told (r : Rw) : Told P T conf_Of [] [eR r] (.tup [eC (ofF r).1, i64 ((ofF r).2 : Nat)]) [] := by
  have bad : r.ok = false → ofF r = (cf0, 1) := fun h => by unfold ofF; rw [if_neg (by rw [h]; simp)]
  have hsl : ∀ x : Int, x * 2 ^ min (Int.toNat 1) IntKind.i64.bits = x * 2 := fun x => by
    have : (2 : Int) ^ min (Int.toNat 1) IntKind.i64.bits = 2 := by decide
    rw [this]
  have hsr : ∀ x : Nat, ((x : Nat) : Int).fdiv (2 ^ min (Int.toNat 1) IntKind.i64.bits) = ((x / 2 : Nat) : Int) := fun x => by
    have : (2 : Int) ^ min (Int.toNat 1) IntKind.i64.bits = 2 := by decide
    rw [this, Int.fdiv_eq_ediv_of_nonneg _ (by omega)]; omega
  obtain ⟨g, l, m, p, b, s⟩ := r
  have c0 := confWithin_told [g, l, m, p] (by simp)
  have hr0 : (Rw.ok ⟨g, l, m, p, b, s⟩) = (([g, l, m, p] : List Int).all inR && decide (0 ≤ b ∧ b ≤ 65536) && decide (0 ≤ s ∧ s ≤ 255)) := by
    simp only [Rw.ok, List.all_cons, List.all_nil, Bool.and_true, Bool.and_assoc]
  refine told_of_ev (fn := conf_Of_fn) tabOk mixed (by kernel_rfl) (by kernel_rfl) (by kernel_rfl) (by kernel_rfl) ?_
  (refine gw ?_; refine Choice.mk ⟨false, Choice.mk ⟨true, _, _, c0, ?_⟩⟩)
  by_cases hin : ([g, l, m, p] : List Int).all inR = true
  · rw [hin] at hr0 ⊢
    simp only [List.all_cons, List.all_nil, Bool.and_true, Bool.and_eq_true, inR, decide_eq_true_eq] at hin
    obtain ⟨i1, i2, i3, i4⟩ := hin
    have hr : (Rw.ok ⟨g, l, m, p, b, s⟩) = (decide (0 ≤ b ∧ b ≤ 65536) && decide (0 ≤ s ∧ s ≤ 255)) := by rw [hr0, Bool.true_and]
    by_cases hbs : (0 ≤ b ∧ b ≤ 65536) ∧ 0 ≤ s ∧ s ≤ 255
    · (refine gw ?_; refine IfB.ff (by simp; omega) ?_)
      (refine gw ?_; refine IfB.ff (by simp; omega) ?_)
      (refine gw ?_; refine IfB.ff (by simp; omega) ?_)
      (refine gw ?_; refine IfB.ff (by simp; omega) ?_)
      have hok : Rw.ok ⟨g, l, m, p, b, s⟩ = true := by rw [hr]; simp; omega
      obtain ⟨G, hG⟩ : ∃ G, upN g.toNat = G := ⟨_, rfl⟩
      obtain ⟨N, hN⟩ : ∃ N, upN (max l.toNat G) = N := ⟨_, rfl⟩
      obtain ⟨Pg, hPg⟩ : ∃ Pg, upN (max p.toNat G) = Pg := ⟨_, rfl⟩
      obtain ⟨M, hM⟩ : ∃ M, rnd m.toNat (2 * max N Pg) = M := ⟨_, rfl⟩
      obtain ⟨K, hK⟩ : ∃ K, Nat.log2 (N / G) = K := ⟨_, rfl⟩
      have hcf : cfOf ⟨g, l, m, p, b, s⟩ = ⟨G, N, M, K, Pg, b.toNat, M + K * (M / 2), s.toNat⟩ := by
        unfold cfOf; simp only [hG, hN, hPg, hM, hK]
      have bG := upN_lt (v := g.toNat) (by omega)
      have bG0 := upN_pos g.toNat
      rw [hG] at bG bG0
      have bN := upN_lt (v := max l.toNat G) (by omega)
      rw [hN] at bN
      have bN0 := le_upN (max l.toNat G)
      rw [hN] at bN0
      have bP := upN_lt (v := max p.toNat G) (by omega)
      rw [hPg] at bP
      have c1 := up_told g.toNat (by omega) (by omega)
      rw [hG, show ((g.toNat : Nat) : Int) = g by omega] at c1
      have c2 := up_told (max l.toNat G) (by omega) (by omega)
      rw [hN, show ((max l.toNat G : Nat) : Int) = (if ((G : Nat) : Int) > l then ((G : Nat) : Int) else l) by split <;> omega] at c2
      have c3 := up_told (max p.toNat G) (by omega) (by omega)
      rw [hPg, show ((max p.toNat G : Nat) : Int) = (if ((G : Nat) : Int) > p then ((G : Nat) : Int) else p) by split <;> omega] at c3
      have c4 := calcRound_told m.toNat (2 * max N Pg) (by omega) (by omega) (by omega)
      rw [hM, show ((2 * max N Pg : Nat) : Int) = (if ((Pg : Nat) : Int) > ((N : Nat) : Int) then ((Pg : Nat) : Int) else ((N : Nat) : Int)) * 2 by split <;> omega, show ((m.toNat : Nat) : Int) = m by omega] at c4
      obtain ⟨q, q1, q2, q3⟩ := rnd_spec (v := m.toNat) (t := 2 * max N Pg) (by omega)
      rw [hM] at q1 q2 q3
      obtain ⟨k0, hk0⟩ := pow_up (v := l.toNat) (hG ▸ upN_pow g.toNat)
      rw [hN] at hk0
      have hK0 : K = k0 := by rw [← hK]; exact log_of bG0 hk0
      have c5 := calcLog_told ((N / G : Nat) : Int) (by have := Nat.div_le_self N G; omega)
      have e5 : N / G = 2 ^ K := by rw [hk0, hK0, Nat.mul_div_cancel_left _ (by omega)]
      rw [e5, logF_pow, ← e5, show ((N / G : Nat) : Int) = ((N : Nat) : Int).tdiv ((G : Nat) : Int) by rw [Int.tdiv_eq_ediv_of_nonneg (by omega)]; omega] at c5
      have bK : K < 20 := by
        have h6 : 2 ^ K ≤ 2 ^ 18 := by rw [← e5]; have := Nat.div_le_self N G; omega
        have := (Nat.pow_le_pow_iff_right (a := 2) (by omega)).1 h6
        omega
      have bKM : K * (M / 2) ≤ 20 * (M / 2) := Nat.mul_le_mul_right _ (by omega)
      have hM2 : ((M : Nat) : Int).tdiv 2 = ((M / 2 : Nat) : Int) := by rw [Int.tdiv_eq_ediv_of_nonneg (by omega)]; omega
      have hKM : ((K : Nat) : Int) * ((M / 2 : Nat) : Int) = ((K * (M / 2) : Nat) : Int) := by rw [Int.natCast_mul]
      (refine gw ?_; refine Choice.mk ⟨false, Choice.mk ⟨false, _, _, c1, ?_⟩⟩)
      (refine gw ?_; refine Choice.mk ⟨false, Choice.mk ⟨false, _, _, c2, ?_⟩⟩)
      (refine gw ?_; refine Choice.mk ⟨false, Choice.mk ⟨false, _, _, c3, ?_⟩⟩)
      (refine gw ?_)
      rw [hsl]
      (refine gw ?_; refine Choice.mk ⟨false, Choice.mk ⟨false, _, _, c4, ?_⟩⟩)
      have hdiv : ((N : Nat) : Int).tdiv ((G : Nat) : Int) = ((N / G : Nat) : Int) := by rw [Int.tdiv_eq_ediv_of_nonneg (by omega)]; omega
      have hdle := Nat.div_le_self N G
      have hd0 : (0 : Int) ≤ ((N / G : Nat) : Int) := Int.natCast_nonneg _
      (refine gw ?_)
      (refine gw ?_; refine Choice.mk ⟨false, Choice.mk ⟨true, _, _, c5, ?_⟩⟩)
      (refine gw ?_)
      rw [hsr]
      (refine gw ?_)
      rw [hKM]
      (refine gw ?_)
      have hH : (M : Int) + ((K * (M / 2) : Nat) : Int) = ((M + K * (M / 2) : Nat) : Int) := by omega
      rw [hH]
      (refine gw ?_; first | refine IfB.dec (fun h6 => ?_) (fun h6 => ?_) | refine IfB.eq (fun h6 => ?_) (fun h6 => ?_) | refine IfB.ne (fun h6 => ?_) (fun h6 => ?_) | refine IfB.mk (fun h6 => ?_) (fun h6 => ?_))
      · rw [show ofF ⟨g, l, m, p, b, s⟩ = (cf0, 1) by unfold ofF; rw [if_neg (by rw [hcf]; simp only; omega)]]
        (refine gw ?_; exact RetN.mk ⟨[], rfl, rfl, rfl⟩)
      · rw [show ofF ⟨g, l, m, p, b, s⟩ = (cfOf ⟨g, l, m, p, b, s⟩, 0) by unfold ofF; rw [if_pos ⟨hok, by rw [hcf]; simp only; omega⟩], hcf]
        (refine gw ?_; refine RetN.mk ⟨[], rfl, ?_, rfl⟩)
        rw [show b = ((b.toNat : Nat) : Int) by omega, show s = ((s.toNat : Nat) : Int) by omega]
        rfl

    · rw [bad (by rw [hr]; simp; omega)]
      by_cases h2 : b < 0
      · (refine gw ?_; refine IfB.tt (by simp; omega) ?_)
        (refine gw ?_; exact RetN.mk ⟨[], rfl, rfl, rfl⟩)
      (refine gw ?_; refine IfB.ff (by simp; omega) ?_)
      by_cases h3 : b > 65536
      · (refine gw ?_; refine IfB.tt (by simp; omega) ?_)
        (refine gw ?_; exact RetN.mk ⟨[], rfl, rfl, rfl⟩)
      (refine gw ?_; refine IfB.ff (by simp; omega) ?_)
      by_cases h4 : s < 0
      · (refine gw ?_; refine IfB.tt (by simp; omega) ?_)
        (refine gw ?_; exact RetN.mk ⟨[], rfl, rfl, rfl⟩)
      (refine gw ?_; refine IfB.ff (by simp; omega) ?_)
      (refine gw ?_; refine IfB.tt (by simp; omega) ?_)
      (refine gw ?_; exact RetN.mk ⟨[], rfl, rfl, rfl⟩)
  · have hin : ([g, l, m, p] : List Int).all inR = false := by simpa using hin
    rw [bad (by rw [hr0, hin]; simp)]
    rw [hin]
    (refine gw ?_; exact RetN.mk ⟨[], rfl, rfl, rfl⟩)
end Go.Ev.W
namespace Go.Ev.W
open Go.Ev Go.Ev.N

/-- A heap, as it lies: what there is, the engine, blocks, figures, how many meet each page, which pages are there, bytes. -/
def hpV (c : Cf) (g cl : Nat) (b : Nat → Bool) (m : List M) (live peak mark : Int) (on : List Bool) : AV :=
  .agg [i64 c.G, i64 c.N, i64 c.M, i64 c.L, i64 c.Pg, i64 c.P, i64 c.H, i64 c.Sd, i64 c.G, .lst t_api_Tree (tL g cl b), .lst t_api_Mark (m.map encM), .mp 1, i64 live, i64 peak, i64 mark, .ref 2, .lst t_bool (on.map .bool), .ref 3]
def encS (ds : List Bk) : List (AV × AV) := ds.map fun x => (.agg [i64 x.a], eB x)
def hpL (c : Cf) (g cl : Nat) (b : Nat → Bool) (m : List M) (live peak mark : Int) (on : List Bool) (ds : List Bk) (met : List Int) (mem : List Nat) : List Blk :=
  [.var (hpV c g cl b m live peak mark on), .map t_heap_start (encS ds), .row t_int (met.map i64), .row t_uint8 (mem.map u8)]
def pagesF (met : List Int) : List Bool := met.map fun n => decide (n > 0)
/-- The same, as far as so many. -/
def pgP (met : List Int) (k : Nat) : List Bool := (List.range met.length).map fun i => decide (i < k) && decide (met.getD i 0 > 0)
theorem pgP_len (met : List Int) (k : Nat) : (pgP met k).length = met.length := by simp [pgP]
theorem pgP_zero (met : List Int) : pgP met 0 = List.replicate met.length false := by
  apply List.ext_getElem (by simp [pgP])
  intro i h1 h2
  simp [pgP]
theorem pgP_end (met : List Int) : pgP met met.length = pagesF met := by
  apply List.ext_getElem (by simp [pgP, pagesF])
  intro i h1 h2
  have hi : i < met.length := by rw [pgP_len] at h1; exact h1
  simp [pgP, pagesF, hi, List.getD_eq_getElem?_getD]
theorem pgP_set {met : List Int} {k : Nat} (h : k < met.length) : (pgP met k).set k (decide (met[k] > 0)) = pgP met (k + 1) := by
  apply List.ext_getElem (by simp [pgP])
  intro i h1 h2
  have hi : i < met.length := by rw [pgP_len] at h2; exact h2
  rw [List.getElem_set]
  simp only [pgP, List.getElem_map, List.getElem_range]
  split
  · rename_i e; subst e
    rw [decide_eq_true (show k < k + 1 by omega), Bool.true_and, List.getD_eq_getElem?_getD, List.getElem?_eq_getElem h]; rfl
  · rename_i e
    rw [show decide (i < k + 1) = decide (i < k) from decide_eq_decide.2 (by omega)]
set_option maxRecDepth 20000 in
set_option maxHeartbeats 1000000 in
theorem hpPages_told (c : Cf) (g cl : Nat) (b : Nat → Bool) (m : List M) (live peak mark : Int) (on : List Bool) (ds : List Bk) (met : List Int) (mem : List Nat) (hl : met.length ≤ 65536) :
    Told P T heap_Heap_pages (hpL c g cl b m live peak mark on ds met mem) [.ptr 0 0 0] (lT (pagesF met)) (hpL c g cl b m live peak mark on ds met mem) := by
  have hml : (met.map i64).length = met.length := by simp
  unfold hpL hpV
  refine told_of_ev (fn := heap_Heap_pages_fn) tabOk mixed (by kernel_rfl) (by kernel_rfl) (by kernel_rfl) (by kernel_rfl) ?_
  (refine gw ?_)
  rw [hml]
  refine Room.mk (by omega) ?_
  have hz : List.replicate ((met.length : Nat) : Int).toNat (zeroE T t_bool) = (pgP met 0).map AV.bool := by rw [Int.toNat_natCast, pgP_zero, List.map_replicate]; rfl
  (refine gw ?_; refine LoopN.mk ⟨[3,15,16,17], fun vs L => ∃ k : Nat, vs = [.ref 4, .ref 2, i64 (met.map i64).length, i64 k] ∧ L = [.var (hpV c g cl b m live peak mark on), .map t_heap_start (encS ds), .row t_int (met.map i64), .row t_uint8 (mem.map u8), .row t_bool ((pgP met k).map .bool)] ∧ k ≤ met.length, fun vs L => match vs with | [_, _, _, .int _ i] => met.length - i.toNat | _ => 0, [], [5], rfl, ⟨0, rfl, by rw [← hz]; rfl, by omega⟩, ?_⟩)
  rintro vs L ⟨k, rfl, rfl, hk⟩
  have hpl : ((pgP met k).map AV.bool).length = met.length := by rw [List.length_map, pgP_len]
  by_cases hkl : k < met.length
  · have hs := pgP_set hkl
    have hx : ∀ Q : AV → Prop, Q (i64 met[k]) → At (met.map i64) ((k : Nat) : Int).toNat Q := fun Q q => at_map hkl q
    (refine gw ?_; refine IfB.tt (by rw [hml]; simp; omega) ?_)
    (refine gw ?_)
    refine hx _ ?_
    (refine gw ?_; refine ⟨[], [4], rfl, ⟨k + 1, rfl, by rw [← hs, List.map_set]; rfl, hkl⟩, (by omega : met.length - ((k : Int) + 1).toNat < met.length - (k : Int).toNat)⟩)
  · obtain rfl : k = met.length := by omega
    rw [pgP_end]
    (refine gw ?_)
    exact RetN.fz ⟨[true], [], rfl, rfl, rfl⟩
end Go.Ev.W
namespace Go.Ev.W
open Go.Ev Go.Ev.N

/-- Pages that are met by one more, or less. -/
def metA (met : List Int) (f k : Nat) (v : Int) : List Int := (List.range met.length).map fun i => if f ≤ i ∧ i < k then met.getD i 0 + v else met.getD i 0
theorem metA_len (met : List Int) (f k : Nat) (v : Int) : (metA met f k v).length = met.length := by simp [metA]
theorem metA_none (met : List Int) (f : Nat) (v : Int) : metA met f f v = met := by
  apply List.ext_getElem (by simp [metA])
  intro i h1 h2
  simp only [metA, List.getElem_map, List.getElem_range]
  rw [if_neg (by omega), List.getD_eq_getElem?_getD, List.getElem?_eq_getElem h2]; rfl
theorem metA_get {met : List Int} {f k : Nat} {v : Int} (h : k < met.length) : (metA met f k v)[k]'(by rw [metA_len]; exact h) = met.getD k 0 := by
  simp only [metA, List.getElem_map, List.getElem_range]
  rw [if_neg (by omega)]
theorem metA_set {met : List Int} {f k : Nat} {v : Int} (hf : f ≤ k) (h : k < met.length) : (metA met f k v).set k (met.getD k 0 + v) = metA met f (k + 1) v := by
  apply List.ext_getElem (by simp [metA])
  intro i h1 h2
  rw [List.getElem_set]
  simp only [metA, List.getElem_map, List.getElem_range]
  split
  · rename_i e; subst e; rw [if_pos (by omega)]
  · rename_i e
    by_cases hq : f ≤ i ∧ i < k
    · rw [if_pos hq, if_pos (by omega)]
    · rw [if_neg hq, if_neg (by omega)]
set_option maxRecDepth 20000 in
set_option maxHeartbeats 2000000 in
theorem hpMeets_told (c : Cf) (g cl : Nat) (b : Nat → Bool) (m : List M) (live peak mark : Int) (on : List Bool) (ds : List Bk) (met : List Int) (mem : List Nat) (hl : met.length ≤ 65536) (hpg : 1 ≤ c.Pg) (y n : Nat) (q : Int) (hn : 1 ≤ n) (hyn : y + n ≤ 1000000) (v : Int) (hv : -1 ≤ v ∧ v ≤ 1) (hb : ∀ i, -1000000 ≤ met.getD i 0 ∧ met.getD i 0 ≤ 1000000) (hfit : (y + n - 1) / c.Pg + 1 ≤ met.length) :
    Told P T heap_Heap_meets (hpL c g cl b m live peak mark on ds met mem) [.ptr 0 0 0, .agg [i64 y, i64 n, i64 q], i64 v] (.tup []) (hpL c g cl b m live peak mark on ds (metA met (y / c.Pg) ((y + n - 1) / c.Pg + 1) v) mem) := by
  have c1 := pinPages_told (pg := c.Pg) hpg hn hyn
  have hfb : y / c.Pg ≤ (y + n - 1) / c.Pg + 1 := by
    have : y / c.Pg ≤ (y + n - 1) / c.Pg := Nat.div_le_div_right (by omega)
    omega
  have hnone := metA_none met (y / c.Pg) v
  unfold hpL hpV
  generalize y / c.Pg = f at *
  generalize (y + n - 1) / c.Pg + 1 = e at *
  refine told_of_ev (fn := heap_Heap_meets_fn) tabOk mixed (by kernel_rfl) (by kernel_rfl) (by kernel_rfl) (by kernel_rfl) ?_
  (refine gw ?_; refine Choice.mk ⟨false, Choice.mk ⟨false, _, _, c1, ?_⟩⟩)
  (refine gw ?_; refine LoopN.mk ⟨[0,2,7,8], fun vs L => ∃ k : Nat, vs = [.ptr 0 0 0, i64 v, i64 e, i64 k] ∧ L = [.var (hpV c g cl b m live peak mark on), .map t_heap_start (encS ds), .row t_int ((metA met f k v).map i64), .row t_uint8 (mem.map u8)] ∧ f ≤ k ∧ k ≤ e, fun vs L => match vs with | [_, _, _, .int _ i] => e - i.toNat | _ => 0, [], [], rfl, ⟨f, rfl, by rw [hnone]; rfl, by omega, hfb⟩, ?_⟩)
  rintro vs L ⟨k, rfl, rfl, hk1, hk2⟩
  have hml : ((metA met f k v).map i64).length = met.length := by rw [List.length_map, metA_len]
  have hif : (if ((met.length : Nat) : Int) < (e : Int) then ((met.length : Nat) : Int) else (e : Int)) = e := if_neg (by omega)
  (refine gw ?_)
  rw [hml, hif]
  by_cases hke : k < e
  · have hkl : k < (metA met f k v).length := by rw [metA_len]; omega
    have hx : ∀ Q : AV → Prop, Q (i64 (met.getD k 0)) → At ((metA met f k v).map i64) ((k : Nat) : Int).toNat Q := fun Q q => at_map (k := k) hkl (by rw [metA_get (by omega)]; exact q)
    have hset := metA_set (v := v) hk1 (show k < met.length by omega)
    have hbk := hb k
    (refine gw ?_; refine IfB.tt (by simp; omega) ?_)
    (refine gw ?_)
    refine hx _ ?_
    (refine gw ?_; refine ⟨[], [], rfl, ⟨k + 1, rfl, by rw [← hset, List.map_set]; rfl, by omega, hke⟩, (by omega : e - ((k : Int) + 1).toNat < e - (k : Int).toNat)⟩)
  · obtain rfl : k = e := by omega
    (refine gw ?_; exact RetN.mk ⟨[], rfl, rfl, rfl⟩)
end Go.Ev.W
namespace Go.Ev.W
open Go.Ev Go.Ev.N

def getS (y : Int) : List Bk → Option Bk
  | [] => none
  | x :: l => if y = x.a then some x else getS y l
def setS (x : Bk) : List Bk → List Bk
  | [] => [x]
  | z :: l => if x.a = z.a then x :: l else z :: setS x l
def delS (y : Int) : List Bk → List Bk
  | [] => []
  | x :: l => if y = x.a then l else x :: delS y l
theorem eqS (a b : Int) : eqKey (.agg [i64 a]) (.agg [i64 b]) = decide (a = b) := by
  show ((a == b) && true) = _
  rw [Bool.and_true]
  by_cases h : a = b
  · rw [decide_eq_true h, h]; exact beq_self_eq_true _
  · rw [decide_eq_false h]; exact beq_eq_false_iff_ne.2 h
theorem mget_encS (y : Int) : ∀ ds, mget (encS ds) (.agg [i64 y]) = (getS y ds).map eB
  | [] => rfl
  | x :: ds => by
    show (bif eqKey (.agg [i64 y]) (.agg [i64 x.a]) then some (eB x) else mget (encS ds) (.agg [i64 y])) = _
    rw [eqS, mget_encS y ds]
    show _ = (if y = x.a then some x else getS y ds).map eB
    by_cases h : y = x.a
    · rw [decide_eq_true h, if_pos h]; rfl
    · rw [decide_eq_false h, if_neg h]; rfl
theorem mset_encS (x : Bk) : ∀ ds, mset (encS ds) (.agg [i64 x.a]) (eB x) = encS (setS x ds)
  | [] => rfl
  | z :: ds => by
    show (bif eqKey (.agg [i64 x.a]) (.agg [i64 z.a]) then (.agg [i64 x.a], eB x) :: encS ds else (.agg [i64 z.a], eB z) :: mset (encS ds) (.agg [i64 x.a]) (eB x)) = _
    rw [eqS, mset_encS x ds]
    show _ = encS (if x.a = z.a then x :: ds else z :: setS x ds)
    by_cases h : x.a = z.a
    · rw [decide_eq_true h, if_pos h]; rfl
    · rw [decide_eq_false h, if_neg h]; rfl
theorem mdel_encS (y : Int) : ∀ ds, mdel (encS ds) (.agg [i64 y]) = encS (delS y ds)
  | [] => rfl
  | x :: ds => by
    show (bif eqKey (.agg [i64 y]) (.agg [i64 x.a]) then encS ds else (.agg [i64 x.a], eB x) :: mdel (encS ds) (.agg [i64 y])) = _
    rw [eqS, mdel_encS y ds]
    show _ = encS (if y = x.a then ds else x :: delS y ds)
    by_cases h : y = x.a
    · rw [decide_eq_true h, if_pos h]; rfl
    · rw [decide_eq_false h, if_neg h]; rfl
set_option maxRecDepth 20000 in
set_option maxHeartbeats 2000000 in
theorem hpBack_told (c : Cf) (g cl : Nat) (b b2 : Nat → Bool) (m m2 : List M) (live peak mark : Int) (on : List Bool) (ds : List Bk) (met : List Int) (mem : List Nat) (hl : met.length ≤ 65536) (hpg : 1 ≤ c.Pg) (y n : Nat) (q : Int) (hn : 1 ≤ n) (hyn : y + n ≤ 1000000) (hb : ∀ i, -1000000 ≤ met.getD i 0 ∧ met.getD i 0 ≤ 1000000) (hfit : (y + n - 1) / c.Pg + 1 ≤ met.length) (hlv : 0 ≤ live ∧ live ≤ 1000000) :
    Told P T heap_Heap_back (hpL c g cl b m live peak mark on ds met mem) [.ptr 0 0 0, .agg [i64 y, i64 n, i64 q], eE c.G g cl b2 m2] (.tup []) (hpL c g cl b2 m2 (live + n) peak mark on (setS ⟨y, n, q⟩ ds) (metA met (y / c.Pg) ((y + n - 1) / c.Pg + 1) 1) mem) := by
  have c1 := hpMeets_told c g cl b2 m2 live peak mark on (setS ⟨y, n, q⟩ ds) met mem hl hpg y n q hn hyn 1 (by omega) hb hfit
  have hms := mset_encS ⟨y, n, q⟩ ds
  unfold hpL hpV at *
  rw [← hms] at c1 ⊢
  refine told_of_ev (fn := heap_Heap_back_fn) tabOk mixed (by kernel_rfl) (by kernel_rfl) (by kernel_rfl) (by kernel_rfl) ?_
  (refine gw ?_; refine Choice.mk ⟨true, Choice.mk ⟨false, _, _, c1, ?_⟩⟩)
  (refine gw ?_)
  (refine gw ?_; exact RetN.mk ⟨[], rfl, rfl, rfl⟩)
set_option maxRecDepth 20000 in
set_option maxHeartbeats 2000000 in
theorem hpGone_told (c : Cf) (g cl : Nat) (b : Nat → Bool) (m : List M) (he : EgOk c.G g cl m) (live peak mark : Int) (on : List Bool) (ds : List Bk) (met : List Int) (mem : List Nat) (hl : met.length ≤ 65536) (hpg : 1 ≤ c.Pg) (y n : Nat) (q : Int) (hn : 1 ≤ n) (hyn : y + n ≤ 1000000) (hb : ∀ i, -1000000 ≤ met.getD i 0 ∧ met.getD i 0 ≤ 1000000) (hfit : (y + n - 1) / c.Pg + 1 ≤ met.length) (hlv : 0 ≤ live ∧ live ≤ 1000000) :
    Told P T heap_Heap_gone (hpL c g cl b m live peak mark on ds met mem) [.ptr 0 0 0, .agg [i64 y, i64 n, i64 q]] (.tup []) (hpL c g cl (relB c.G b m y) (relL m y) (live - n) peak mark on (delS y ds) (metA met (y / c.Pg) ((y + n - 1) / c.Pg + 1) (-1)) mem) := by
  have c0 := plRel_told he (b := b) y (by omega)
  have c1 := hpMeets_told c g cl (relB c.G b m y) (relL m y) live peak mark on (delS y ds) met mem hl hpg y n q hn hyn (-1) (by omega) hb hfit
  have hms := mdel_encS y ds
  unfold hpL hpV at *
  unfold eE at *
  rw [← hms] at c1 ⊢
  refine told_of_ev (fn := heap_Heap_gone_fn) tabOk mixed (by kernel_rfl) (by kernel_rfl) (by kernel_rfl) (by kernel_rfl) ?_
  (refine gw ?_; refine Choice.mk ⟨false, Choice.mk ⟨false, _, _, c0, ?_⟩⟩)
  (refine gw ?_; refine Choice.mk ⟨true, Choice.mk ⟨false, _, _, c1, ?_⟩⟩)
  (refine gw ?_; exact RetN.mk ⟨[], rfl, rfl, rfl⟩)
end Go.Ev.W
namespace Go.Ev.W
open Go.Ev Go.Ev.N

theorem confShift_told {c : Cf} (hg : 1 ≤ c.G) {k : Nat} (hk : k ≤ c.L) (hb : c.G * 2 ^ k ≤ 65536) : Told P T conf_Shift [] [eC c, i64 (c.G * 2 ^ k : Nat)] (.tup [i64 k, .bool true]) [] := by
  have hp : 0 < 2 ^ k := Nat.pow_pos (by omega)
  have hge : c.G ≤ c.G * 2 ^ k := Nat.le_mul_of_pos_right _ hp
  have hm : ((c.G * 2 ^ k : Nat) : Int).tmod (c.G : Int) = 0 := by
    rw [← Int.ofNat_tmod, Nat.mul_mod_right]; rfl
  have hd : ((c.G * 2 ^ k : Nat) : Int).tdiv (c.G : Int) = ((2 ^ k : Nat) : Int) := by
    rw [← Int.ofNat_tdiv, Nat.mul_div_cancel_left _ (by omega)]
  have hp2 : 2 ^ k ≤ 65536 := Nat.le_trans (Nat.le_mul_of_pos_left _ (by omega)) hb
  have c1 := calcLog_told ((2 ^ k : Nat) : Int) (by omega)
  rw [logF_pow] at c1
  generalize hx : c.G * 2 ^ k = x at *
  generalize 2 ^ k = p at *
  have hne : ((c.G : Nat) : Int) ≠ 0 := by omega
  unfold eC
  refine told_of_ev (fn := conf_Shift_fn) tabOk mixed (by kernel_rfl) (by kernel_rfl) (by kernel_rfl) (by kernel_rfl) ?_
  (refine gw ?_; refine IfB.ff (by simp; omega) ?_)
  (refine gw ?_; refine IfB.ff (by simp; omega) ?_)
  (refine gw ?_)
  rw [hm]
  (refine gw ?_)
  rw [hd]
  (refine gw ?_; refine Choice.mk ⟨false, Choice.mk ⟨false, _, _, c1, ?_⟩⟩)
  (refine gw ?_; refine IfB.ff (by simp; omega) ?_)
  (refine gw ?_; exact RetN.mk ⟨[], rfl, rfl, rfl⟩)
theorem classClass_told {c : Cf} (hg : 1 ≤ c.G) {k : Nat} (hk : k ≤ c.L) (hb : c.G * 2 ^ k ≤ 65536) : Told P T class_Class [] [eC c, i64 (c.G * 2 ^ k : Nat)] (.tup [i64 k, .bool true]) [] := by
  have c1 := confShift_told hg hk hb
  unfold eC at *
  refine told_of_ev (fn := class_Class_fn) tabOk mixed (by kernel_rfl) (by kernel_rfl) (by kernel_rfl) (by kernel_rfl) ?_
  (refine gw ?_; refine Choice.mk ⟨false, Choice.mk ⟨false, _, _, c1, ?_⟩⟩)
  (refine gw ?_; exact RetN.mk ⟨[], rfl, rfl, rfl⟩)
end Go.Ev.W
namespace Go.Ev.W
open Go.Ev Go.Ev.N

/-- A page that is filled as far as so many bytes. -/
def fillK (mem : List Nat) (seed page size k : Nat) : List Nat := (List.range mem.length).map fun i => if i / size = page ∧ i % size < k then byteF seed page (i % size) else mem.getD i 0
theorem fillK_len (mem : List Nat) (seed page size k : Nat) : (fillK mem seed page size k).length = mem.length := by simp [fillK]
theorem fillK_zero (mem : List Nat) (seed page size : Nat) : fillK mem seed page size 0 = mem := by
  apply List.ext_getElem (by simp [fillK])
  intro i h1 h2
  simp only [fillK, List.getElem_map, List.getElem_range]
  rw [if_neg (by omega), List.getD_eq_getElem?_getD, List.getElem?_eq_getElem h2]; rfl
theorem fillK_end {mem : List Nat} {seed page size : Nat} (h : 1 ≤ size) : fillK mem seed page size size = fillF mem seed page size := by
  unfold fillK fillF
  refine List.map_congr_left fun i _ => ?_
  have := Nat.mod_lt i (show 0 < size by omega)
  by_cases e : i / size = page
  · rw [if_pos ⟨e, this⟩, if_pos e]
  · rw [if_neg fun q => e q.1, if_neg e]
theorem fillK_set {mem : List Nat} {seed page size k : Nat} (hk : k < size) : (fillK mem seed page size k).set (page * size + k) (byteF seed page k) = fillK mem seed page size (k + 1) := by
  apply List.ext_getElem (by simp [fillK])
  intro i h1 h2
  rw [List.getElem_set]
  simp only [fillK, List.getElem_map, List.getElem_range]
  have e1 : (page * size + k) / size = page := by
    rw [Nat.mul_comm, Nat.mul_add_div (by omega), Nat.div_eq_of_lt hk]; rfl
  have e2 : (page * size + k) % size = k := by
    rw [Nat.mul_comm, Nat.mul_add_mod, Nat.mod_eq_of_lt hk]
  split
  · rename_i e; subst e
    rw [if_pos ⟨e1, by rw [e2]; omega⟩, e2]
  · rename_i e
    have hne : i / size = page → i % size = k → False := fun a1 a2 => e (by
      have := Nat.div_add_mod i size
      rw [a1, a2, Nat.mul_comm] at this
      exact this)
    by_cases hq : i / size = page ∧ i % size < k
    · rw [if_pos hq, if_pos ⟨hq.1, by omega⟩]
    · rw [if_neg hq, if_neg]
      rintro ⟨a1, a2⟩
      by_cases a3 : i % size = k
      · exact hne a1 a3
      · exact hq ⟨a1, by omega⟩
structure Hs where
  b : Nat → Bool
  m : List M
  live : Int
  peak : Int
  mark : Int
  on : List Bool
  ds : List Bk
  met : List Int
  mem : List Nat
def hsL (c : Cf) (g cl : Nat) (s : Hs) : List Blk := hpL c g cl s.b s.m s.live s.peak s.mark s.on s.ds s.met s.mem
/-- A block is placed. -/
def putsF (c : Cf) (g cl : Nat) (s : Hs) (k : Nat) (q : Int) : Hs × Int × Nat :=
  match lowS g cl s.b k with
  | none => (s, 0, 7)
  | some i =>
    let y := i * 2 ^ k * c.G
    let n := c.G * 2 ^ k
    let co := commitF s.on (pagesF s.met) (y / c.Pg) ((y + n - 1) / c.Pg + 1) c.P
    if co.2.2 = false then (s, 0, 6)
    else (⟨placeB g cl s.b k, placeL c.G g cl s.b s.m k, s.live + n, max s.peak (s.live + n), max s.mark (y + n : Nat), co.1, setS ⟨(y : Nat), (n : Nat), q⟩ s.ds, metA s.met (y / c.Pg) ((y + n - 1) / c.Pg + 1) 1, co.2.1.foldl (fun mem p => fillF mem c.Sd p c.Pg) s.mem⟩, (y : Nat), 0)
theorem commit_fr (on met : List Bool) (f b most : Nat) : ∀ p ∈ (commitF on met f b most).2.1, p < on.length := by
  intro p hp
  unfold commitF at hp
  simp only at hp
  split at hp
  · simp at hp
  · have := (List.mem_filter.1 hp).1
    simpa using this
theorem commit_frl (on met : List Bool) (f b most : Nat) : (commitF on met f b most).2.1.length ≤ on.length := by
  unfold commitF
  simp only
  split
  · simp
  · refine Nat.le_trans (List.length_filter_le _ _) ?_
    simp
theorem fold_len (seed size : Nat) : ∀ (l : List Nat) (mem : List Nat), (l.foldl (fun mem p => fillF mem seed p size) mem).length = mem.length
  | [], _ => rfl
  | p :: l, mem => by
    show (l.foldl (fun mem p => fillF mem seed p size) (fillF mem seed p size)).length = _
    rw [fold_len seed size l]
    simp [fillF]
theorem fold_suc (mem : List Nat) (seed size : Nat) {l : List Nat} {j : Nat} (h : j < l.length) : (l.take (j + 1)).foldl (fun mem p => fillF mem seed p size) mem = fillF ((l.take j).foldl (fun mem p => fillF mem seed p size) mem) seed l[j] size := by
  rw [List.take_succ_eq_append_getElem h, List.foldl_append]; rfl
/-- What is needed of a heap. -/
structure HsOk (c : Cf) (g cl : Nat) (s : Hs) : Prop where
  ok : c.Ok
  gE : g = c.H / c.G
  clE : cl = c.L + 1
  eg : EgOk c.G g cl s.m
  pg : ∀ x n : Nat, 1 ≤ n → x + n ≤ c.H → (x + n - 1) / c.Pg + 1 ≤ s.met.length
  pg1 : 1 ≤ c.Pg
  met : s.met.length = c.H / c.Pg
  mb : ∀ i, -100000 ≤ s.met.getD i 0 ∧ s.met.getD i 0 ≤ 100000
  on : s.on.length = s.met.length
  mem : s.mem.length = c.H
  pH : ∀ p i, p < s.met.length → i < c.Pg → p * c.Pg + i < c.H
  lv : 0 ≤ s.live ∧ s.live ≤ 100000
set_option maxRecDepth 20000 in
set_option maxHeartbeats 8000000 in
theorem hpPuts_told {c : Cf} {g cl : Nat} {s : Hs} (h : HsOk c g cl s) {k : Nat} (hk : k ≤ c.L) (hb : c.G * 2 ^ k ≤ 65536) (q : Int) :
    Told P T heap_Heap_puts (hsL c g cl s) [.ptr 0 0 0, i64 (c.G * 2 ^ k : Nat), i64 q] (.tup [i64 (putsF c g cl s k q).2.1, i64 ((putsF c g cl s k q).2.2 : Nat)]) (hsL c g cl (putsF c g cl s k q).1) := by
  obtain ⟨b, m, live, peak, mark, on, ds, met, mem⟩ := s
  have hg1 := h.eg.g1
  have c1 := classClass_told hg1 hk hb
  have c2 := plPlace_told h.eg (b := b) (k : Nat) (by have := h.ok.lL; omega)
  have hpage := hpPages_told c g cl b m live peak mark on ds met mem (by have := h.met; have := h.ok.h2; have : c.H / c.Pg ≤ c.H := Nat.div_le_self _ _; simp only at *; omega)
  unfold putsF
  cases hlo : lowS g cl b k with
  | none =>
    rw [hlo] at c2
    unfold hsL hpL hpV eC eE at *
    simp only
    refine told_of_ev (fn := heap_Heap_puts_fn) tabOk mixed (by kernel_rfl) (by kernel_rfl) (by kernel_rfl) (by kernel_rfl) ?_
    (refine gw ?_; refine Choice.mk ⟨false, Choice.mk ⟨false, _, _, c1, ?_⟩⟩)
    (refine gw ?_; refine Choice.mk ⟨false, Choice.mk ⟨false, _, _, c2, ?_⟩⟩)
    (refine gw ?_; exact RetN.mk ⟨[], rfl, rfl, rfl⟩)
  | some i =>
    rw [hlo] at c2
    simp only
    obtain ⟨k', ek, hkc, hik, _, _⟩ := lowS_lt h.eg.sl hlo
    have ek : k' = k := by omega
    subst ek
    have hbd := sz_bound h.eg.sl h.eg.gG hkc hik
    have hgH : g * c.G ≤ c.H := by rw [h.gE]; exact Nat.div_mul_le_self _ _
    have hyn : i * 2 ^ k' * c.G + c.G * 2 ^ k' ≤ c.H := by
      have : i * 2 ^ k' * c.G + 2 ^ k' * c.G ≤ g * c.G := by rw [← Nat.add_mul]; exact Nat.mul_le_mul_right _ hbd.1
      rw [Nat.mul_comm c.G]; omega
    have hn1 : 1 ≤ c.G * 2 ^ k' := Nat.mul_pos (by omega) (by omega)
    have hA : placeA c.G g cl b (k' : Nat) = ((i * 2 ^ k' * c.G : Nat) : Int) := by unfold placeA; rw [hlo]; simp only [Int.toNat_natCast]
    rw [hA] at c2
    have hpg := h.pg _ _ hn1 hyn
    have hH := h.ok.h2
    generalize i * 2 ^ k' * c.G = y at *
    generalize c.G * 2 ^ k' = n at *
    have c3 := pinPages_told (pg := c.Pg) (n := n) (y := y) h.pg1 hn1 (by omega)
    have hfb : y / c.Pg ≤ (y + n - 1) / c.Pg + 1 := by
      have : y / c.Pg ≤ (y + n - 1) / c.Pg := Nat.div_le_div_right (by omega)
      omega
    have hmet : met.length = c.H / c.Pg := h.met
    have hmet2 : met.length ≤ 65536 := by have : c.H / c.Pg ≤ c.H := Nat.div_le_self _ _; omega
    have hon : on.length = met.length := h.on
    have hpgl : (pagesF met).length = met.length := by simp [pagesF]
    have c4 := commit_told (on := on) (met := pagesF met) (by omega) (by omega) (f := y / c.Pg) (b := (y + n - 1) / c.Pg + 1) (most := c.P) hfb (by have hpg : (y + n - 1) / c.Pg + 1 ≤ met.length := hpg; omega) h.ok.b
    have hfr := commit_fr on (pagesF met) (y / c.Pg) ((y + n - 1) / c.Pg + 1) c.P
    have hfrl := commit_frl on (pagesF met) (y / c.Pg) ((y + n - 1) / c.Pg + 1) c.P
    have hlv := h.lv
    have hmeml : mem.length = c.H := h.mem
    have hpH := h.pH
    have hback := hpBack_told c g cl b (placeB g cl b (k' : Nat)) m (placeL c.G g cl b m (k' : Nat)) live peak mark
    generalize hco : commitF on (pagesF met) (y / c.Pg) ((y + n - 1) / c.Pg + 1) c.P = co at *
    obtain ⟨on2, fr, ok2⟩ := co
    unfold hsL hpL hpV eC eE lT at *
    simp only at *
    cases ok2 with
    | false =>
      rw [if_pos rfl]
      refine told_of_ev (fn := heap_Heap_puts_fn) tabOk mixed (by kernel_rfl) (by kernel_rfl) (by kernel_rfl) (by kernel_rfl) ?_
      (refine gw ?_; refine Choice.mk ⟨false, Choice.mk ⟨false, _, _, c1, ?_⟩⟩)
      (refine gw ?_; refine Choice.mk ⟨false, Choice.mk ⟨false, _, _, c2, ?_⟩⟩)
      (refine gw ?_; refine Choice.mk ⟨false, Choice.mk ⟨false, _, _, c3, ?_⟩⟩)
      (refine gw ?_; refine Choice.mk ⟨false, Choice.mk ⟨true, _, _, hpage, Need.mk rfl ?_⟩⟩)
      (refine gw ?_; refine Choice.mk ⟨false, Choice.mk ⟨false, _, _, c4, ?_⟩⟩)
      (refine gw ?_; exact RetN.mk ⟨[], rfl, rfl, rfl⟩)
    | true =>
      rw [if_neg (show ¬ (true = false) by decide)]
      simp only
      refine told_of_ev (fn := heap_Heap_puts_fn) tabOk mixed (by kernel_rfl) (by kernel_rfl) (by kernel_rfl) (by kernel_rfl) ?_
      (refine gw ?_; refine Choice.mk ⟨false, Choice.mk ⟨false, _, _, c1, ?_⟩⟩)
      (refine gw ?_; refine Choice.mk ⟨false, Choice.mk ⟨false, _, _, c2, ?_⟩⟩)
      (refine gw ?_; refine Choice.mk ⟨false, Choice.mk ⟨false, _, _, c3, ?_⟩⟩)
      (refine gw ?_; refine Choice.mk ⟨false, Choice.mk ⟨true, _, _, hpage, Need.mk rfl ?_⟩⟩)
      (refine gw ?_; refine Choice.mk ⟨false, Choice.mk ⟨false, _, _, c4, ?_⟩⟩)
      have hfl : ((fr.map fun n => i64 (n : Nat))).length = fr.length := by simp
      have hf0 : ∀ p, fillK mem c.Sd p c.Pg 0 = mem := fun p => fillK_zero _ _ _ _
      (refine gw ?_; refine LoopN.mk ⟨[0,1,2,10,11,15,72,73,74], fun vs L => ∃ j : Nat, vs = [.ptr 0 0 0, i64 n, i64 q, .ptr 4 0 0, i64 y, .lst t_bool (on2.map .bool), .lst t_int (fr.map fun n => i64 (n : Nat)), i64 (fr.map fun n => i64 (n : Nat)).length, i64 j] ∧ L = hpL c g cl b m live peak mark on ds met ((fr.take j).foldl (fun mem p => fillF mem c.Sd p c.Pg) mem) ++ [.var (eE c.G g cl (placeB g cl b (k' : Nat)) (placeL c.G g cl b m (k' : Nat)))] ∧ j ≤ fr.length, fun vs L => match vs with | [_, _, _, _, _, _, _, _, .int _ i] => fr.length - i.toNat | _ => 0, [], [4], rfl, ⟨0, rfl, rfl, by omega⟩, ?_⟩)
      rintro vs L ⟨j, rfl, rfl, hj⟩
      have hmj : ((fr.take j).foldl (fun mem p => fillF mem c.Sd p c.Pg) mem).length = c.H := by rw [fold_len]; exact hmeml
      have hfs := fun h : j < fr.length => fold_suc mem c.Sd c.Pg h
      generalize hMj : (fr.take j).foldl (fun mem p => fillF mem c.Sd p c.Pg) mem = mj at *
      by_cases hjf : j < fr.length
      · have hx : ∀ Q : AV → Prop, Q (i64 (fr[j] : Nat)) → Idx (fr.map fun n => i64 (n : Nat)) ((j : Nat) : Int) Q := fun Q q => idx_map (f := fun n : Nat => i64 (n : Nat)) hjf q
        have hpj : fr[j] < met.length := by have := hfr _ (List.getElem_mem hjf); omega
        have hfs := hfs hjf
        have hk0 := fillK_zero mj c.Sd fr[j] c.Pg
        have hke := fillK_end (mem := mj) (seed := c.Sd) (page := fr[j]) h.pg1
        have hkl := fun k => fillK_len mj c.Sd fr[j] c.Pg k
        have hks := fun k (h : k < c.Pg) => fillK_set (mem := mj) (seed := c.Sd) (page := fr[j]) h
        have hpp := fun i (hi : i < c.Pg) => hpH fr[j] i hpj hi
        generalize fr[j] = pp at *
        unfold hpL hpV
        (refine gw ?_; refine IfB.tt (by rw [hfl]; simp; omega) ?_)
        (refine gw ?_)
        refine hx _ ?_
        (refine gw ?_; refine LoopN.mk ⟨[0,1,2,10,11,15,18,72,73,74,82,83], fun vs L => ∃ i : Nat, vs = [.ptr 0 0 0, i64 n, i64 q, .ptr 4 0 0, i64 y, .lst t_bool (on2.map .bool), i64 pp, .lst t_int (fr.map fun n => i64 (n : Nat)), i64 (fr.map fun n => i64 (n : Nat)).length, i64 j, i64 c.Pg, i64 i] ∧ L = hpL c g cl b m live peak mark on ds met (fillK mj c.Sd pp c.Pg i) ++ [.var (eE c.G g cl (placeB g cl b (k' : Nat)) (placeL c.G g cl b m (k' : Nat)))] ∧ i ≤ c.Pg, fun vs L => match vs with | [_, _, _, _, _, _, _, _, _, _, _, .int _ i] => c.Pg - i.toNat | _ => 0, [], [4], rfl, ⟨0, rfl, by rw [hk0]; rfl, by omega⟩, ?_⟩)
        rintro vs L ⟨i, rfl, rfl, hi⟩
        have hl2 : ((fillK mj c.Sd pp c.Pg i).map u8).length = c.H := by rw [List.length_map, hkl, hmj]
        by_cases hic : i < c.Pg
        · have cj := junkByte_told c.Sd pp i
          have hpp := hpp i hic
          have hks := hks i hic
          have hpm : (pp : Int) * (c.Pg : Int) = ((pp * c.Pg : Nat) : Int) := (Int.natCast_mul _ _).symm
          generalize pp * c.Pg = pc at *
          unfold hpL hpV
          (refine gw ?_; refine IfB.tt (by simp; omega) ?_)
          (refine gw ?_; refine Choice.mk ⟨false, Choice.mk ⟨false, _, _, cj, ?_⟩⟩)
          (refine gw ?_)
          rw [hpm]
          (refine gw ?_; refine ⟨[], [4], rfl, ⟨i + 1, rfl, by rw [← hks, List.map_set]; rfl, by omega⟩, (by omega : c.Pg - ((i : Int) + 1).toNat < c.Pg - (i : Int).toNat)⟩)
        · have hii : i = c.Pg := by omega
          have hfe : fillK mj c.Sd pp c.Pg i = (fr.take (j + 1)).foldl (fun mem p => fillF mem c.Sd p c.Pg) mem := by rw [hii, hke, hfs]
          rw [hfe]
          unfold hpL hpV
          (refine gw ?_; refine IfB.ff (by simp; omega) ?_)
          (refine gw ?_)
          refine ⟨[], [4], rfl, ⟨j + 1, rfl, rfl, hjf⟩, (by omega : fr.length - ((j : Int) + 1).toNat < fr.length - (j : Int).toNat)⟩
      · have hjj : j = fr.length := by omega
        have hMe : fr.foldl (fun mem p => fillF mem c.Sd p c.Pg) mem = mj := by rw [← hMj, hjj, List.take_length]
        have cb := hback on2 ds met mj hmet2 h.pg1 y n q hn1 (by omega) (fun i => by have := h.mb i; simp only at this; omega) hpg (by have : 0 ≤ live ∧ live ≤ 100000 := hlv; omega)
        unfold hpL hpV eE at *
        (refine gw ?_; refine IfB.ff (by rw [hfl]; simp; omega) ?_)
        have hm1 : ∀ a b : Int, (if b > a then b else a) = max a b := fun a b => by split <;> omega
        have hm2 : ∀ a b : Int, (if a < b then b else a) = max a b := fun a b => by split <;> omega
        have hcast : ((y + n : Nat) : Int) = (y : Int) + (n : Int) := by omega
        have hcz : (if true = false then (0 : Int) else 1) = 1 := rfl
        (refine gw ?_; refine Choice.mk ⟨true, Choice.mk ⟨false, _, _, cb, ?_⟩⟩)
        rw [hMe, hcast, ← hm1 peak, ← hm1 mark]
        (refine gw ?_; exact RetN.mk ⟨[], rfl, rfl, rfl⟩)
end Go.Ev.W
namespace Go.Ev.W
open Go.Ev Go.Ev.N

theorem hpAsksE_told {c : Cf} {g cl : Nat} {s : Hs} (n : Int) (q : Int) {e : Nat} (he : 1 ≤ e) (he2 : e ≤ 100) :
    Told P T heap_Heap_asks (hsL c g cl s) [.ptr 0 0 0, i64 n, i64 q, i64 e] (eA (anE e)) (hsL c g cl s) := by
  unfold hsL hpL hpV
  refine told_of_ev (fn := heap_Heap_asks_fn) tabOk mixed (by kernel_rfl) (by kernel_rfl) (by kernel_rfl) (by kernel_rfl) ?_
  (refine gw ?_; refine IfB.tt (by simp; omega) ?_)
  (refine gw ?_; exact RetN.mk ⟨[], rfl, rfl, rfl⟩)
set_option maxRecDepth 20000 in
theorem hpAsks_told {c : Cf} {g cl : Nat} {s : Hs} (h : HsOk c g cl s) {k : Nat} (hk : k ≤ c.L) (hb : c.G * 2 ^ k ≤ 65536) (q : Int) :
    Told P T heap_Heap_asks (hsL c g cl s) [.ptr 0 0 0, i64 (c.G * 2 ^ k : Nat), i64 q, i64 0] (eA { an0 with e := (putsF c g cl s k q).2.2, at' := (putsF c g cl s k q).2.1 }) (hsL c g cl (putsF c g cl s k q).1) := by
  have c1 := hpPuts_told h hk hb q
  generalize putsF c g cl s k q = r at *
  unfold hsL hpL hpV at *
  refine told_of_ev (fn := heap_Heap_asks_fn) tabOk mixed (by kernel_rfl) (by kernel_rfl) (by kernel_rfl) (by kernel_rfl) ?_
  (refine gw ?_; refine Choice.mk ⟨true, Choice.mk ⟨false, _, _, c1, ?_⟩⟩)
  (refine gw ?_; exact RetN.mk ⟨[], rfl, rfl, rfl⟩)
def givH (c : Cf) (g cl : Nat) (s : Hs) (ce : Nat × Nat) (q : Int) : Hs × An :=
  if ce.2 ≠ 0 then (s, anE ce.2)
  else ((putsF c g cl s (Nat.log2 (ce.1 / c.G)) q).1, { an0 with e := (putsF c g cl s (Nat.log2 (ce.1 / c.G)) q).2.2, at' := (putsF c g cl s (Nat.log2 (ce.1 / c.G)) q).2.1 })
theorem hpAsksG_told {c : Cf} {g cl : Nat} {s : Hs} (h : HsOk c g cl s) (ce : Nat × Nat) (he : ce.2 ≤ 100) (hk : ce.2 = 0 → ∃ k, k ≤ c.L ∧ ce.1 = c.G * 2 ^ k) (q : Int) :
    Told P T heap_Heap_asks (hsL c g cl s) [.ptr 0 0 0, i64 (ce.1 : Nat), i64 q, i64 (ce.2 : Nat)] (eA (givH c g cl s ce q).2) (hsL c g cl (givH c g cl s ce q).1) := by
  unfold givH
  by_cases h0 : ce.2 = 0
  · rw [if_neg (by omega)]
    obtain ⟨k, hk1, hk2⟩ := hk h0
    have hg := h.eg.g1
    have hlog : Nat.log2 (ce.1 / c.G) = k := by rw [hk2, Nat.mul_div_cancel_left _ (by omega), Nat.log2_two_pow]
    rw [hlog, hk2, h0]
    refine hpAsks_told h hk1 ?_ q
    have hN := h.ok.n
    have h1 : c.G * 2 ^ k ≤ c.N := by rw [hN]; exact Nat.mul_le_mul_left _ (Nat.pow_le_pow_right (by omega) hk1)
    have h2 := h.ok.nM
    have h3 := h.ok.mH
    omega
  · rw [if_pos h0]
    exact hpAsksE_told _ q (by omega) he
end Go.Ev.W
namespace Go.Ev.W
open Go.Ev Go.Ev.N

theorem newF_e (c : Cf) (live s a : Int) : (newF c live s a).2 ≤ 5 := by
  unfold newF
  split
  · unfold chargeF
    split
    · simp
    · split <;> simp
  · split <;> simp
set_option maxRecDepth 20000 in
set_option maxHeartbeats 1000000 in
theorem hpAligned_told {c : Cf} {g cl : Nat} {s : Hs} (h : HsOk c g cl s) (z a : Int) (ha : a ≤ 9223372036854775807) :
    Told P T heap_Heap_aligned (hsL c g cl s) [.ptr 0 0 0, i64 z, i64 a] (eA (givH c g cl s (newF c s.live z a) z).2) (hsL c g cl (givH c g cl s (newF c s.live z a) z).1) := by
  have c1 := admitNew_told h.ok s.live z a (by have := h.lv; omega) ha
  have c2 := hpAsksG_told h (newF c s.live z a) (by have := newF_e c s.live z a; omega) (fun e => (newF_ok h.ok e).1) z
  generalize givH c g cl s (newF c s.live z a) z = r at *
  generalize newF c s.live z a = ce at *
  unfold hsL hpL hpV eC at *
  refine told_of_ev (fn := heap_Heap_aligned_fn) tabOk mixed (by kernel_rfl) (by kernel_rfl) (by kernel_rfl) (by kernel_rfl) ?_
  (refine gw ?_; refine Choice.mk ⟨false, Choice.mk ⟨false, _, _, c1, ?_⟩⟩)
  (refine gw ?_; refine Choice.mk ⟨true, Choice.mk ⟨false, _, _, c2, ?_⟩⟩)
  (refine gw ?_; exact RetN.mk ⟨[], rfl, rfl, rfl⟩)
end Go.Ev.W
namespace Go.Ev.W
open Go.Ev Go.Ev.N

theorem manyF_e (c : Cf) (live n s : Int) : (manyF c live n s).2 ≤ 5 := by
  unfold manyF
  split
  · unfold prodF
    split
    · simp
    · split <;> simp
  · exact newF_e _ _ _ _
theorem zero_row {mem : List Nat} {a n : Nat} (h : a + n ≤ mem.length) : (mem.map u8).take a ++ (List.replicate n (zeroE T t_uint8) ++ (mem.map u8).drop (a + n)) = (zeroF mem a n).map u8 := by
  have hz : zeroE T t_uint8 = u8 0 := rfl
  rw [hz]
  apply List.ext_getElem?
  intro j
  rw [List.getElem?_map]
  unfold zeroF
  rw [List.getElem?_map]
  by_cases hj : j < mem.length
  · rw [List.getElem?_range hj]
    by_cases h1 : j < a
    · rw [List.getElem?_append_left (by simp; omega), List.getElem?_take_of_lt h1]
      simp [hj, List.getD_eq_getElem?_getD, show ¬ (a ≤ j) by omega]
    · rw [List.getElem?_append_right (by simp; omega)]
      have e1 : ((mem.map u8).take a).length = a := by simp; omega
      rw [e1]
      by_cases h2 : j < a + n
      · rw [List.getElem?_append_left (by simp; omega)]
        simp [show a ≤ j by omega, h2, List.getElem?_replicate, show j - a < n by omega]
      · rw [List.getElem?_append_right (by simp; omega)]
        simp [hj, List.getD_eq_getElem?_getD, show ¬ (j < a + n) by omega, List.getElem?_drop, show a + n + (j - a - n) = j by omega]
  · rw [List.getElem?_eq_none (by simp; omega), List.getElem?_eq_none (by simp; omega)]
    rfl
def callH (c : Cf) (g cl : Nat) (s : Hs) (n z : Int) : Hs × An :=
  let r := givH c g cl s (manyF c s.live n z) (prodF c n z).1
  if r.2.e = 0 then ({ r.1 with mem := zeroF r.1.mem r.2.at'.toNat (manyF c s.live n z).1 }, r.2) else r
set_option maxRecDepth 20000 in
set_option maxHeartbeats 1000000 in
theorem hpCalloc_told {c : Cf} {g cl : Nat} {s : Hs} (h : HsOk c g cl s) (n z : Int) (hn : -9223372036854775808 ≤ n ∧ n ≤ 9223372036854775807) (hz : -9223372036854775808 ≤ z ∧ z ≤ 9223372036854775807)
    (hr : ∀ r, r = givH c g cl s (manyF c s.live n z) (prodF c n z).1 → r.2.e = 0 → 0 ≤ r.2.at' ∧ r.2.at'.toNat + (manyF c s.live n z).1 ≤ r.1.mem.length ∧ r.1.mem.length ≤ 65536) :
    Told P T heap_Heap_calloc (hsL c g cl s) [.ptr 0 0 0, i64 n, i64 z] (eA (callH c g cl s n z).2) (hsL c g cl (callH c g cl s n z).1) := by
  have c1 := admitMany_told h.ok s.live n z (by have := h.lv; omega) hn hz
  have c2 := hpAsksG_told h (manyF c s.live n z) (by have := manyF_e c s.live n z; omega) (fun e => (manyF_ok h.ok e).1) (prodF c n z).1
  have c3 := classProd_told (c := c) (by have := h.ok.nM; have := h.ok.mH; omega) n z hn hz
  have hr := hr _ rfl
  unfold callH
  generalize givH c g cl s (manyF c s.live n z) (prodF c n z).1 = r at *
  generalize manyF c s.live n z = ce at *
  generalize prodF c n z = pr at *
  unfold hsL hpL hpV eC at *
  by_cases he : r.2.e = 0
  · obtain ⟨r1, r2, r3⟩ := hr he
    simp only [if_pos he]
    refine told_of_ev (fn := heap_Heap_calloc_fn) tabOk mixed (by kernel_rfl) (by kernel_rfl) (by kernel_rfl) (by kernel_rfl) ?_
    (refine gw ?_; refine Choice.mk ⟨false, Choice.mk ⟨false, _, _, c1, ?_⟩⟩)
    (refine gw ?_; refine Choice.mk ⟨false, Choice.mk ⟨false, _, _, c3, ?_⟩⟩)
    (refine gw ?_; refine Choice.mk ⟨true, Choice.mk ⟨false, _, _, c2, ?_⟩⟩)
    (refine gw ?_; refine IfB.tt (by simp; omega) ?_)
    have hml : (r.1.mem.map u8).length = r.1.mem.length := by simp
    have hrow := zero_row (mem := r.1.mem) (a := r.2.at'.toNat) (n := ce.1) r2
    rw [show ce.1 = (r.2.at' + (ce.1 : Int)).toNat - r.2.at'.toNat by omega] at hrow
    rw [show zeroF r.1.mem r.2.at'.toNat ce.1 = zeroF r.1.mem r.2.at'.toNat ((r.2.at' + (ce.1 : Int)).toNat - r.2.at'.toNat) by rw [show (r.2.at' + (ce.1 : Int)).toNat - r.2.at'.toNat = ce.1 by omega]]
    rw [← hrow]
    (refine gw ?_)
    refine Cut.mk (by omega) (by omega) (by rw [hml]; omega) ?_
    (refine gw ?_; exact RetN.mk ⟨[], rfl, rfl, rfl⟩)
  · simp only [if_neg he]
    refine told_of_ev (fn := heap_Heap_calloc_fn) tabOk mixed (by kernel_rfl) (by kernel_rfl) (by kernel_rfl) (by kernel_rfl) ?_
    (refine gw ?_; refine Choice.mk ⟨false, Choice.mk ⟨false, _, _, c1, ?_⟩⟩)
    (refine gw ?_; refine Choice.mk ⟨false, Choice.mk ⟨false, _, _, c3, ?_⟩⟩)
    (refine gw ?_; refine Choice.mk ⟨true, Choice.mk ⟨false, _, _, c2, ?_⟩⟩)
    (refine gw ?_; refine IfB.ff (by simp; omega) ?_)
    (refine gw ?_; exact RetN.mk ⟨[], rfl, rfl, rfl⟩)
end Go.Ev.W
namespace Go.Ev.W
open Go.Ev Go.Ev.N

theorem hpDoNil_told (o : X.O) : Told P T heap_Heap_Do [] [.npt, X.encO o] (eA (anE 1)) [] := by
  unfold X.encO
  refine told_of_ev (fn := heap_Heap_Do_fn) tabOk mixed (by kernel_rfl) (by kernel_rfl) (by kernel_rfl) (by kernel_rfl) ?_
  (refine gw ?_; exact RetN.mk ⟨[], rfl, rfl, rfl⟩)
end Go.Ev.W
namespace Go.Ev.W
open Go.Ev Go.Ev.N

theorem hpRealE_told {c : Cf} {g cl : Nat} {s : Hs} (h : HsOk c g cl s) (y : Int) (old : Int) (q z : Int) (ho : 0 ≤ old ∧ old ≤ s.live) (he : (newF c (s.live - old) z 1).2 ≠ 0) :
    Told P T heap_Heap_realloc (hsL c g cl s) [.ptr 0 0 0, .agg [i64 y, i64 old, i64 q], i64 z] (eA (anE (newF c (s.live - old) z 1).2)) (hsL c g cl s) := by
  have c1 := admitAnew_told h.ok s.live old z (by have := h.lv; omega)
  generalize newF c (s.live - old) z 1 = ce at *
  unfold hsL hpL hpV eC at *
  refine told_of_ev (fn := heap_Heap_realloc_fn) tabOk mixed (by kernel_rfl) (by kernel_rfl) (by kernel_rfl) (by kernel_rfl) ?_
  (refine gw ?_; refine Choice.mk ⟨false, Choice.mk ⟨false, _, _, c1, ?_⟩⟩)
  (refine gw ?_; refine IfB.tt (by simp; omega) ?_)
  (refine gw ?_; exact RetN.mk ⟨[], rfl, rfl, rfl⟩)
end Go.Ev.W
namespace Go.Ev.W
open Go.Ev Go.Ev.N

theorem class_bdH {c : Cf} (hc : c.Ok) : ∀ ch, (∃ k, k ≤ c.L ∧ ch = c.G * 2 ^ k) → 1 ≤ ch ∧ ch ≤ c.N := fun ch ⟨k, h1, h2⟩ => by
  rw [h2, hc.n]
  exact ⟨Nat.mul_pos hc.gpos (Nat.two_pow_pos _), Nat.mul_le_mul_left _ (Nat.pow_le_pow_right (by omega) h1)⟩
def goneF (c : Cf) (s : Hs) (y n : Nat) : Hs := ⟨relB c.G s.b s.m y, relL s.m y, s.live - n, s.peak, s.mark, s.on, delS y s.ds, metA s.met (y / c.Pg) ((y + n - 1) / c.Pg + 1) (-1), s.mem⟩
def backF (c : Cf) (s0 s : Hs) (y n : Nat) (q : Int) : Hs := ⟨s0.b, s0.m, s.live + n, s.peak, s.mark, s.on, setS ⟨y, n, q⟩ s.ds, metA s.met (y / c.Pg) ((y + n - 1) / c.Pg + 1) 1, s.mem⟩
def realH (c : Cf) (g cl : Nat) (s : Hs) (y n : Nat) (q z : Int) : Hs × An :=
  let ce := newF c (s.live - n) z 1
  if ce.2 ≠ 0 then (s, anE ce.2)
  else
    let r := givH c g cl (goneF c s y n) (ce.1, 0) z
    if r.2.e ≠ 0 then (backF c s (goneF c s y n) y n q, r.2)
    else ({ r.1 with mem := r.1.mem.take r.2.at'.toNat ++ (s.mem.drop y).take (min n ce.1) ++ r.1.mem.drop (r.2.at'.toNat + min n ce.1) }, r.2)
theorem putsF_no {c : Cf} {g cl : Nat} {s : Hs} {k : Nat} {q : Int} (h : (putsF c g cl s k q).2.2 ≠ 0) : (putsF c g cl s k q).1 = s := by
  unfold putsF at h ⊢
  split
  · rfl
  · rename_i i hi
    rw [hi] at h
    simp only at h ⊢
    split
    · rfl
    · rename_i h2
      rw [if_neg h2] at h
      exact absurd rfl h
theorem givH_no {c : Cf} {g cl : Nat} {s : Hs} {n : Nat} {q : Int} (h : (givH c g cl s (n, 0) q).2.e ≠ 0) : (givH c g cl s (n, 0) q).1 = s := by
  unfold givH at h ⊢
  rw [if_neg (by simp)] at h ⊢
  exact putsF_no h
theorem copy_row {mem was : List Nat} {y n a : Nat} (h : y + n ≤ was.length) (h2 : a + n ≤ mem.length) :
    (mem.map u8).take a ++ (List.take (min (((was.map u8).drop ((y : Nat) : Int).toNat).take ((((y : Nat) : Int) + ((n : Nat) : Int)).toNat - ((y : Nat) : Int).toNat)).length (((mem.map u8).length : Int).toNat - a)) (((was.map u8).drop ((y : Nat) : Int).toNat).take ((((y : Nat) : Int) + ((n : Nat) : Int)).toNat - ((y : Nat) : Int).toNat)) ++ (mem.map u8).drop (a + min (((was.map u8).drop ((y : Nat) : Int).toNat).take ((((y : Nat) : Int) + ((n : Nat) : Int)).toNat - ((y : Nat) : Int).toNat)).length (((mem.map u8).length : Int).toNat - a))) = (mem.take a ++ (was.drop y).take n ++ mem.drop (a + n)).map u8 := by
  have e1 : (((y : Nat) : Int) + ((n : Nat) : Int)).toNat - ((y : Nat) : Int).toNat = n := by omega
  have e3 : (((mem.map u8).length : Nat) : Int).toNat = mem.length := by simp
  rw [e1, e3, Int.toNat_natCast]
  have e2 : (((was.map u8).drop y).take n).length = n := by simp; omega
  have e4 : min n (mem.length - a) = n := by omega
  rw [e2, e4, show List.take n (((was.map u8).drop y).take n) = ((was.map u8).drop y).take n from List.take_of_length_le (by rw [e2]; exact Nat.le_refl _)]
  simp only [List.map_append, List.map_take, List.map_drop, List.append_assoc]
theorem scal_row (e : Nat) (es : List AV) (h : ∀ x ∈ es, scal2 x = true) : scalRow (.row e es) := h
set_option maxRecDepth 20000 in
set_option maxHeartbeats 4000000 in
theorem hpReal_told {c : Cf} {g cl : Nat} {s : Hs} (h : HsOk c g cl s) {y n : Nat} {q : Int} (h1 : HsOk c g cl (goneF c s y n)) (hn : 1 ≤ n) (hyn : y + n ≤ c.H) (hlv : (n : Int) ≤ s.live) (z : Int)
    (hr : (newF c (s.live - n) z 1).2 = 0 → ∀ r, r = givH c g cl (goneF c s y n) ((newF c (s.live - n) z 1).1, 0) z → r.2.e = 0 → 0 ≤ r.2.at' ∧ r.2.at'.toNat + (newF c (s.live - n) z 1).1 ≤ r.1.mem.length ∧ r.1.mem.length ≤ 65536) :
    Told P T heap_Heap_realloc (hsL c g cl s) [.ptr 0 0 0, .agg [i64 y, i64 n, i64 q], i64 z] (eA (realH c g cl s y n q z).2) (hsL c g cl (realH c g cl s y n q z).1) := by
  by_cases he : (newF c (s.live - n) z 1).2 = 0
  case neg =>
    have := hpRealE_told h y n q z (by omega) he
    unfold realH
    simp only [if_pos he]
    exact this
  have hH := h.ok.h2
  have c1 := admitAnew_told h.ok s.live n z (by have := h.lv; omega)
  have c2 := hpAsksG_told h1 ((newF c (s.live - n) z 1).1, 0) (by simp) (fun _ => (newF_ok h.ok he).1) z
  have hno := givH_no (c := c) (g := g) (cl := cl) (s := goneF c s y n) (n := (newF c (s.live - n) z 1).1) (q := z)
  have hmeml : s.mem.length = c.H := h.mem
  have hml2 : s.met.length ≤ 65536 := by have := h.met; have : c.H / c.Pg ≤ c.H := Nat.div_le_self _ _; omega
  have hmb := h.mb
  have hmb1 := h1.mb
  have c0 := hpGone_told c g cl s.b s.m h.eg s.live s.peak s.mark s.on s.ds s.met s.mem hml2 h.pg1 y n q hn (by omega) (fun i => by have := hmb i; omega) (h.pg _ _ hn hyn) (by have := h.lv; omega)
  have c4 := hpBack_told c g cl (goneF c s y n).b s.b (goneF c s y n).m s.m (goneF c s y n).live s.peak s.mark s.on (goneF c s y n).ds (goneF c s y n).met s.mem (by rw [show (goneF c s y n).met.length = s.met.length from metA_len _ _ _ _]; exact hml2) h.pg1 y n q hn (by omega) (fun i => by have := hmb1 i; omega) (by rw [show (goneF c s y n).met.length = s.met.length from metA_len _ _ _ _]; exact h.pg _ _ hn hyn) (by have := h1.lv; omega)
  unfold realH
  simp only [he]
  replace hr := hr he _ rfl
  have hch := class_bdH h.ok _ (newF_ok h.ok he).1
  generalize givH c g cl (goneF c s y n) ((newF c (s.live - n) z 1).1, 0) z = r at *
  generalize newF c (s.live - n) z 1 = ce at *
  obtain ⟨ch, e⟩ := ce
  simp only at he hr hch c1 c2
  subst he
  have c3 := fun es he => clone_byte es he
  obtain ⟨N, hN, hN1, hN2⟩ : ∃ N : Nat, min n ch = N ∧ N ≤ n ∧ N ≤ ch := ⟨min n ch, rfl, by omega, by omega⟩
  rw [hN]
  have hcut : (if (ch : Int) < (n : Int) then (ch : Int) else (n : Int)) = ((N : Nat) : Int) := by split <;> omega
  by_cases hre : r.2.e = 0
  · obtain ⟨r1, r2, r3⟩ := hr hre
    simp only [ne_eq, not_true_eq_false, if_false, hre]
    unfold goneF hsL hpL hpV eC at *
    refine told_of_ev (fn := heap_Heap_realloc_fn) tabOk mixed (by kernel_rfl) (by kernel_rfl) (by kernel_rfl) (by kernel_rfl) ?_
    (refine gw ?_; refine Choice.mk ⟨false, Choice.mk ⟨false, _, _, c1, ?_⟩⟩)
    (refine gw ?_)
    rw [hcut]
    (refine gw ?_)
    refine Cut.mk (by omega) (by omega) (by simp; omega) ?_
    (refine gw ?_)
    refine Choice.mk ⟨false, Choice.mk ⟨true, ?_⟩⟩
    refine ⟨_, _, c3 _ (by simp; omega), Need.mk ?_ ?_⟩
    · exact scal_row _ _ fun x hx => by
        obtain ⟨v, _, rfl⟩ := List.mem_map.1 (List.mem_of_mem_drop (List.mem_of_mem_take hx))
        rfl
    (refine gw ?_; refine Choice.mk ⟨true, Choice.mk ⟨false, _, _, c0, ?_⟩⟩)
    (refine gw ?_; refine Choice.mk ⟨true, Choice.mk ⟨false, _, _, c2, ?_⟩⟩)
    (refine gw ?_; refine IfB.ff (by simp; omega) ?_)
    (refine gw ?_)
    refine Cut.mk (by omega) (by simp; omega) (by simp) ?_
    have hrow := copy_row (mem := r.1.mem) (was := s.mem) (y := y) (n := N) (a := r.2.at'.toNat) (by omega) (by omega)
    rw [← hrow]
    (refine gw ?_; exact RetN.mk ⟨[], rfl, rfl, rfl⟩)
  · simp only [ne_eq, not_true_eq_false, if_false, hre, not_false_eq_true, if_true]
    unfold goneF hsL hpL hpV eC at *
    refine told_of_ev (fn := heap_Heap_realloc_fn) tabOk mixed (by kernel_rfl) (by kernel_rfl) (by kernel_rfl) (by kernel_rfl) ?_
    (refine gw ?_; refine Choice.mk ⟨false, Choice.mk ⟨false, _, _, c1, ?_⟩⟩)
    (refine gw ?_)
    rw [hcut]
    (refine gw ?_)
    refine Cut.mk (by omega) (by omega) (by simp; omega) ?_
    (refine gw ?_)
    refine Choice.mk ⟨false, Choice.mk ⟨true, ?_⟩⟩
    refine ⟨_, _, c3 _ (by simp; omega), Need.mk ?_ ?_⟩
    · exact scal_row _ _ fun x hx => by
        obtain ⟨v, _, rfl⟩ := List.mem_map.1 (List.mem_of_mem_drop (List.mem_of_mem_take hx))
        rfl
    (refine gw ?_; refine Choice.mk ⟨true, Choice.mk ⟨false, _, _, c0, ?_⟩⟩)
    (refine gw ?_; refine Choice.mk ⟨true, Choice.mk ⟨false, _, _, c2, ?_⟩⟩)
    (refine gw ?_; refine IfB.tt (by simp; omega) ?_)
    rw [hno hre]
    (refine gw ?_; refine Choice.mk ⟨true, Choice.mk ⟨false, _, _, c4, ?_⟩⟩)
    (refine gw ?_; exact RetN.mk ⟨[], rfl, rfl, rfl⟩)
end Go.Ev.W
namespace Go.Ev.W
open Go.Ev Go.Ev.N

/-- A call to a block that was found. -/
def onH (c : Cf) (g cl : Nat) (s : Hs) (o : X.O) (y n : Nat) (q : Int) : Hs × An :=
  if o.k = 4 then realH c g cl s y n q o.s
  else if o.k = 5 then (goneF c s y n, an0)
  else if o.k = 6 then (s, { an0 with n := n })
  else if o.n < 0 ∨ o.n ≥ n then (s, anE 9)
  else if o.k = 7 then (s, { an0 with b := s.mem.getD (y + o.n.toNat) 0 })
  else ({ s with mem := s.mem.set (y + o.n.toNat) o.b.toNat }, an0)
theorem hpBlockN_told {c : Cf} {g cl : Nat} {s : Hs} (o : X.O) (h : getS o.p s.ds = none) :
    Told P T heap_Heap_block (hsL c g cl s) [.ptr 0 0 0, X.encO o] (eA (anE 8)) (hsL c g cl s) := by
  have hg := mget_encS o.p s.ds
  rw [h] at hg
  unfold hsL hpL hpV X.encO at *
  refine told_of_ev (fn := heap_Heap_block_fn) tabOk mixed (by kernel_rfl) (by kernel_rfl) (by kernel_rfl) (by kernel_rfl) ?_
  (refine gw ?_)
  refine Get.of hg ?_
  (refine gw ?_; exact RetN.mk ⟨[], rfl, rfl, rfl⟩)
structure OnOk' (c : Cf) (g cl : Nat) (s : Hs) (o : X.O) (y n : Nat) : Prop where
  h1 : HsOk c g cl (goneF c s y n)
  n1 : 1 ≤ n
  yn : y + n ≤ c.H
  lv : (n : Int) ≤ s.live
  r : (newF c (s.live - n) o.s 1).2 = 0 → ∀ r, r = givH c g cl (goneF c s y n) ((newF c (s.live - n) o.s 1).1, 0) o.s → r.2.e = 0 → 0 ≤ r.2.at' ∧ r.2.at'.toNat + (newF c (s.live - n) o.s 1).1 ≤ r.1.mem.length ∧ r.1.mem.length ≤ 65536
set_option maxRecDepth 20000 in
set_option maxHeartbeats 4000000 in
theorem hpBlock_told {c : Cf} {g cl : Nat} {s : Hs} (h : HsOk c g cl s) {o : X.O} (ho : OpOk o) {y n : Nat} {q : Int} (hs : getS o.p s.ds = some ⟨y, n, q⟩) (h2 : OnOk' c g cl s o y n) :
    Told P T heap_Heap_block (hsL c g cl s) [.ptr 0 0 0, X.encO o] (eA (onH c g cl s o y n q).2) (hsL c g cl (onH c g cl s o y n q).1) := by
  have hg := mget_encS o.p s.ds
  rw [hs] at hg
  have hH := h.ok.h2
  have hmb := h.mb
  have hml2 : s.met.length ≤ 65536 := by have := h.met; have : c.H / c.Pg ≤ c.H := Nat.div_le_self _ _; omega
  have c1 := hpReal_told h (q := q) h2.h1 h2.n1 h2.yn h2.lv o.s h2.r
  have c0 := hpGone_told c g cl s.b s.m h.eg s.live s.peak s.mark s.on s.ds s.met s.mem hml2 h.pg1 y n q h2.n1 (by have := h2.yn; omega) (fun i => by have := hmb i; omega) (h.pg _ _ h2.n1 h2.yn) (by have := h.lv; omega)
  have hyn := h2.yn
  have hn1 := h2.n1
  have hon := ho.n
  have hob := ho.b
  have hmm := h.mem
  unfold onH
  generalize realH c g cl s y n q o.s = R at *
  by_cases h4 : o.k = 4
  · rw [if_pos h4]
    unfold hsL hpL hpV X.encO at *
    refine told_of_ev (fn := heap_Heap_block_fn) tabOk mixed (by kernel_rfl) (by kernel_rfl) (by kernel_rfl) (by kernel_rfl) ?_
    (refine gw ?_)
    refine Get.of hg ?_
    (refine gw ?_; refine IfB.tt (by simpa using h4) ?_)
    (refine gw ?_; refine Choice.mk ⟨true, Choice.mk ⟨false, _, _, c1, ?_⟩⟩)
    (refine gw ?_; exact RetN.mk ⟨[], rfl, rfl, rfl⟩)
  rw [if_neg h4]
  by_cases h5 : o.k = 5
  · rw [if_pos h5]
    unfold goneF hsL hpL hpV X.encO at *
    refine told_of_ev (fn := heap_Heap_block_fn) tabOk mixed (by kernel_rfl) (by kernel_rfl) (by kernel_rfl) (by kernel_rfl) ?_
    (refine gw ?_)
    refine Get.of hg ?_
    (refine gw ?_; refine IfB.ff (by simpa using h4) ?_)
    (refine gw ?_; refine IfB.tt (by simpa using h5) ?_)
    (refine gw ?_; refine Choice.mk ⟨true, Choice.mk ⟨false, _, _, c0, ?_⟩⟩)
    (refine gw ?_; exact RetN.mk ⟨[], rfl, rfl, rfl⟩)
  rw [if_neg h5]
  by_cases h6 : o.k = 6
  · rw [if_pos h6]
    unfold hsL hpL hpV X.encO at *
    refine told_of_ev (fn := heap_Heap_block_fn) tabOk mixed (by kernel_rfl) (by kernel_rfl) (by kernel_rfl) (by kernel_rfl) ?_
    (refine gw ?_)
    refine Get.of hg ?_
    (refine gw ?_; refine IfB.ff (by simpa using h4) ?_)
    (refine gw ?_; refine IfB.ff (by simpa using h5) ?_)
    (refine gw ?_; refine IfB.tt (by simpa using h6) ?_)
    (refine gw ?_; exact RetN.mk ⟨[], rfl, rfl, rfl⟩)
  rw [if_neg h6]
  by_cases hb : o.n < 0 ∨ o.n ≥ n
  · rw [if_pos hb]
    unfold hsL hpL hpV X.encO at *
    refine told_of_ev (fn := heap_Heap_block_fn) tabOk mixed (by kernel_rfl) (by kernel_rfl) (by kernel_rfl) (by kernel_rfl) ?_
    (refine gw ?_)
    refine Get.of hg ?_
    (refine gw ?_; refine IfB.ff (by simpa using h4) ?_)
    (refine gw ?_; refine IfB.ff (by simpa using h5) ?_)
    (refine gw ?_; refine IfB.ff (by simpa using h6) ?_)
    by_cases hb1 : o.n < 0
    · (refine gw ?_; refine IfB.tt (by simpa using hb1) ?_)
      (refine gw ?_; exact RetN.mk ⟨[], rfl, rfl, rfl⟩)
    · (refine gw ?_; refine IfB.ff (by simp; omega) ?_)
      (refine gw ?_; refine IfB.tt (by simp; omega) ?_)
      (refine gw ?_; exact RetN.mk ⟨[], rfl, rfl, rfl⟩)
  rw [if_neg hb]
  have hcast : (y : Int) + o.n = ((y + o.n.toNat : Nat) : Int) := by omega
  have hlt : y + o.n.toNat < s.mem.length := by omega
  by_cases h7 : o.k = 7
  · rw [if_pos h7]
    have hx : ∀ Q : AV → Prop, Q (u8 (s.mem.getD (y + o.n.toNat) 0)) → At (s.mem.map u8) ((y + o.n.toNat : Nat) : Int).toNat Q := fun Q q => at_map (k := y + o.n.toNat) hlt (by rw [show s.mem[y + o.n.toNat] = s.mem.getD (y + o.n.toNat) 0 by simp [List.getD_eq_getElem?_getD, hlt]]; exact q)
    unfold hsL hpL hpV X.encO at *
    refine told_of_ev (fn := heap_Heap_block_fn) tabOk mixed (by kernel_rfl) (by kernel_rfl) (by kernel_rfl) (by kernel_rfl) ?_
    (refine gw ?_)
    refine Get.of hg ?_
    (refine gw ?_; refine IfB.ff (by simpa using h4) ?_)
    (refine gw ?_; refine IfB.ff (by simpa using h5) ?_)
    (refine gw ?_; refine IfB.ff (by simpa using h6) ?_)
    (refine gw ?_; refine IfB.ff (by simp; omega) ?_)
    (refine gw ?_; refine IfB.ff (by simp; omega) ?_)
    (refine gw ?_; refine IfB.tt (by simpa using h7) ?_)
    (refine gw ?_)
    rw [hcast]
    refine fits (wrap64 (by omega) (by omega)) ?_
    (refine gw ?_)
    refine InB.mk (by omega) (by simp; omega) ?_
    (refine gw ?_)
    refine hx _ ?_
    (refine gw ?_; exact RetN.mk ⟨[], rfl, rfl, rfl⟩)
  · rw [if_neg h7]
    unfold hsL hpL hpV X.encO at *
    refine told_of_ev (fn := heap_Heap_block_fn) tabOk mixed (by kernel_rfl) (by kernel_rfl) (by kernel_rfl) (by kernel_rfl) ?_
    (refine gw ?_)
    refine Get.of hg ?_
    (refine gw ?_; refine IfB.ff (by simpa using h4) ?_)
    (refine gw ?_; refine IfB.ff (by simpa using h5) ?_)
    (refine gw ?_; refine IfB.ff (by simpa using h6) ?_)
    (refine gw ?_; refine IfB.ff (by simp; omega) ?_)
    (refine gw ?_; refine IfB.ff (by simp; omega) ?_)
    (refine gw ?_; refine IfB.ff (by simpa using h7) ?_)
    (refine gw ?_)
    rw [hcast]
    refine fits (wrap64 (by omega) (by omega)) ?_
    (refine gw ?_)
    refine InB.mk (by omega) (by simp; omega) ?_
    have hset : (s.mem.map u8).set (y + o.n.toNat) (.int .u8 o.b) = (s.mem.set (y + o.n.toNat) o.b.toNat).map u8 := by
      rw [List.map_set]; congr 1; show AV.int .u8 o.b = .int .u8 ((o.b.toNat : Nat) : Int); congr 1; omega
    rw [← hset]
    (refine gw ?_; exact RetN.mk ⟨[], rfl, rfl, rfl⟩)
end Go.Ev.W
namespace Go.Ev.W
open Go.Ev Go.Ev.N

/-- What a call does to a heap as it lies. -/
def doH (c : Cf) (g cl : Nat) (s : Hs) (o : X.O) : Hs × An :=
  if o.k = 1 then givH c g cl s (newF c s.live o.s 1) o.s
  else if o.k = 2 then callH c g cl s o.n o.s
  else if o.k = 3 then givH c g cl s (newF c s.live o.s o.a) o.s
  else if o.k = 4 ∨ o.k = 5 ∨ o.k = 6 ∨ o.k = 7 ∨ o.k = 8 then
    match getS o.p s.ds with
    | none => (s, anE 8)
    | some x => onH c g cl s o x.a.toNat x.c.toNat x.q
  else if o.k = 9 then ({ s with on := (trimF s.on (pagesF s.met)).1 }, { an0 with n := (trimF s.on (pagesF s.met)).2 })
  else if o.k = 10 then (s, { an0 with live := s.live, peak := s.peak, mark := s.mark, pg := cntB s.on })
  else (s, anE 2)
structure DoOk (c : Cf) (g cl : Nat) (s : Hs) (o : X.O) : Prop where
  h : HsOk c g cl s
  many : ∀ r, r = givH c g cl s (manyF c s.live o.n o.s) (prodF c o.n o.s).1 → r.2.e = 0 → 0 ≤ r.2.at' ∧ r.2.at'.toNat + (manyF c s.live o.n o.s).1 ≤ r.1.mem.length ∧ r.1.mem.length ≤ 65536
  on : ∀ x, getS o.p s.ds = some x → ∃ y n : Nat, x = ⟨y, n, x.q⟩ ∧ OnOk' c g cl s o y n
set_option maxRecDepth 20000 in
set_option maxHeartbeats 4000000 in
theorem hpDo_told {c : Cf} {g cl : Nat} {s : Hs} {o : X.O} (hd : DoOk c g cl s o) (ho : OpOk o) :
    Told P T heap_Heap_Do (hsL c g cl s) [.ptr 0 0 0, X.encO o] (eA (doH c g cl s o).2) (hsL c g cl (doH c g cl s o).1) := by
  have h := hd.h
  have hH := h.ok.h2
  have hml2 : s.met.length ≤ 65536 := by have := h.met; have : c.H / c.Pg ≤ c.H := Nat.div_le_self _ _; omega
  have hon : s.on.length ≤ 65536 := by have := h.on; omega
  unfold doH
  by_cases h1 : o.k = 1
  · rw [if_pos h1]
    have c1 := hpAligned_told h o.s 1 (by omega)
    generalize givH c g cl s (newF c s.live o.s 1) o.s = r at *
    unfold hsL hpL hpV X.encO at *
    refine told_of_ev (fn := heap_Heap_Do_fn) tabOk mixed (by kernel_rfl) (by kernel_rfl) (by kernel_rfl) (by kernel_rfl) ?_
    (refine gw ?_; refine IfB.tt (by simpa using h1) ?_)
    (refine gw ?_; refine Choice.mk ⟨true, Choice.mk ⟨false, _, _, c1, ?_⟩⟩)
    (refine gw ?_; exact RetN.mk ⟨[], rfl, rfl, rfl⟩)
  rw [if_neg h1]
  by_cases h2 : o.k = 2
  · rw [if_pos h2]
    have c1 := hpCalloc_told h o.n o.s ho.n ho.s hd.many
    generalize callH c g cl s o.n o.s = r at *
    unfold hsL hpL hpV X.encO at *
    refine told_of_ev (fn := heap_Heap_Do_fn) tabOk mixed (by kernel_rfl) (by kernel_rfl) (by kernel_rfl) (by kernel_rfl) ?_
    (refine gw ?_; refine IfB.ff (by simpa using h1) ?_)
    (refine gw ?_; refine IfB.tt (by simpa using h2) ?_)
    (refine gw ?_; refine Choice.mk ⟨true, Choice.mk ⟨false, _, _, c1, ?_⟩⟩)
    (refine gw ?_; exact RetN.mk ⟨[], rfl, rfl, rfl⟩)
  rw [if_neg h2]
  by_cases h3 : o.k = 3
  · rw [if_pos h3]
    have c1 := hpAligned_told h o.s o.a ho.a.2
    generalize givH c g cl s (newF c s.live o.s o.a) o.s = r at *
    unfold hsL hpL hpV X.encO at *
    refine told_of_ev (fn := heap_Heap_Do_fn) tabOk mixed (by kernel_rfl) (by kernel_rfl) (by kernel_rfl) (by kernel_rfl) ?_
    (refine gw ?_; refine IfB.ff (by simpa using h1) ?_)
    (refine gw ?_; refine IfB.ff (by simpa using h2) ?_)
    (refine gw ?_; refine IfB.tt (by simpa using h3) ?_)
    (refine gw ?_; refine Choice.mk ⟨true, Choice.mk ⟨false, _, _, c1, ?_⟩⟩)
    (refine gw ?_; exact RetN.mk ⟨[], rfl, rfl, rfl⟩)
  rw [if_neg h3]
  by_cases hb : o.k = 4 ∨ o.k = 5 ∨ o.k = 6 ∨ o.k = 7 ∨ o.k = 8
  · rw [if_pos hb]
    have c1 : ∃ r, r = (match getS o.p s.ds with | none => (s, anE 8) | some x => onH c g cl s o x.a.toNat x.c.toNat x.q) ∧ Told P T heap_Heap_block (hsL c g cl s) [.ptr 0 0 0, X.encO o] (eA r.2) (hsL c g cl r.1) := by
      refine ⟨_, rfl, ?_⟩
      cases hg : getS o.p s.ds with
      | none => exact hpBlockN_told o hg
      | some x =>
        obtain ⟨y, n, hx, hk⟩ := hd.on x hg
        have e1 : x.a.toNat = y := by rw [hx]; simp
        have e2 : x.c.toNat = n := by rw [hx]; simp
        simp only
        rw [e1, e2]
        exact hpBlock_told h ho (by rw [hg, ← hx]) hk
    obtain ⟨r, hr, c1⟩ := c1
    rw [← hr]
    clear hr
    have hk : o.k = 4 ∨ o.k ≠ 4 := by omega
    have hk5 : o.k = 5 ∨ o.k ≠ 5 := by omega
    have hk6 : o.k = 6 ∨ o.k ≠ 6 := by omega
    have hk7 : o.k = 7 ∨ o.k ≠ 7 := by omega
    unfold hsL hpL hpV X.encO at *
    refine told_of_ev (fn := heap_Heap_Do_fn) tabOk mixed (by kernel_rfl) (by kernel_rfl) (by kernel_rfl) (by kernel_rfl) ?_
    (refine gw ?_; refine IfB.ff (by simpa using h1) ?_)
    (refine gw ?_; refine IfB.ff (by simpa using h2) ?_)
    (refine gw ?_; refine IfB.ff (by simpa using h3) ?_)
    rcases hk with hk | hk
    · (refine gw ?_; refine IfB.tt (by simpa using hk) ?_)
      (refine gw ?_; refine IfB.tt (by simpa using hk) ?_)
      (refine gw ?_; refine Choice.mk ⟨true, Choice.mk ⟨false, _, _, c1, ?_⟩⟩)
      (refine gw ?_; exact RetN.mk ⟨[], rfl, rfl, rfl⟩)
    (refine gw ?_; refine IfB.ff (by simpa using hk) ?_)
    rcases hk5 with hk5 | hk5
    · (refine gw ?_; refine IfB.tt (by simpa using hk5) ?_)
      (refine gw ?_; refine IfB.tt (by simpa using hk5) ?_)
      (refine gw ?_; refine Choice.mk ⟨true, Choice.mk ⟨false, _, _, c1, ?_⟩⟩)
      (refine gw ?_; exact RetN.mk ⟨[], rfl, rfl, rfl⟩)
    (refine gw ?_; refine IfB.ff (by simpa using hk5) ?_)
    rcases hk6 with hk6 | hk6
    · (refine gw ?_; refine IfB.tt (by simpa using hk6) ?_)
      (refine gw ?_; refine IfB.tt (by simpa using hk6) ?_)
      (refine gw ?_; refine Choice.mk ⟨true, Choice.mk ⟨false, _, _, c1, ?_⟩⟩)
      (refine gw ?_; exact RetN.mk ⟨[], rfl, rfl, rfl⟩)
    (refine gw ?_; refine IfB.ff (by simpa using hk6) ?_)
    rcases hk7 with hk7 | hk7
    · (refine gw ?_; refine IfB.tt (by simpa using hk7) ?_)
      (refine gw ?_; refine IfB.tt (by simpa using hk7) ?_)
      (refine gw ?_; refine Choice.mk ⟨true, Choice.mk ⟨false, _, _, c1, ?_⟩⟩)
      (refine gw ?_; exact RetN.mk ⟨[], rfl, rfl, rfl⟩)
    (refine gw ?_; refine IfB.ff (by simpa using hk7) ?_)
    (refine gw ?_; refine IfB.tt (by simp; omega) ?_)
    (refine gw ?_; refine Choice.mk ⟨true, Choice.mk ⟨false, _, _, c1, ?_⟩⟩)
    (refine gw ?_; exact RetN.mk ⟨[], rfl, rfl, rfl⟩)
  rw [if_neg hb]
  by_cases h9 : o.k = 9
  · rw [if_pos h9]
    have c1 := hpPages_told c g cl s.b s.m s.live s.peak s.mark s.on s.ds s.met s.mem hml2
    have c2 := trim_told (on := s.on) (met := pagesF s.met) (by rw [show (pagesF s.met).length = s.met.length by simp [pagesF]]; exact h.on.symm) hon
    generalize trimF s.on (pagesF s.met) = t at *
    unfold hsL hpL hpV X.encO lT at *
    refine told_of_ev (fn := heap_Heap_Do_fn) tabOk mixed (by kernel_rfl) (by kernel_rfl) (by kernel_rfl) (by kernel_rfl) ?_
    (refine gw ?_; refine IfB.ff (by simpa using h1) ?_)
    (refine gw ?_; refine IfB.ff (by simpa using h2) ?_)
    (refine gw ?_; refine IfB.ff (by simpa using h3) ?_)
    (refine gw ?_; refine IfB.ff (by simp; omega) ?_)
    (refine gw ?_; refine IfB.ff (by simp; omega) ?_)
    (refine gw ?_; refine IfB.ff (by simp; omega) ?_)
    (refine gw ?_; refine IfB.ff (by simp; omega) ?_)
    (refine gw ?_; refine IfB.ff (by simp; omega) ?_)
    (refine gw ?_; refine IfB.tt (by simpa using h9) ?_)
    (refine gw ?_; refine Choice.mk ⟨false, Choice.mk ⟨true, _, _, c1, Need.mk rfl ?_⟩⟩)
    (refine gw ?_; refine Choice.mk ⟨false, Choice.mk ⟨false, _, _, c2, ?_⟩⟩)
    (refine gw ?_; exact RetN.mk ⟨[], rfl, rfl, rfl⟩)
  rw [if_neg h9]
  by_cases h10 : o.k = 10
  · rw [if_pos h10]
    have c1 := pinCount_told s.on (by omega)
    unfold hsL hpL hpV X.encO lT at *
    refine told_of_ev (fn := heap_Heap_Do_fn) tabOk mixed (by kernel_rfl) (by kernel_rfl) (by kernel_rfl) (by kernel_rfl) ?_
    (refine gw ?_; refine IfB.ff (by simpa using h1) ?_)
    (refine gw ?_; refine IfB.ff (by simpa using h2) ?_)
    (refine gw ?_; refine IfB.ff (by simpa using h3) ?_)
    (refine gw ?_; refine IfB.ff (by simp; omega) ?_)
    (refine gw ?_; refine IfB.ff (by simp; omega) ?_)
    (refine gw ?_; refine IfB.ff (by simp; omega) ?_)
    (refine gw ?_; refine IfB.ff (by simp; omega) ?_)
    (refine gw ?_; refine IfB.ff (by simp; omega) ?_)
    (refine gw ?_; refine IfB.ff (by simpa using h9) ?_)
    (refine gw ?_; refine IfB.tt (by simpa using h10) ?_)
    (refine gw ?_; refine Choice.mk ⟨false, Choice.mk ⟨false, _, _, c1, ?_⟩⟩)
    (refine gw ?_; exact RetN.mk ⟨[], rfl, rfl, rfl⟩)
  rw [if_neg h10]
  unfold hsL hpL hpV X.encO
  refine told_of_ev (fn := heap_Heap_Do_fn) tabOk mixed (by kernel_rfl) (by kernel_rfl) (by kernel_rfl) (by kernel_rfl) ?_
  (refine gw ?_; refine IfB.ff (by simpa using h1) ?_)
  (refine gw ?_; refine IfB.ff (by simpa using h2) ?_)
  (refine gw ?_; refine IfB.ff (by simpa using h3) ?_)
  (refine gw ?_; refine IfB.ff (by simp; omega) ?_)
  (refine gw ?_; refine IfB.ff (by simp; omega) ?_)
  (refine gw ?_; refine IfB.ff (by simp; omega) ?_)
  (refine gw ?_; refine IfB.ff (by simp; omega) ?_)
  (refine gw ?_; refine IfB.ff (by simp; omega) ?_)
  (refine gw ?_; refine IfB.ff (by simpa using h9) ?_)
  (refine gw ?_; refine IfB.ff (by simpa using h10) ?_)
  (refine gw ?_; exact RetN.mk ⟨[], rfl, rfl, rfl⟩)
end Go.Ev.W
namespace Go.Ev.W
open Go.Ev Go.Ev.N

theorem setZc {b : Nat → Bool} {k i x : Nat} {on : Bool} : setZ b (i * 2 ^ k : Nat) (2 ^ k : Nat) on x = if x / 2 ^ k = i then on else b x := by
  have hp : 0 < 2 ^ k := Nat.pow_pos (by omega)
  unfold setZ
  have e : (x / 2 ^ k = i) ↔ (i * 2 ^ k ≤ x ∧ x < i * 2 ^ k + 2 ^ k) := by
    rw [Nat.div_eq_iff hp]
    constructor
    · rintro ⟨h1, h2⟩; omega
    · rintro ⟨h1, h2⟩; omega
  by_cases h : x / 2 ^ k = i
  · have := e.1 h
    rw [if_pos h, if_pos (by omega)]
  · have := fun q => h (e.2 q)
    rw [if_neg h, if_neg (by omega)]
theorem riseE : ∀ {l r : List M}, Rise l → Rise r → (∀ m, m ∈ l ↔ m ∈ r) → l = r
  | [], [], _, _, _ => rfl
  | [], b :: r, _, _, h => absurd ((h b).2 (by simp)) (by simp)
  | a :: l, [], _, _, h => absurd ((h a).1 (by simp)) (by simp)
  | a :: l, b :: r, hl, hr, h => by
    have hl1 := (List.pairwise_cons.1 hl).1
    have hr1 := (List.pairwise_cons.1 hr).1
    have hab : a = b := by
      rcases List.mem_cons.1 ((h a).1 (by simp)) with e | e
      · exact e
      · rcases List.mem_cons.1 ((h b).2 (by simp)) with e2 | e2
        · exact e2.symm
        · have h1 := hl1 b e2
          have h2 := hr1 a e
          omega
    subst hab
    congr 1
    refine riseE (List.pairwise_cons.1 hl).2 (List.pairwise_cons.1 hr).2 fun m => ?_
    constructor
    · intro hm
      rcases List.mem_cons.1 ((h m).1 (by simp [hm])) with e | e
      · have := hl1 m hm
        rw [e] at this; omega
      · exact e
    · intro hm
      rcases List.mem_cons.1 ((h m).2 (by simp [hm])) with e | e
      · have := hr1 m hm
        rw [e] at this; omega
      · exact e
/-- How a heap lies tells of blocks. -/
def mkM (G : Nat) (x : Bk) : M := ⟨x.a, (Nat.log2 (x.c.toNat / G) : Nat)⟩
def cov (G : Nat) (l : List Bk) (x : Nat) : Bool := l.any fun k => decide (k.a ≤ ((x * G : Nat) : Int) ∧ ((x * G : Nat) : Int) < k.a + k.c)
def nmet (pg : Nat) (l : List Bk) (i : Nat) : Int := ((l.countP fun k => ovr (i * pg : Nat) pg k.a k.c : Nat) : Int)
structure Hb (c : Cf) (l : List Bk) (b : Nat → Bool) (m : List M) (d : List Bk) (mt : List Int) : Prop where
  b : ∀ x, x < c.H / c.G → b x = cov c.G l x
  m : m = l.map (mkM c.G)
  ds : ∀ y, getS y d = getS y l
  nd : (d.map (·.a)).Nodup
  met : mt = (List.range (c.H / c.Pg)).map (nmet c.Pg l)
theorem cov_iff {G : Nat} {l : List Bk} {x : Nat} : cov G l x = true ↔ ∃ k ∈ l, k.a ≤ ((x * G : Nat) : Int) ∧ ((x * G : Nat) : Int) < k.a + k.c := by
  simp only [cov, List.any_eq_true, decide_eq_true_eq]
theorem Cf.Ok.gH {c : Cf} (h : c.Ok) : ∃ r, c.H = c.G * 2 ^ c.L * r := by
  obtain ⟨e, he⟩ := h.p
  obtain ⟨q, hq⟩ := h.m
  have hd : ∃ r, max c.N c.Pg = c.N * r := by
    rcases Nat.le_total c.Pg c.N with h1 | h1
    · exact ⟨1, by rw [Nat.max_eq_left h1]; omega⟩
    · rw [Nat.max_eq_right h1]
      have hg := h.gpos
      have hn := h.n
      rw [hn, he] at h1 ⊢
      have h2 := Nat.le_of_mul_le_mul_left h1 (by omega)
      have h3 := (Nat.pow_le_pow_iff_right (by omega : 1 < 2)).1 h2
      exact ⟨2 ^ (e - c.L), by rw [Nat.mul_assoc, ← Nat.pow_add]; congr 2; omega⟩
  obtain ⟨r, hr⟩ := hd
  have h1 : c.M / 2 = c.N * r * q := by rw [hq, hr, show 2 * (c.N * r) * q = 2 * (c.N * r * q) by rw [Nat.mul_assoc 2]]; omega
  refine ⟨r * q * 2 + c.L * (r * q), ?_⟩
  rw [h.h, h1, hq, hr, ← h.n, Nat.mul_add]
  have e1 : 2 * (c.N * r) * q = c.N * (r * q * 2) := by simp only [Nat.mul_assoc, Nat.mul_comm, Nat.mul_left_comm]
  have e2 : c.L * (c.N * r * q) = c.N * (c.L * (r * q)) := by simp only [Nat.mul_assoc, Nat.mul_comm, Nat.mul_left_comm]
  rw [e1, e2]
theorem Cf.Ok.gG {c : Cf} (h : c.Ok) : c.H / c.G * c.G = c.H := by
  obtain ⟨r, hr⟩ := h.gH
  have := h.gpos
  rw [hr, Nat.mul_assoc, Nat.mul_div_cancel_left _ (by omega), Nat.mul_comm]
theorem Cf.Ok.H1 {c : Cf} (h : c.Ok) : 1 ≤ c.H := by
  have := h.h; have := h.m1; omega
theorem Cf.Ok.sl {c : Cf} (h : c.Ok) : SlOk (c.H / c.G) (c.L + 1) := by
  have hL := h.lL
  have hH := h.h2
  have hg := h.gpos
  have h1 := h.H1
  have hgG := h.gG
  obtain ⟨r, hr⟩ := h.gH
  refine ⟨by omega, by omega, ?_, Nat.le_trans (Nat.div_le_self _ _) hH, ?_⟩
  · rcases Nat.eq_zero_or_pos (c.H / c.G) with e | e
    · rw [e] at hgG; omega
    · exact e
  · rw [hr, Nat.mul_assoc, Nat.mul_div_cancel_left _ (by omega), Nat.add_sub_cancel, Nat.mul_mod_right]
theorem getS_mem {y : Int} : ∀ {l : List Bk} {x : Bk}, getS y l = some x → x ∈ l ∧ x.a = y
  | [], _, h => by cases h
  | z :: l, x, h => by
    unfold getS at h
    split at h
    · rename_i e; injection h with h; subst h; exact ⟨by simp, e.symm⟩
    · have := getS_mem h; exact ⟨by simp [this.1], this.2⟩
theorem getS_none {y : Int} : ∀ {l : List Bk}, getS y l = none → ∀ x ∈ l, x.a ≠ y
  | [], _, x, hx => by simp at hx
  | z :: l, h, x, hx => by
    unfold getS at h
    split at h
    · cases h
    · rename_i e
      rcases List.mem_cons.1 hx with rfl | hx
      · exact fun q => e q.symm
      · exact getS_none h x hx
theorem getS_of {y : Int} {l : List Bk} (hl : ∀ x ∈ l, ∀ z ∈ l, x.a = z.a → x = z) {x : Bk} (hx : x ∈ l) (hy : x.a = y) : getS y l = some x := by
  cases h : getS y l with
  | none => exact absurd hy (getS_none h x hx)
  | some z =>
    have := getS_mem h
    rw [hl z this.1 x hx (by rw [this.2, hy])]
theorem getS_ext {l r : List Bk} {y : Int} (hl : ∀ x ∈ l, ∀ z ∈ l, x.a = z.a → x = z) (h : ∀ x, x.a = y → (x ∈ r ↔ x ∈ l)) (hr : ∀ x ∈ r, ∀ z ∈ r, x.a = z.a → x = z) : getS y r = getS y l := by
  cases e : getS y r with
  | none =>
    cases e2 : getS y l with
    | none => rfl
    | some z =>
      have := getS_mem e2
      exact absurd this.2 (getS_none e z ((h z this.2).2 this.1))
  | some x =>
    have := getS_mem e
    exact (getS_of hl ((h x this.2).1 this.1) this.2).symm
theorem getS_set (x : Bk) (y : Int) : ∀ ds, getS y (setS x ds) = if y = x.a then some x else getS y ds
  | [] => rfl
  | z :: ds => by
    unfold setS
    split
    · rename_i e
      show (if y = x.a then some x else getS y ds) = _
      split
      · rfl
      · rename_i h
        show _ = if y = z.a then some z else getS y ds
        rw [if_neg (by rw [← e]; exact h)]
    · rename_i e
      show (if y = z.a then some z else getS y (setS x ds)) = _
      rw [getS_set x y ds]
      show _ = if y = x.a then some x else if y = z.a then some z else getS y ds
      by_cases h : y = z.a
      · rw [if_pos h, if_neg (by rw [h]; exact fun q => e q.symm), if_pos h]
      · rw [if_neg h, if_neg h]
theorem setS_keys (x : Bk) : ∀ ds, ∀ y, y ∈ (setS x ds).map (·.a) ↔ y = x.a ∨ y ∈ ds.map (·.a)
  | [], y => by simp [setS]
  | z :: ds, y => by
    unfold setS
    split
    · rename_i e
      simp only [List.map_cons, List.mem_cons, e]
      constructor
      · rintro (h | h)
        · exact .inl h
        · exact .inr (.inr h)
      · rintro (h | h | h)
        · exact .inl h
        · exact .inl h
        · exact .inr h
    · simp only [List.map_cons, List.mem_cons, setS_keys x ds y]
      constructor
      · rintro (h | h | h)
        · exact .inr (.inl h)
        · exact .inl h
        · exact .inr (.inr h)
      · rintro (h | h | h)
        · exact .inr (.inl h)
        · exact .inl h
        · exact .inr (.inr h)
theorem setS_nd (x : Bk) : ∀ {ds}, (ds.map (·.a)).Nodup → ((setS x ds).map (·.a)).Nodup
  | [], _ => by simp [setS]
  | z :: ds, h => by
    rw [List.map_cons, List.nodup_cons] at h
    unfold setS
    split
    · rename_i e
      rw [List.map_cons, List.nodup_cons, e]; exact h
    · rename_i e
      rw [List.map_cons, List.nodup_cons]
      refine ⟨fun q => ?_, setS_nd x h.2⟩
      rcases (setS_keys x ds z.a).1 q with q | q
      · exact e q.symm
      · exact h.1 q
theorem delS_keys (v : Int) : ∀ ds, ∀ y, y ∈ (delS v ds).map (·.a) → y ∈ ds.map (·.a)
  | [], y, h => h
  | z :: ds, y, h => by
    unfold delS at h
    split at h
    · simp only [List.map_cons, List.mem_cons]; exact .inr h
    · simp only [List.map_cons, List.mem_cons] at h ⊢
      rcases h with h | h
      · exact .inl h
      · exact .inr (delS_keys v ds y h)
theorem delS_nd (v : Int) : ∀ {ds}, (ds.map (·.a)).Nodup → ((delS v ds).map (·.a)).Nodup
  | [], h => h
  | z :: ds, h => by
    rw [List.map_cons, List.nodup_cons] at h
    unfold delS
    split
    · exact h.2
    · rw [List.map_cons, List.nodup_cons]
      exact ⟨fun q => h.1 (delS_keys v ds _ q), delS_nd v h.2⟩
theorem getS_key {y : Int} : ∀ {ds}, y ∉ ds.map (·.a) → getS y ds = none
  | [], _ => rfl
  | z :: ds, h => by
    simp only [List.map_cons, List.mem_cons, not_or] at h
    unfold getS
    rw [if_neg h.1]; exact getS_key h.2
theorem getS_del (v y : Int) : ∀ {ds}, (ds.map (·.a)).Nodup → getS y (delS v ds) = if y = v then none else getS y ds
  | [], _ => by
    show none = _
    split <;> rfl
  | z :: ds, h => by
    rw [List.map_cons, List.nodup_cons] at h
    unfold delS
    split
    · rename_i e
      split
      · rename_i e2; rw [e2, e]; exact getS_key h.1
      · rename_i e2
        show _ = if y = z.a then some z else getS y ds
        rw [if_neg (by rw [← e]; exact e2)]
    · rename_i e
      show (if y = z.a then some z else getS y (delS v ds)) = if y = v then none else if y = z.a then some z else getS y ds
      rw [getS_del v y h.2]
      by_cases h2 : y = z.a
      · rw [if_pos h2, if_pos h2, if_neg (by rw [h2]; exact fun q => e q.symm)]
      · rw [if_neg h2, if_neg h2]
theorem ApB.inj {H : Nat} {l : List Bk} (h : ApB H l) : ∀ x ∈ l, ∀ z ∈ l, x.a = z.a → x = z := by
  obtain ⟨hp, hb⟩ := h
  induction l with
  | nil => intro x hx; simp at hx
  | cons w l ih =>
    rw [List.pairwise_cons] at hp
    intro x hx z hz e
    have hw := hb w (by simp)
    rcases List.mem_cons.1 hx with h1 | h1
    · rcases List.mem_cons.1 hz with h2 | h2
      · rw [h1, h2]
      · have := hp.1 z h2; rw [h1] at e; omega
    · rcases List.mem_cons.1 hz with h2 | h2
      · have := hp.1 x h1; rw [h2] at e; omega
      · exact ih hp.2 (fun y hy => hb y (by simp [hy])) x h1 z h2 e
theorem ApB.apart {H : Nat} {l : List Bk} (h : ApB H l) : ∀ x ∈ l, ∀ z ∈ l, x ≠ z → x.a + x.c ≤ z.a ∨ z.a + z.c ≤ x.a := by
  obtain ⟨hp, hb⟩ := h
  induction l with
  | nil => intro x hx; simp at hx
  | cons w l ih =>
    rw [List.pairwise_cons] at hp
    intro x hx z hz e
    rcases List.mem_cons.1 hx with h1 | h1
    · rcases List.mem_cons.1 hz with h2 | h2
      · exact absurd (h1.trans h2.symm) e
      · rw [h1]; exact .inl (hp.1 z h2)
    · rcases List.mem_cons.1 hz with h2 | h2
      · rw [h2]; exact .inr (hp.1 x h1)
      · exact ih hp.2 (fun y hy => hb y (by simp [hy])) x h1 z h2 e
theorem ApB.rise {H G : Nat} {l : List Bk} (h : ApB H l) : Rise (l.map (mkM G)) := by
  unfold Rise
  rw [List.pairwise_map]
  refine List.Pairwise.imp_of_mem ?_ h.p
  intro x z hx hz e
  have := h.b x hx
  show x.a < z.a
  omega
theorem nmet_bd (pg : Nat) (l : List Bk) (i : Nat) : 0 ≤ nmet pg l i ∧ nmet pg l i ≤ l.length := by
  unfold nmet
  have := List.countP_le_length (p := fun k : Bk => ovr (i * pg : Nat) pg k.a k.c) (l := l)
  omega
theorem met_get (pg n : Nat) (l : List Bk) (i : Nat) : -100000 ≤ ((List.range n).map (nmet pg l)).getD i 0 ∧ ((List.range n).map (nmet pg l)).getD i 0 ≤ max 0 l.length := by
  rw [List.getD_eq_getElem?_getD]
  by_cases h : i < n
  · have := nmet_bd pg l i
    rw [List.getElem?_eq_getElem (by simpa using h)]
    simp; omega
  · rw [List.getElem?_eq_none (by simpa using h)]
    simp
/-- What is needed of a heap is so. -/
theorem Hb.ok {c : Cf} {l : List Bk} {s : Hs} (hc : c.Ok) (ha : ApB c.H l) (hz : ∀ x ∈ l, SzB c x) (h : Hb c l s.b s.m s.ds s.met) (ho : s.on.length = c.H / c.Pg) (hm : s.mem.length = c.H) (hl : 0 ≤ s.live ∧ s.live ≤ 100000) : HsOk c (c.H / c.G) (c.L + 1) s := by
  have hH := hc.h2
  have hlen := ha.len
  have hml : s.met.length = c.H / c.Pg := by rw [h.met]; simp
  obtain ⟨k, hk⟩ := hc.pgH
  have hp1 := hc.pgpos
  have hg := hc.gpos
  refine ⟨hc, rfl, rfl, ⟨hc.sl, hc.gpos, by rw [hc.gG]; exact hH, ?_, ?_, ?_⟩, fun x n h1 h2 => ?_, hp1, hml, fun i => ?_, by rw [ho, hml], hm, fun p i hp hi => ?_, hl⟩
  · rw [h.m]; exact ha.rise
  · intro m hm
    rw [h.m] at hm
    obtain ⟨x, hx, rfl⟩ := List.mem_map.1 hm
    obtain ⟨k, hk, hk2, _⟩ := hz x hx
    have hb := ha.b x hx
    have : Nat.log2 (x.c.toNat / c.G) = k := by rw [hk2, Int.toNat_natCast, Nat.mul_div_cancel_left _ (by omega), Nat.log2_two_pow]
    refine ⟨by simp [mkM], ?_, hb.1, ?_⟩
    · show ((Nat.log2 (x.c.toNat / c.G) : Nat) : Int) < _
      rw [this]; omega
    · show x.a ≤ 65536
      omega
  · rw [h.m]; simp; omega
  · rw [hml]; exact (hc.pages h1 h2).2
  · have := met_get c.Pg (c.H / c.Pg) l i
    rw [← h.met] at this
    omega
  · rw [hml, hk, Nat.mul_div_cancel_left _ (by omega)] at hp
    have : (p + 1) * c.Pg ≤ k * c.Pg := Nat.mul_le_mul_right _ (by omega)
    rw [hk, Nat.mul_comm c.Pg k]
    rw [Nat.add_mul] at this
    omega
end Go.Ev.W
