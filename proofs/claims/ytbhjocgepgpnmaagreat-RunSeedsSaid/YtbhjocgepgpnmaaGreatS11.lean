/- Words and lemmas, part 11, for laws of this seat (a part of their proofs). -/
import Derived.Test.YtbhjocgepgpnmaaGreatS1
import Derived.Test.YtbhjocgepgpnmaaGreatS8
import Derived.Test.YtbhjocgepgpnmaaGreatS10
import Derived.Test.YtbhjocgepgpnmaaGreatNm
import Derived.Test.YtbhjocgepgpnmaaGreatEvOpen
import Derived.Test.YtbhjocgepgpnmaaGreatEvLib
import Derived.Test.YtbhjocgepgpnmaaGreatEvGrid
import Derived.Test.YtbhjocgepgpnmaaGreatEvTrim
set_option linter.unusedVariables false
set_option linter.unusedSimpArgs false
namespace Go.Ev.W
open Go.Ev Go.Ev.N

set_option maxHeartbeats 4000000 in
theorem junkFillR_told {mem : List Nat} (hl : mem.length ≤ 65536) {seed page size : Nat} (hs : 0 < size) (hp : (page + 1) * size ≤ mem.length) : Told P T junk_Fill [] [lU mem, i64 seed, i64 page, i64 size] (.ref 0) [.row t_uint8 ((fillF mem seed page size).map u8)] := by
  have hmu : (mem.map u8).length = mem.length := by simp
  obtain ⟨D, hD⟩ : ∃ D, mem.length = D := ⟨_, rfl⟩
  have c1 := clone_byte (mem.map u8) (by omega)
  have d1 : ((D : Nat) : Int).tdiv ((size : Nat) : Int) = ((D / size : Nat) : Int) := (Int.ofNat_tdiv D size).symm
  have hmul : (page + 1) * size = page * size + size := by rw [Nat.succ_mul]
  have hdv : page + 1 ≤ D / size := (Nat.le_div_iff_mul_le hs).2 (by omega)
  have hdl := Nat.div_le_self D size
  have eps : ((page : Nat) : Int) * ((size : Nat) : Int) = ((page * size : Nat) : Int) := by rw [Int.natCast_mul]
  have hfs : ∀ k, k < size → fAt mem seed page size (page * size + k) = byteF seed page k := fun k hk => by
    have e1 : (page * size + k) / size = page := by rw [Nat.mul_comm, Nat.mul_add_div hs, Nat.div_eq_of_lt hk]; rfl
    have e2 : (page * size + k) % size = k := by rw [Nat.mul_comm, Nat.mul_add_mod, Nat.mod_eq_of_lt hk]
    unfold fAt; rw [if_pos e1, e2]
  have hfo : ∀ j, ¬ (page * size ≤ j ∧ j < page * size + size) → fAt mem seed page size j = mem.getD j 0 := fun j hj => by
    unfold fAt
    rw [if_neg]
    intro e
    apply hj
    have h1 := Nat.div_mul_le_self j size
    have h2 := Nat.lt_mul_div_succ j hs
    rw [e] at h1 h2
    rw [Nat.mul_comm, Nat.succ_mul] at h2
    omega
  rw [hD] at hmu hp
  generalize D / size = q at *
  generalize page * size = ps at *
  have hg := fun k => tabF_len D (fun j => u8 (if ps ≤ j ∧ j < ps + k then fAt mem seed page size j else mem.getD j 0))
  refine told_of_ev (fn := junk_Fill_fn) tabOk mixed (by kernel_rfl) (by kernel_rfl) (by kernel_rfl) (by kernel_rfl) ?_
  (refine gw ?_; refine Choice.mk ⟨false, Choice.mk ⟨false, _, _, c1, ?_⟩⟩)
  (refine gw ?_; refine IfB.ff (by simp; omega) ?_)
  (refine gw ?_)
  rw [hmu, d1]
  (refine gw ?_; refine IfB.ff (by simp; omega) ?_)
  (refine gw ?_; refine LoopN.mk ⟨[0,1,2,3,9], fun vs L => ∃ k : Nat, vs = [.ref 0, i64 seed, i64 page, i64 size, i64 k] ∧ L = [.row t_uint8 (tabF D fun j => u8 (if ps ≤ j ∧ j < ps + k then fAt mem seed page size j else mem.getD j 0))] ∧ k ≤ size, fun vs L => match vs with | [_, _, _, _, .int _ i] => size - i.toNat | _ => 0, [], [1], rfl, ⟨0, rfl, ?_, by omega⟩, ?_⟩)
  · show [Blk.row t_uint8 (mem.map u8)] = _
    rw [lU_tab, hD]
    exact congrArg (fun z => [Blk.row t_uint8 z]) (tabF_congr fun j _ => by rw [if_neg (by omega)])
  rintro vs L ⟨k, rfl, rfl, hk⟩
  have hgk := hg k
  by_cases hks : k < size
  · have hset : (tabF D fun j => u8 (if ps ≤ j ∧ j < ps + k then fAt mem seed page size j else mem.getD j 0)).set (((ps : Nat) : Int) + ((k : Nat) : Int)).toNat (u8 (byteF seed page k)) = tabF D fun j => u8 (if ps ≤ j ∧ j < ps + (k + 1) then fAt mem seed page size j else mem.getD j 0) := by
      rw [show (((ps : Nat) : Int) + ((k : Nat) : Int)).toNat = ps + k by omega]
      refine tabF_set (by omega) fun j hj => ?_
      by_cases e : j = ps + k
      · subst e; rw [if_pos rfl, if_pos (by omega), hfs k hks]
      · rw [if_neg e]
        by_cases e2 : ps ≤ j ∧ j < ps + k
        · rw [if_pos e2, if_pos (by omega)]
        · rw [if_neg e2, if_neg (by omega)]
    (refine gw ?_; refine IfB.tt (by simp; omega) ?_)
    (refine gw ?_)
    rw [eps]
    (refine gw ?_)
    rw [hgk]
    (refine gw ?_; refine IfB.tt (by simp; omega) ?_)
    (refine gw ?_; refine Choice.mk ⟨false, Choice.mk ⟨true, _, _, junkByte_told seed page k, ?_⟩⟩)
    (refine gw ?_)
    rw [eps]
    (refine gw ?_; refine ⟨[], [0], rfl, ⟨k + 1, rfl, by rw [← hset]; rfl, by omega⟩, (by omega : size - ((k : Int) + 1).toNat < size - (k : Int).toNat)⟩)
  · have e : k = size := by omega
    subst e
    have f1 : (tabF D fun j => u8 (if ps ≤ j ∧ j < ps + k then fAt mem seed page k j else mem.getD j 0)) = (fillF mem seed page k).map u8 := by
      rw [fillF_eq, hD, ← tabF_of]
      refine tabF_congr fun j hj => ?_
      by_cases e2 : ps ≤ j ∧ j < ps + k
      · rw [if_pos e2]
      · rw [if_neg e2, hfo j e2]
    rw [f1]
    (refine gw ?_; exact RetN.mk ⟨[0], rfl, rfl, rfl⟩)
end Go.Ev.W
namespace Go.Ev.W
open Go.Ev Go.Ev.N

set_option maxHeartbeats 8000000 in
theorem pinMetR_told {pg size : Nat} (hp : 1 ≤ pg) (hs : size ≤ 65536) (hps : pg ≤ size) {l : List Bk} (hl : l.length ≤ 1000000) (hb : ∀ x ∈ l, 0 ≤ x.a ∧ 1 ≤ x.c ∧ x.a + x.c ≤ size) : Told P T pin_Met [] [i64 pg, i64 size, lK l] (.ref 0) [.row t_bool ((metF pg size l).map .bool)] := by
  have hml : (l.map eB).length = l.length := by simp
  have e1 : ((size : Nat) : Int).tdiv (pg : Nat) = ((size / pg : Nat) : Int) := by rw [Int.tdiv_eq_ediv_of_nonneg (by omega)]; omega
  have d1 := Nat.div_le_self size pg
  have d2 : 1 ≤ size / pg := (Nat.le_div_iff_mul_le (by omega)).2 (by omega)
  obtain ⟨D, hD⟩ : ∃ D, size / pg = D := ⟨_, rfl⟩
  have hmet : metF pg size l = (List.range D).map fun i => anyK l pg i l.length := by
    unfold metF; rw [hD]
    refine List.map_congr_left fun i _ => ?_
    unfold anyK; rw [List.take_length]
  rw [hD] at e1 d1 d2
  have hlen : ∀ f : Nat → AV, (tabF D f).length = D := tabF_len D
  rw [hmet]
  refine told_of_ev (fn := pin_Met_fn) tabOk mixed (by kernel_rfl) (by kernel_rfl) (by kernel_rfl) (by kernel_rfl) ?_
  (refine gw ?_; refine IfB.ff (by simp; omega) ?_)
  (refine gw ?_; refine IfB.ff (by simp; omega) ?_)
  (refine gw ?_)
  rw [e1]
  (refine gw ?_; refine IfB.ff (by simp; omega) ?_)
  (refine gw ?_)
  rw [e1]
  (refine gw ?_; refine Room.mk (by first | omega | (simp; omega) | (simp <;> fail)) ?_)
  (refine gw ?_; refine LoopN.mk ⟨[0,1,7,33,34,35], fun vs L => ∃ k : Nat, vs = [i64 pg, i64 size, .ref 0, lK l, i64 (l.map eB).length, i64 k] ∧ L = [.row t_bool (tabF D fun j => .bool (anyK l pg j k))] ∧ k ≤ l.length, fun vs L => match vs with | [_, _, _, _, _, .int _ i] => l.length - i.toNat | _ => 0, [], [1], rfl, ⟨0, rfl, ?_, by omega⟩, ?_⟩)
  · show [Blk.row t_bool (List.replicate ((D : Nat) : Int).toNat (AV.bool false))] = _
    rw [Int.toNat_natCast, tabF_rep]; rfl
  rintro vs L ⟨k, rfl, rfl, hk⟩
  (refine gw ?_; first | refine IfB.dec (fun g1 => ?_) (fun g1 => ?_) | refine IfB.eq (fun g1 => ?_) (fun g1 => ?_) | refine IfB.ne (fun g1 => ?_) (fun g1 => ?_) | refine IfB.mk (fun g1 => ?_) (fun g1 => ?_))
  · have hkl : k < l.length := by omega
    have hx := hb _ (List.getElem_mem hkl)
    have hsu := fun i => anyK_succ (pg := pg) (i := i) hkl
    have emax : ∀ a b : Int, (if b > a then b else a) = max a b := fun a b => by split <;> omega
    (refine gw ?_; refine idx_map (hkl) ?_)
    generalize l[k] = x at *
    obtain ⟨a, ha⟩ : ∃ a : Nat, x.a = (a : Nat) := ⟨x.a.toNat, by omega⟩
    obtain ⟨c, hc⟩ : ∃ c : Nat, x.c = (c : Nat) := ⟨x.c.toNat, by omega⟩
    have hx1 := hx.2.1
    have hx2 := hx.2.2
    rw [hc] at hx1
    rw [ha, hc] at hx2
    have em : (if (0 : Int) > x.a then 0 else x.a) = ((a : Nat) : Int) := by rw [if_neg (by omega), ha]
    have f1 : ((a : Nat) : Int).tdiv (pg : Nat) = ((a / pg : Nat) : Int) := (Int.ofNat_tdiv a pg).symm
    have f2 : (((a + c - 1 : Nat)) : Int).tdiv (pg : Nat) = (((a + c - 1) / pg : Nat) : Int) := (Int.ofNat_tdiv _ pg).symm
    have f0 : ((a + c : Nat) : Int) - 1 = ((a + c - 1 : Nat) : Int) := by omega
    have q1 := Nat.div_le_self a pg
    have q2 := Nat.div_le_self (a + c - 1) pg
    have q3 : a / pg ≤ (a + c - 1) / pg := Nat.div_le_div_right (by omega)
    have hov : ∀ i, ovr (i * pg : Nat) pg a c = (decide (a / pg ≤ i) && decide (i ≤ (a + c - 1) / pg)) := fun i => by
      unfold ovr
      rw [← Bool.decide_and]
      refine decide_eq_decide.2 ?_
      rw [Nat.le_div_iff_mul_le (by omega), ← Nat.lt_succ_iff (m := a / pg), Nat.div_lt_iff_lt_mul (by omega), Nat.succ_mul]
      omega
    have hs' : ∀ i, anyK l pg i (k + 1) = (anyK l pg i k || (decide (a / pg ≤ i) && decide (i ≤ (a + c - 1) / pg))) := fun i => by rw [hsu, ha, hc, hov]
    clear hsu hov
    generalize a / pg = A at *
    generalize (a + c - 1) / pg = C at *
    by_cases hlt : x.c < (size : Int) - x.a
    · have eu : (if (size : Int) < x.a + x.c then (size : Int) else x.a + x.c) = ((a + c : Nat) : Int) := by rw [if_neg (by omega)]; omega
      (refine gw ?_; refine IfB.tt (by simp; omega) ?_)
      (refine gw ?_)
      rw [em]
      (refine gw ?_; refine IfB.ff (by simp; omega) ?_)
      (refine gw ?_)
      rw [eu]
      (refine gw ?_; refine IfB.ff (by simp; omega) ?_)
      (refine gw ?_)
      rw [f1]
      (refine gw ?_; refine LoopN.mk ⟨[0,1,7,11,12,33,34,35], fun vs L => ∃ p : Nat, vs = [i64 pg, i64 size, .ref 0, i64 (a + c : Nat), i64 p, lK l, i64 (l.map eB).length, i64 k] ∧ L = [.row t_bool (tabF D fun j => .bool (or (anyK l pg j k) (decide (A ≤ j) && decide (j < p))))] ∧ A ≤ p ∧ p ≤ C + 1, fun vs L => match vs with | [_, _, _, _, .int _ i, _, _, _] => C + 1 - i.toNat | _ => 0, [], [0], rfl, ⟨A, by rw [← eu]; rfl, ?_, by omega, by omega⟩, ?_⟩)
      · refine congrArg (fun z => [Blk.row t_bool z]) (tabF_congr fun j _ => ?_)
        have : (decide (A ≤ j) && decide (j < A)) = false := by rw [Bool.and_eq_false_iff]; by_cases h : A ≤ j <;> simp [h]
        rw [this, Bool.or_false]
      rintro vs L ⟨p, rfl, rfl, hp1, hp2⟩
      have hlp := hlen fun j => .bool (or (anyK l pg j k) (decide (A ≤ j) && decide (j < p)))
      have hend : ¬ (p ≤ C ∧ p < D) → (tabF D fun j => AV.bool (or (anyK l pg j k) (decide (A ≤ j) && decide (j < p)))) = tabF D fun j => AV.bool (anyK l pg j (k + 1)) := fun hn => by
        refine tabF_congr fun j hj => ?_
        rw [hs']
        have : decide (j < p) = decide (j ≤ C) := decide_eq_decide.2 (by omega)
        rw [this]
      (refine gw ?_)
      rw [f0]
      (refine gw ?_)
      rw [f2]
      by_cases hpC : p ≤ C
      · (refine gw ?_; refine IfB.tt (by simp; omega) ?_)
        (refine gw ?_)
        rw [hlp]
        by_cases hpD : p < D
        · have hset : (tabF D fun j => AV.bool (or (anyK l pg j k) (decide (A ≤ j) && decide (j < p)))).set ((p : Nat) : Int).toNat (.bool true) = tabF D fun j => AV.bool (or (anyK l pg j k) (decide (A ≤ j) && decide (j < p + 1))) := by
            rw [Int.toNat_natCast]
            refine tabF_set hpD fun j hj => ?_
            by_cases e : j = p
            · subst e; rw [if_pos rfl, decide_eq_true hp1, decide_eq_true (show j < j + 1 by omega)]; simp
            · rw [if_neg e]
              have : decide (j < p + 1) = decide (j < p) := decide_eq_decide.2 (by omega)
              rw [this]
          (refine gw ?_; refine IfB.tt (by simp; omega) ?_)
          (refine gw ?_; refine ⟨[], [0], rfl, ⟨p + 1, rfl, by rw [← hset]; rfl, by omega, by omega⟩, (by omega : C + 1 - ((p : Int) + 1).toNat < C + 1 - (p : Int).toNat)⟩)
        · (refine gw ?_; refine IfB.ff (by simp; omega) ?_)
          (refine gw ?_; refine ⟨[], [0], rfl, ⟨k + 1, rfl, by rw [← hend (by omega)]; rfl, hkl⟩, (by omega : l.length - ((k : Int) + 1).toNat < l.length - (k : Int).toNat)⟩)
      · (refine gw ?_; refine IfB.ff (by simp; omega) ?_)
        (refine gw ?_; refine ⟨[], [0], rfl, ⟨k + 1, rfl, by rw [← hend (by omega)]; rfl, hkl⟩, (by omega : l.length - ((k : Int) + 1).toNat < l.length - (k : Int).toNat)⟩)
    · have eu : (size : Int) = ((a + c : Nat) : Int) := by omega
      (refine gw ?_; refine IfB.ff (by simp; omega) ?_)
      (refine gw ?_; refine IfB.ff (by simp; omega) ?_)
      (refine gw ?_)
      rw [em]
      (refine gw ?_; refine IfB.ff (by simp; omega) ?_)
      (refine gw ?_; refine IfB.ff (by simp; omega) ?_)
      (refine gw ?_)
      rw [f1]
      (refine gw ?_; refine LoopN.mk ⟨[0,1,7,11,12,33,34,35], fun vs L => ∃ p : Nat, vs = [i64 pg, i64 size, .ref 0, i64 (a + c : Nat), i64 p, lK l, i64 (l.map eB).length, i64 k] ∧ L = [.row t_bool (tabF D fun j => .bool (or (anyK l pg j k) (decide (A ≤ j) && decide (j < p))))] ∧ A ≤ p ∧ p ≤ C + 1, fun vs L => match vs with | [_, _, _, _, .int _ i, _, _, _] => C + 1 - i.toNat | _ => 0, [], [0], rfl, ⟨A, by rw [← eu]; rfl, ?_, by omega, by omega⟩, ?_⟩)
      · refine congrArg (fun z => [Blk.row t_bool z]) (tabF_congr fun j _ => ?_)
        have : (decide (A ≤ j) && decide (j < A)) = false := by rw [Bool.and_eq_false_iff]; by_cases h : A ≤ j <;> simp [h]
        rw [this, Bool.or_false]
      rintro vs L ⟨p, rfl, rfl, hp1, hp2⟩
      have hlp := hlen fun j => .bool (or (anyK l pg j k) (decide (A ≤ j) && decide (j < p)))
      have hend : ¬ (p ≤ C ∧ p < D) → (tabF D fun j => AV.bool (or (anyK l pg j k) (decide (A ≤ j) && decide (j < p)))) = tabF D fun j => AV.bool (anyK l pg j (k + 1)) := fun hn => by
        refine tabF_congr fun j hj => ?_
        rw [hs']
        have : decide (j < p) = decide (j ≤ C) := decide_eq_decide.2 (by omega)
        rw [this]
      (refine gw ?_)
      rw [f0]
      (refine gw ?_)
      rw [f2]
      by_cases hpC : p ≤ C
      · (refine gw ?_; refine IfB.tt (by simp; omega) ?_)
        (refine gw ?_)
        rw [hlp]
        by_cases hpD : p < D
        · have hset : (tabF D fun j => AV.bool (or (anyK l pg j k) (decide (A ≤ j) && decide (j < p)))).set ((p : Nat) : Int).toNat (.bool true) = tabF D fun j => AV.bool (or (anyK l pg j k) (decide (A ≤ j) && decide (j < p + 1))) := by
            rw [Int.toNat_natCast]
            refine tabF_set hpD fun j hj => ?_
            by_cases e : j = p
            · subst e; rw [if_pos rfl, decide_eq_true hp1, decide_eq_true (show j < j + 1 by omega)]; simp
            · rw [if_neg e]
              have : decide (j < p + 1) = decide (j < p) := decide_eq_decide.2 (by omega)
              rw [this]
          (refine gw ?_; refine IfB.tt (by simp; omega) ?_)
          (refine gw ?_; refine ⟨[], [0], rfl, ⟨p + 1, rfl, by rw [← hset]; rfl, by omega, by omega⟩, (by omega : C + 1 - ((p : Int) + 1).toNat < C + 1 - (p : Int).toNat)⟩)
        · (refine gw ?_; refine IfB.ff (by simp; omega) ?_)
          (refine gw ?_; refine ⟨[], [0], rfl, ⟨k + 1, rfl, by rw [← hend (by omega)]; rfl, hkl⟩, (by omega : l.length - ((k : Int) + 1).toNat < l.length - (k : Int).toNat)⟩)
      · (refine gw ?_; refine IfB.ff (by simp; omega) ?_)
        (refine gw ?_; refine ⟨[], [0], rfl, ⟨k + 1, rfl, by rw [← hend (by omega)]; rfl, hkl⟩, (by omega : l.length - ((k : Int) + 1).toNat < l.length - (k : Int).toNat)⟩)
  · have e : k = l.length := by omega
    subst e
    have f0 : (tabF D fun j => AV.bool (anyK l pg j l.length)) = ((List.range D).map fun j => anyK l pg j l.length).map AV.bool := by rw [← tabF_of]
    rw [f0]
    (refine gw ?_; exact RetN.mk ⟨[0], rfl, rfl, rfl⟩)
end Go.Ev.W
namespace Go.Ev.W
open Go.Ev Go.Ev.N

set_option maxRecDepth 20000 in
set_option maxHeartbeats 4000000 in
theorem plainNew_told (r : Rw) : Told P T plain_New [] [eR r] (.tup [eM (newM r).1, i64 ((newM r).2 : Nat)]) [] := by
  have c1 := confOf_told r
  have hok := ofF_ok (r := r)
  unfold newM
  generalize ofF r = R at *
  obtain ⟨c, e⟩ := R
  by_cases he : e = 0
  · subst he
    have hc : c.Ok := (hok rfl).1
    have hH := hc.h2
    have hpg := hc.pgpos
    have d1 : ((c.H : Nat) : Int).tdiv ((c.Pg : Nat) : Int) = ((c.H / c.Pg : Nat) : Int) := (Int.ofNat_tdiv c.H c.Pg).symm
    have d2 := Nat.div_le_self c.H c.Pg
    simp only [ne_eq, not_true_eq_false, if_false]
    generalize hD : c.H / c.Pg = D at *
    have c1 : Told P T conf_Of [] [eR r] (.tup [eC c, i64 ((0 : Nat) : Int)]) [] := c1
    refine told_of_ev (fn := plain_New_fn) tabOk mixed (by kernel_rfl) (by kernel_rfl) (by kernel_rfl) (by kernel_rfl) ?_
    (refine gw ?_; refine Choice.mk ⟨false, Choice.mk ⟨false, _, _, c1, ?_⟩⟩)
    (refine gw ?_)
    rw [d1]
    (refine gw ?_; refine Room.mk (by first | omega | (simp; omega) | (simp <;> fail)) ?_)
    (refine gw ?_; refine Room.mk (by first | omega | (simp; omega) | (simp <;> fail)) ?_)
    (refine gw ?_; refine RetN.fz ⟨[true, true], [], rfl, ?_, rfl⟩)
    have hr1 : lT (List.replicate D false) = .lst t_bool (List.replicate D (.bool false)) := by unfold lT; rw [List.map_replicate]
    have hr2 : lU (List.replicate c.H 0) = .lst t_uint8 (List.replicate c.H (u8 0)) := by unfold lU; rw [List.map_replicate]
    refine Eq.trans ?_ (congrArg (fun z => AV.tup [z, i64 0]) (show AV.agg [i64 c.G, i64 c.N, i64 c.M, i64 c.L, i64 c.Pg, i64 c.P, i64 c.H, i64 c.Sd, lK [], i64 0, i64 0, i64 0, .lst t_bool (List.replicate ((D : Nat) : Int).toNat (.bool false)), .lst t_uint8 (List.replicate ((c.H : Nat) : Int).toNat (u8 0))] = eM ⟨c, [], 0, 0, 0, List.replicate D false, List.replicate c.H 0⟩ by
      rw [Int.toNat_natCast, Int.toNat_natCast, ← hr1, ← hr2]; rfl))
    rfl
  · simp only [ne_eq, he, not_false_eq_true, if_true]
    refine told_of_ev (fn := plain_New_fn) tabOk mixed (by kernel_rfl) (by kernel_rfl) (by kernel_rfl) (by kernel_rfl) ?_
    have c1 : Told P T conf_Of [] [eR r] (.tup [eC c, i64 ((e : Nat) : Int)]) [] := c1
    (refine gw ?_; refine Choice.mk ⟨false, Choice.mk ⟨false, _, _, c1, ?_⟩⟩)
    (refine gw ?_; refine IfB.tt (by simpa using he) ?_)
    (refine gw ?_; exact RetN.fz ⟨[true, true], [], rfl, rfl, rfl⟩)
end Go.Ev.W
namespace Go.Ev.W
open Go.Ev Go.Ev.N

theorem findB1_told (x : Bk) (y : Int) : Told P T plain_find_1 [] [eB x, .eptr (i64 y) 0] (.bool (decide (x.a = y))) [] := by
  refine told_of_ev (fn := plain_find_1_fn) tabOk mixed (by kernel_rfl) (by kernel_rfl) (by kernel_rfl) (by kernel_rfl) ?_
  refine gw ?_
  (refine gw ?_; refine RetN.mk ⟨[], rfl, ?_, rfl⟩)
  refine congrArg AV.bool ?_
  by_cases h : x.a = y
  · simp [h]
  · simp [h]
theorem indexFuncB_told (l : List Bk) (hl : l.length ≤ 1000000) (y : Int) : Told P T slices_IndexFunc_api_Block_api_Block [] [lK l, .fn plain_find_1 [.eptr (i64 y) 0]] (i64 (match findB l y with | some i => ((i : Nat) : Int) | none => -1)) [] := by
  have hml : (l.map eB).length = l.length := by simp
  refine told_of_ev (fn := slices_IndexFunc_api_Block_api_Block_fn) tabOk mixed (by kernel_rfl) (by kernel_rfl) (by kernel_rfl) (by kernel_rfl) ?_
  (refine gw ?_; refine LoopN.mk ⟨[0,1,7,8], fun vs L => ∃ i : Nat, vs = [lK l, .fn plain_find_1 [.eptr (i64 y) 0], i64 (l.map eB).length, i64 i] ∧ L = [] ∧ i ≤ l.length ∧ ∀ j (h : j < l.length), j < i → l[j].a ≠ y, fun vs L => match vs with | [_, _, _, .int _ i] => l.length - i.toNat | _ => 0, [], [], rfl, ⟨0, rfl, rfl, by omega, fun j _ h => by omega⟩, ?_⟩)
  rintro vs L ⟨i, rfl, rfl, hi, hn⟩
  (refine gw ?_; first | refine IfB.dec (fun h1 => ?_) (fun h1 => ?_) | refine IfB.eq (fun h1 => ?_) (fun h1 => ?_) | refine IfB.ne (fun h1 => ?_) (fun h1 => ?_) | refine IfB.mk (fun h1 => ?_) (fun h1 => ?_))
  · have hlt : i < l.length := by omega
    (refine gw ?_; refine idx_map (hlt) ?_)
    (refine gw ?_; refine Choice.mk ⟨false, Choice.mk ⟨true, _, _, findB1_told l[i] y, ?_⟩⟩)
    by_cases h2 : l[i].a = y
    · rw [decide_eq_true h2, findB_some hlt hn h2]
      (refine gw ?_; exact RetN.mk ⟨[], rfl, rfl, rfl⟩)
    · rw [decide_eq_false h2]
      (refine gw ?_; refine ⟨[], [], rfl, ⟨i + 1, rfl, rfl, hlt, fun j h hj => ?_⟩, (by omega : l.length - ((i : Int) + 1).toNat < l.length - (i : Int).toNat)⟩)
      rcases Nat.lt_or_ge j i with h' | h'
      · exact hn j h h'
      · have : j = i := by omega
        subst this; exact h2
  · rw [findB_none fun j hj => hn j hj (by omega)]
    (refine gw ?_; exact RetN.mk ⟨[], rfl, rfl, rfl⟩)
theorem plainFind_told (m : Mo) (hl : m.bs.length ≤ 1000000) (y : Int) : Told P T plain_find [] [eM m, i64 y] (i64 (match findB m.bs y with | some i => ((i : Nat) : Int) | none => -1)) [] := by
  have c1 := indexFuncB_told m.bs hl y
  refine told_of_ev (fn := plain_find_fn) tabOk mixed (by kernel_rfl) (by kernel_rfl) (by kernel_rfl) (by kernel_rfl) ?_
  (refine gw ?_; refine Choice.mk ⟨false, Choice.mk ⟨true, _, _, c1, ?_⟩⟩)
  (refine gw ?_; exact RetN.mk ⟨[], rfl, rfl, rfl⟩)
/-- A place is free, if the first block that ends behind it begins behind what is asked for. -/
theorem free_scan {H : Nat} {l : List Bk} (ha : ApB H l) {y n : Int} {i : Nat} (hi : i ≤ l.length) (h1 : ∀ j (h : j < l.length), j < i → l[j].a + l[j].c ≤ y) (h2 : ∀ h : i < l.length, y < l[i].a + l[i].c) : freeAt l n y = (if h : i < l.length then decide (y + n ≤ l[i].a) else true) := by
  rw [Bool.eq_iff_iff, freeAt_iff]
  constructor
  · intro hf
    split
    · rename_i h
      have := hf _ (List.getElem_mem h)
      have := h2 h
      exact decide_eq_true (by omega)
    · rfl
  · intro hf x hx
    obtain ⟨j, hj, rfl⟩ := List.getElem_of_mem hx
    rcases Nat.lt_trichotomy j i with h | h | h
    · have := h1 j hj h; omega
    · subst h
      rw [dif_pos hj] at hf
      have := of_decide_eq_true hf
      omega
    · have hil : i < l.length := by omega
      rw [dif_pos hil] at hf
      have := of_decide_eq_true hf
      have := List.pairwise_iff_getElem.1 ha.p i j hil hj h
      have := ha.b _ (List.getElem_mem hil)
      omega
set_option maxHeartbeats 2000000 in
theorem plainLowest_told {m : Mo} (hc : m.c.Ok) (ha : ApB m.c.H m.bs) {n : Nat} (hn : 1 ≤ n) (hn2 : n ≤ 65536) : Told P T plain_lowest [] [eM m, i64 n] (.tup [i64 ((lowF m.c m.bs n).1 : Nat), .bool (lowF m.c m.bs n).2]) [] := by
  have hml : (m.bs.map eB).length = m.bs.length := by simp
  have hH := hc.h2
  have hd := Nat.div_mul_le_self m.c.H n
  have hdl := Nat.div_add_mod m.c.H n
  have hdm := Nat.mod_lt m.c.H hn
  have hlen := ha.len
  obtain ⟨R, hR⟩ : ∃ R, lowF m.c m.bs n = R := ⟨_, rfl⟩
  obtain ⟨D, hD⟩ : ∃ D, m.c.H / n = D := ⟨_, rfl⟩
  rw [hD] at hd hdl
  rw [hR]
  refine told_of_ev (fn := plain_lowest_fn) tabOk mixed (by kernel_rfl) (by kernel_rfl) (by kernel_rfl) (by kernel_rfl) ?_
  (refine gw ?_; refine IfB.ff (by simp; omega) ?_)
  (refine gw ?_; refine LoopN.mk ⟨[1,2,6,7], fun vs L => ∃ k i : Nat, vs = [i64 n, .ptr 0 0 0, i64 (k * n : Nat), i64 i] ∧ L = [.var (eM m)] ∧ k ≤ D ∧ i ≤ m.bs.length ∧ R = lowGo m.bs n (D - k) k ∧ ∀ j (h : j < m.bs.length), j < i → m.bs[j].a + m.bs[j].c ≤ (k * n : Nat), fun vs L => match vs with | [_, _, .int _ i, _] => m.c.H + n - i.toNat | _ => 0, [], [0], rfl, ⟨0, 0, by rw [Nat.zero_mul]; rfl, rfl, by omega, by omega, by rw [← hR, ← hD]; rfl, fun j _ h => by omega⟩, ?_⟩)
  rintro vs L ⟨k, i, rfl, rfl, hk, hi, he, hb⟩
  have hkn : k * n ≤ D * n := Nat.mul_le_mul_right _ hk
  have hsn : (k + 1) * n = k * n + n := by rw [Nat.succ_mul]
  have hlt : k * n + n ≤ m.c.H → k < D := fun h => by
    rcases Nat.lt_or_ge k D with h' | h'
    · exact h'
    · have : D * n ≤ k * n := Nat.mul_le_mul_right _ h'
      rw [Nat.mul_comm n D] at hdl
      omega
  have hge : k < D → k * n + n ≤ m.c.H := fun h => by
    have : (k + 1) * n ≤ D * n := Nat.mul_le_mul_right _ h
    omega
  obtain ⟨y, hy⟩ : ∃ y, k * n = y := ⟨_, rfl⟩
  rw [hy] at hkn hsn hlt hge hb ⊢
  (refine gw ?_; first | refine IfB.dec (fun h1 => ?_) (fun h1 => ?_) | refine IfB.eq (fun h1 => ?_) (fun h1 => ?_) | refine IfB.ne (fun h1 => ?_) (fun h1 => ?_) | refine IfB.mk (fun h1 => ?_) (fun h1 => ?_))
  · have hkD := hlt (by omega)
    have e1 : D - k = (D - (k + 1)) + 1 := by omega
    rw [e1, lowGo, hy] at he
    (refine gw ?_; refine LoopN.mk ⟨[1,2,6,7], fun vs L => ∃ i : Nat, vs = [i64 n, .ptr 0 0 0, i64 y, i64 i] ∧ L = [.var (eM m)] ∧ i ≤ m.bs.length ∧ ∀ j (h : j < m.bs.length), j < i → m.bs[j].a + m.bs[j].c ≤ (y : Nat), fun vs L => match vs with | [_, _, _, .int _ i] => m.bs.length - i.toNat | _ => 0, [], [0], rfl, ⟨i, rfl, rfl, hi, hb⟩, ?_⟩)
    rintro vs L ⟨i, rfl, rfl, hi, hb⟩
    by_cases g1 : i < m.bs.length
    · have hbi := ha.b _ (List.getElem_mem g1)
      (refine gw ?_; refine IfB.tt (by simp; omega) ?_)
      (refine gw ?_; refine idx_map (g1) ?_)
      (refine gw ?_; refine idx_map (g1) ?_)
      (refine gw ?_; first | refine IfB.dec (fun g2 => ?_) (fun g2 => ?_) | refine IfB.eq (fun g2 => ?_) (fun g2 => ?_) | refine IfB.ne (fun g2 => ?_) (fun g2 => ?_) | refine IfB.mk (fun g2 => ?_) (fun g2 => ?_))
      · (refine gw ?_; refine ⟨[], [0], rfl, ⟨i + 1, rfl, rfl, g1, fun j h hj => ?_⟩, (by omega : m.bs.length - ((i : Int) + 1).toNat < m.bs.length - (i : Int).toNat)⟩)
        rcases Nat.lt_or_ge j i with h' | h'
        · exact hb j h h'
        · have : j = i := by omega
          subst this; exact g2
      · have hfs := free_scan ha (y := y) (n := n) hi hb fun _ => by omega
        rw [dif_pos g1] at hfs
        (refine gw ?_; refine IfB.ff (by simp; omega) ?_)
        (refine gw ?_; refine idx_map (g1) ?_)
        (refine gw ?_; first | refine IfB.dec (fun g3 => ?_) (fun g3 => ?_) | refine IfB.eq (fun g3 => ?_) (fun g3 => ?_) | refine IfB.ne (fun g3 => ?_) (fun g3 => ?_) | refine IfB.mk (fun g3 => ?_) (fun g3 => ?_))
        · rw [decide_eq_true (by omega)] at hfs
          rw [hfs, if_pos rfl] at he
          rw [he]
          (refine gw ?_; exact RetN.mk ⟨[], rfl, rfl, rfl⟩)
        · rw [decide_eq_false (by omega)] at hfs
          rw [hfs, if_neg (by simp)] at he
          (refine gw ?_; refine ⟨[], [0], rfl, ⟨k + 1, i, by rw [hsn]; rfl, rfl, hkD, hi, he, fun j h hj => by have := hb j h hj; rw [hsn]; omega⟩, (by omega : m.c.H + n - ((y : Int) + (n : Int)).toNat < m.c.H + n - (y : Int).toNat)⟩)
    · have hfs := free_scan ha (y := y) (n := n) hi hb fun h => absurd h g1
      rw [dif_neg g1] at hfs
      rw [hfs, if_pos rfl] at he
      (refine gw ?_; refine IfB.ff (by simp; omega) ?_)
      (refine gw ?_; refine IfB.tt (by simp; omega) ?_)
      rw [he]
      (refine gw ?_; exact RetN.mk ⟨[], rfl, rfl, rfl⟩)
  · have hkD : k = D := by
      rcases Nat.lt_or_ge k D with h' | h'
      · have := hge h'; omega
      · omega
    rw [hkD, Nat.sub_self, lowGo] at he
    rw [he]
    (refine gw ?_; exact RetN.mk ⟨[], rfl, rfl, rfl⟩)
end Go.Ev.W
namespace Go.Ev.W
open Go.Ev Go.Ev.N

theorem overlaps_Block (xs es : List AV) (hx : 0 < xs.length) (i n : Nat) : Told P T slices_overlaps_api_Block [.row t_api_Block xs, .row t_api_Block es] [.ref 0, .sub 1 i n] (.bool false) [.row t_api_Block xs, .row t_api_Block es] :=
  told_overlaps (fn := slices_overlaps_api_Block_fn) (tS := ts_api_Block) (tR := t_bool) tabOk (by kernel_rfl) (by kernel_rfl) (by kernel_rfl) (by kernel_rfl) (by kernel_rfl) (by kernel_rfl) (by kernel_rfl) xs es hx i n

set_option maxHeartbeats 4000000 in
theorem insert_Block (es : List AV) (x : AV) (i : Nat) (hi : i ≤ es.length) (hl : es.length ≤ 1000000) :
    Told P T slices_Insert_api_Block_api_Block [.row t_api_Block es, .row t_api_Block [x]] [.ref 0, .int .i64 (i : Nat), .ref 1] (.ref 2) [.dead, .row t_api_Block [x], .row t_api_Block (es.take i ++ (x :: es.drop i))] := by
  refine told_of_ev_drop (fn := slices_Insert_api_Block_api_Block_fn) tabOk mixed (by kernel_rfl) (by kernel_rfl) (by kernel_rfl) (by kernel_rfl) ?_
  refine Cut.mk (by omega) (by omega) (by omega) ?_
  refine IfB.ff rfl ?_
  refine IfB.mk (fun h1 => ?_) (fun h1 => ?_)
  · have hie : i = es.length := by have := of_decide_eq_true h1; omega
    refine Room.mk (by first | omega | (simp; omega) | (simp; done)) ?_
    refine RetN.mk ⟨[3], rfl, rfl, .inl rfl, .inl rfl, .inl ?_, trivial⟩
    subst hie
    show Blk.row t_api_Block (es.take es.length ++ (x :: es.drop es.length)) = Blk.row t_api_Block (es ++ [x])
    rw [List.take_length, List.drop_length]
  · have hlt : i < es.length := by have := of_decide_eq_false h1; omega
    refine fits (wrap64 (by first | omega | (simp; omega) | (simp; done)) (by first | omega | (simp; omega) | (simp; done))) ?_
    refine AnyN.mk (fun c hc => ?_)
    refine IfB.mk (fun h2 => ?_) (fun h2 => ?_)
    · have hcc : c < es.length + 1 := by have := of_decide_eq_true h2; simp at this; omega
      refine Choice.mk ⟨false, ?_⟩
      refine Cut.mk (Int.le_refl _) (by omega) (by omega) ?_
      refine fits (wrap64 (by first | omega | (simp; omega) | (simp; done)) (by first | omega | (simp; omega) | (simp; done))) ?_
      refine fits (wrap64 (by first | omega | (simp; omega) | (simp; done)) (by first | omega | (simp; omega) | (simp; done))) ?_
      refine Need.mk (by first | omega | (simp; omega) | (simp; done)) ?_
      refine Need.mk (by first | omega | (simp; omega) | (simp; done)) ?_
      refine Room.mk (by first | omega | (simp; omega) | (simp; done)) ?_
      refine Cut.mk (by omega) (by first | omega | (simp; omega) | (simp; done)) (by first | omega | (simp; omega) | (simp; done)) ?_
      refine fits (wrap64 (by first | omega | (simp; omega) | (simp; done)) (by first | omega | (simp; omega) | (simp; done))) ?_
      refine Cut.mk (by first | omega | (simp; omega) | (simp; done)) (by first | omega | (simp; omega) | (simp; done)) (by first | omega | (simp; omega) | (simp; done)) ?_
      refine Cut.mk (by omega) (by omega) (by omega) ?_
      refine Sure.mk (by kernel_rfl) ?_
      refine RetN.mk ⟨[3], rfl, rfl, .inr rfl, .inl rfl, .inl ?_, trivial⟩
      show Blk.row t_api_Block (es.take i ++ (x :: es.drop i)) = Blk.row t_api_Block _
      refine congrArg _ ?_
      have e1 : ((es.length : Int) + (([x] : List AV).length : Int) - (i : Int)).toNat = es.length + 1 - i := by first | (simp; done) | (simp; omega)
      have e2 : ((i : Int) + (([x] : List AV).length : Int)).toNat = i + 1 := by first | (simp; done) | (simp; omega)
      have e3 : min 1 (es.length + 1 - i) = 1 := by omega
      simp only [e1, e2, Int.toNat_natCast]
      have e4 : i + (1 + (es.length + 1 - i - 1)) - (i + 1) = es.length - i := by omega
      have e5 : i + 1 + (es.length - i) - i - 1 = es.length - i := by omega
      have e6 : es.length + 1 - i - 1 - (es.length - i) = 0 := by omega
      have e7 : (es.take i).length = i := by rw [List.length_take]; omega
      have d1 : ∀ k, i ≤ k → (es.take i).drop k = [] := fun k hk => List.drop_eq_nil_of_le (by omega)
      have d2 : ∀ k, 1 ≤ k → ([x] : List AV).drop k = [] := fun k hk => List.drop_eq_nil_of_le (by simpa using hk)
      have d3 : ([x] : List AV).take 1 = [x] := rfl
      have d4 : (es.drop i).take (es.length - i) = es.drop i := List.take_of_length_le (by simp)
      have e8 : i + 1 + (es.length - i) - i = 1 + (es.length - i) := by omega
      simp [List.take_append, List.drop_append, List.take_of_length_le, Nat.min_eq_left (Nat.le_of_lt hlt), e3, e4, e8, d3, d4, d2, d1, e6]
      have e9 : i + (es.length + 1 - i - 1 + 1) - (i + 1) = es.length - i := by omega
      have d5 : ∀ z : AV, (x :: List.replicate (es.length + 1 - i - 1) z).drop (i + 1 + (es.length - i) - i) = [] := fun z => List.drop_eq_nil_of_le (by rw [List.length_cons, List.length_replicate]; omega)
      rw [e9, Nat.min_self, d4, d1 _ (by omega), d5]
      simp
    · have hcc : es.length + 1 ≤ c := by have := of_decide_eq_false h2; simp at this; omega
      refine fits (wrap64 (by first | omega | (simp; omega) | (simp; done)) (by first | omega | (simp; omega) | (simp; done))) ?_
      refine Choice.mk ⟨true, ?_⟩
      refine Cut.mk (by omega) (by first | omega | (simp; omega) | (simp; done)) (by first | omega | (simp; omega) | (simp; done)) ?_
      refine fits (wrap64 (by first | omega | (simp; omega) | (simp; done)) (by first | omega | (simp; omega) | (simp; done))) ?_
      refine Cut.mk (by first | omega | (simp; omega) | (simp; done)) (by first | omega | (simp; omega) | (simp; done)) (by first | omega | (simp; omega) | (simp; done)) ?_
      refine Choice.mk ⟨true, Choice.mk ⟨false, _, _, overlaps_Block [x] _ (by simp) _ _, ?_⟩⟩
      refine IfB.tt rfl ?_
      refine fits (wrap64 (by first | omega | (simp; omega) | (simp; done)) (by first | omega | (simp; omega) | (simp; done))) ?_
      refine Cut.mk (by first | omega | (simp; omega) | (simp; done)) (by first | omega | (simp; omega) | (simp; done)) (by first | omega | (simp; omega) | (simp; done)) ?_
      refine Cut.mk (by simp) (by first | omega | (simp; omega) | (simp; done)) (by first | omega | (simp; omega) | (simp; done)) ?_
      refine Sure.mk (by kernel_rfl) ?_
      refine Cut.mk (by simp) (by first | omega | (simp; omega) | (simp; done)) (by first | omega | (simp; omega) | (simp; done)) ?_
      refine RetN.mk ⟨[3], rfl, rfl, .inl rfl, .inl rfl, .inl ?_, trivial⟩
      show Blk.row t_api_Block (es.take i ++ (x :: es.drop i)) = Blk.row t_api_Block _
      refine congrArg _ ?_
      have n1 : ((es.length : Int) + (([x] : List AV).length : Int)).toNat - es.length = 1 := by first | (simp; done) | (simp; omega)
      have n2 : ((i : Int) + (([x] : List AV).length : Int)).toNat = i + 1 := by first | (simp; done) | (simp; omega)
      have r := ins_room es x (junkE T t_api_Block) i hlt
      have m1 : min ([x] : List AV).length (es.length + 1 - i) = 1 := by first | (simp; done) | (simp; omega)
      simp only [n1, n2, Int.toNat_natCast, List.replicate_one]
      rw [r.2.2, m1, r.1, r.2.1]
      rfl

set_option maxHeartbeats 4000000 in
theorem delete_Block (es : List AV) (i : Nat) (hi : i < es.length) (hl : es.length ≤ 1000000) :
    Told P T slices_Delete_api_Block_api_Block [.row t_api_Block es] [.ref 0, .int .i64 (i : Nat), .int .i64 ((i : Nat) + 1)] (.sub 0 0 (es.length - 1)) [.row t_api_Block (es.take i ++ (es.drop (i + 1) ++ [zeroE T t_api_Block]))] := by
  refine told_of_ev (fn := slices_Delete_api_Block_api_Block_fn) tabOk mixed (by kernel_rfl) (by kernel_rfl) (by kernel_rfl) (by kernel_rfl) ?_
  refine Cut.mk (by omega) (by omega) (by omega) ?_
  refine Need.mk (by omega) ?_
  refine IfB.ff (by simp; omega) ?_
  refine Cut.mk (by omega) (by omega) (by omega) ?_
  refine Cut.mk (by omega) (by omega) (by omega) ?_
  refine Need.mk (by simp; omega) ?_
  refine Sure.mk (by kernel_rfl) ?_
  refine Cut.mk (by omega) (by simp; omega) (by simp; omega) ?_
  have f0 : Int.toNat 0 = 0 := rfl
  have f1 : (((i : Nat) : Int) + 1).toNat = i + 1 := by omega
  have f2 : (es.drop (i + 1)).take (es.length - (i + 1)) = es.drop (i + 1) := List.take_of_length_le (by simp)
  have f3 : (es.drop (i + 1)).length = es.length - (i + 1) := by simp
  have f4 : i + (es.length - (i + 1)) = es.length - 1 := by omega
  have f5 : es.length - (es.length - 1) = 1 := by omega
  have f6 : es.length - 1 + 1 = es.length := by omega
  refine RetN.mk ⟨[], rfl, ?_, ?_⟩
  · show AV.sub 0 0 _ = AV.sub 0 0 _
    congr 1
    simp only [Int.toNat_natCast, f1, f2, f3, f0, Nat.sub_zero]
    omega
  · show [Blk.row t_api_Block _] = [Blk.row t_api_Block _]
    congr 2
    simp only [Int.toNat_natCast, f1, f2, f3, f0, Nat.sub_zero, Nat.zero_add, f4, f5, f6]
    have g1 : (es.take i ++ es.drop (i + 1)).length = es.length - 1 := by rw [List.length_append, List.length_take, f3]; omega
    have R : es.take i ++ (es.drop (i + 1) ++ es.drop (es.length - 1)) = (es.take i ++ es.drop (i + 1)) ++ es.drop (es.length - 1) := by simp
    have g3 : ((es.take i ++ es.drop (i + 1)) ++ es.drop (es.length - 1)).drop es.length = [] := List.drop_eq_nil_of_le (by rw [List.length_append, g1, List.length_drop]; omega)
    rw [R, List.take_append_of_le_length (by omega), List.take_of_length_le (by omega), g3, List.append_nil, List.append_assoc]
    rfl

end Go.Ev.W
namespace Go.Ev.W
open Go.Ev Go.Ev.N

/-- All that there is, its rows in blocks. -/
def eMr (c : Cf) (x : AV) (live peak mark : Int) (y z : AV) : AV := .agg [i64 c.G, i64 c.N, i64 c.M, i64 c.L, i64 c.Pg, i64 c.P, i64 c.H, i64 c.Sd, x, i64 live, i64 peak, i64 mark, y, z]
theorem deleteB_told (l : List Bk) (i : Nat) (hi : i < l.length) (hl : l.length ≤ 1000000) :
    Told P T slices_Delete_api_Block_api_Block [.row t_api_Block (l.map eB)] [.ref 0, i64 (i : Nat), i64 ((i : Nat) + 1)] (.ref 1) [.dead, .row t_api_Block ((dropB l i).map eB)] := by
  have t := delete_Block (l.map eB) i (by simpa using hi) (by simpa using hl)
  have t := t.trim 0 (l.length - 1) rfl (by simp; omega) (by simp; omega) (fun _ => ⟨rfl, by simp⟩)
  have e : List.take (l.length - 1) ((l.map eB).take i ++ ((l.map eB).drop (i + 1) ++ [zeroE T t_api_Block])) = (dropB l i).map eB := by
    unfold dropB
    rw [List.map_append, List.map_take, List.map_drop, ← List.append_assoc, List.take_left']
    simp; omega
  rw [e] at t
  exact t
set_option maxHeartbeats 2000000 in
theorem goes_told {c : Cf} {bs : List Bk} {live peak mark : Int} {on mem : List AV} (hl : bs.length ≤ 1000000) (hlv : 0 ≤ live ∧ live ≤ 1000000) (hb : ∀ x ∈ bs, 0 ≤ x.c ∧ x.c ≤ 1000000) {i : Nat} (hi : i < bs.length) :
    Told P T plain_goes [.row t_api_Block (bs.map eB), .row t_bool on, .row t_uint8 mem] [eMr c (.ref 0) live peak mark (.ref 1) (.ref 2), i64 i]
      (eMr c (.ref 3) (live - bs[i].c) peak mark (.ref 1) (.ref 2)) [.dead, .row t_bool on, .row t_uint8 mem, .row t_api_Block ((dropB bs i).map eB)] := by
  have hml : (bs.map eB).length = bs.length := by simp
  have c1 := deleteB_told bs i hi hl
  have hbi := hb _ (List.getElem_mem hi)
  refine told_of_ev (fn := plain_goes_fn) tabOk mixed (by kernel_rfl) (by kernel_rfl) (by kernel_rfl) (by kernel_rfl) ?_
  (refine gw ?_)
  refine at_map (k := i) hi ?_
  (refine gw ?_; refine Choice.mk ⟨true, Choice.mk ⟨false, _, _, c1, ?_⟩⟩)
  (refine gw ?_)
  exact RetN.mk ⟨[8], rfl, rfl, rfl⟩
set_option maxHeartbeats 2000000 in
theorem twin_told {c : Cf} {live peak mark : Int} {bs on mem : List AV} (h1 : bs.length ≤ 1000000) (h2 : on.length ≤ 1000000) (h3 : mem.length ≤ 1000000) :
    Told P T plain_twin [] [eMr c (.lst t_api_Block bs) live peak mark (.lst t_bool on) (.lst t_uint8 mem)] (eMr c (.ref 0) live peak mark (.ref 1) (.ref 2)) [.row t_api_Block bs, .row t_bool on, .row t_uint8 mem] := by
  have c1 := clone_Block bs h1
  have c2 := clone_bool on h2
  have c3 := clone_byte mem h3
  refine told_of_ev (fn := plain_twin_fn) tabOk mixed (by kernel_rfl) (by kernel_rfl) (by kernel_rfl) (by kernel_rfl) ?_
  (refine gw ?_; refine Choice.mk ⟨false, Choice.mk ⟨false, _, _, c1, ?_⟩⟩)
  (refine gw ?_; refine Choice.mk ⟨false, Choice.mk ⟨false, _, _, c2, ?_⟩⟩)
  (refine gw ?_; refine Choice.mk ⟨false, Choice.mk ⟨false, _, _, c3, ?_⟩⟩)
  (refine gw ?_)
  exact RetN.mk ⟨[5,6,7], rfl, rfl, rfl⟩
end Go.Ev.W
namespace Go.Ev.W
open Go.Ev Go.Ev.N

/-- Where a block is put: behind those that begin below. -/
theorem lowB_free {H : Nat} {l : List Bk} (ha : ApB H l) {y : Int} {n : Int} (hn : 1 ≤ n) (hf : freeAt l n y = true) : ∀ k (h : k < l.length), l[k].a < y ↔ k < lowB y l := by
  intro k h
  have hb := ha.b _ (List.getElem_mem h)
  have hx := (freeAt_iff.1 hf) _ (List.getElem_mem h)
  constructor
  · intro h1
    rcases Nat.lt_or_ge k (lowB y l) with h2 | h2
    · exact h2
    · exfalso
      have h3 := lowB_ge (y := y) (l := l) (by omega)
      rcases Nat.lt_or_ge (lowB y l) k with h4 | h4
      · have := List.pairwise_iff_getElem.1 ha.p (lowB y l) k (by omega) h h4
        have := ha.b _ (List.getElem_mem (show lowB y l < l.length by omega))
        omega
      · have e : lowB y l = k := by omega
        simp only [e] at h3
        omega
  · intro h1
    have h2 := lowB_lt (y := y) h h1
    omega
structure PutIn (m : Mo) (n : Nat) (q : Int) : Prop where
  c : m.c.Ok
  a : ApB m.c.H m.bs
  l : m.live = totalB m.bs
  p : 0 ≤ m.peak ∧ m.peak ≤ m.c.H
  k : 0 ≤ m.mark ∧ m.mark ≤ m.c.H
  o : m.on.length = m.c.H / m.c.Pg
  mm : m.mem.length = m.c.H
  n1 : 1 ≤ n
  n2 : n ≤ m.c.N
theorem MoOk.putIn {m : Mo} (h : MoOk m) {n : Nat} {q : Int} (h1 : 1 ≤ n) (h2 : n ≤ m.c.N) : PutIn m n q := by
  have hc := h.c
  have hMH : m.c.M ≤ m.c.H := by have := hc.h; omega
  have ht := totalB_nonneg h.a
  have hl := h.l
  have hp := h.p
  have hk := h.k
  exact ⟨hc, h.a, hl, by omega, by omega, h.o, h.mm, h1, h2⟩
abbrev rK (l : List Bk) : Blk := .row t_api_Block (l.map eB)
abbrev rT (l : List Bool) : Blk := .row t_bool (l.map .bool)
abbrev rU (l : List Nat) : Blk := .row t_uint8 (l.map u8)
set_option maxHeartbeats 8000000 in
theorem putsNo_told {m : Mo} {n : Nat} {q : Int} (hi : PutIn m n q) (h : (placeF m m.bs n q).2.2 ≠ 0) : Told P T plain_puts [rK m.bs, rT m.on, rU m.mem] [eMr m.c (.ref 0) m.live m.peak m.mark (.ref 1) (.ref 2), i64 n, i64 q] (.tup [eM m, i64 0, i64 (placeF m m.bs n q).2.2]) [.fz t_api_Block (m.bs.map eB), .fz t_bool (m.on.map .bool), .fz t_uint8 (m.mem.map u8)] := by
  have hc := hi.c
  have ha := hi.a
  have hn := hi.n1
  have hN := hi.n2
  have hH := hc.h2
  have hNM := hc.nM
  have hMH : m.c.M ≤ m.c.H := by have := hc.h; omega
  have hlen := ha.len
  have hpg := hc.pgpos
  have c1 := plainLowest_told hc ha hn (by omega)
  have hsp := lowF_spec (c := m.c) (l := m.bs) hn
  unfold placeF at h ⊢
  simp only at h ⊢
  generalize lowF m.c m.bs n = R at *
  obtain ⟨y, ok⟩ := R
  refine told_of_ev (fn := plain_puts_fn) tabOk mixed (by kernel_rfl) (by kernel_rfl) (by kernel_rfl) (by kernel_rfl) ?_
  (refine gw ?_; refine Choice.mk ⟨false, Choice.mk ⟨true, _, _, c1, ?_⟩⟩)
  cases ok with
  | false =>
    rw [if_pos rfl]
    (refine gw ?_; exact RetN.fz ⟨[true, true, true], [], rfl, rfl, rfl⟩)
  | true =>
    obtain ⟨j, h1, h2, h3, h4⟩ := hsp rfl
    simp only at h1 h2 h3 h4 h ⊢
    rw [← h1] at h2
    rw [if_neg (by simp)] at h ⊢
    have hpa := hc.pages hn h2
    have hml : (metF m.c.Pg m.c.H m.bs).length = m.on.length := by rw [hi.o]; simp [metF]
    have hol : m.on.length ≤ 65536 := by have := hi.o; have := Nat.div_le_self m.c.H m.c.Pg; omega
    have c2 := pinPages_told (pg := m.c.Pg) (y := y) (n := n) hpg hn (by omega)
    have hpH : m.c.Pg ≤ m.c.H := by
      obtain ⟨k, hk⟩ := hc.pgH
      have : 1 ≤ k := by
        rcases Nat.eq_zero_or_pos k with h | h
        · subst h; omega
        · exact h
      rw [hk]; exact Nat.le_mul_of_pos_right _ this
    have c3 := pinMetR_told (pg := m.c.Pg) (size := m.c.H) hpg hH hpH (l := m.bs) (by omega) ha.b
    have c4 := commit_told (on := m.on) hml hol (f := y / m.c.Pg) (b := (y + n - 1) / m.c.Pg + 1) (most := m.c.P) hpa.1 (by rw [hi.o]; exact hpa.2) hc.b
    generalize commitF m.on (metF m.c.Pg m.c.H m.bs) (y / m.c.Pg) ((y + n - 1) / m.c.Pg + 1) m.c.P = C at *
    obtain ⟨on', fr, ok'⟩ := C
    (refine gw ?_; refine Choice.mk ⟨false, Choice.mk ⟨true, _, _, c2, ?_⟩⟩)
    (refine gw ?_; refine Choice.mk ⟨false, Choice.mk ⟨true, _, _, c3, ?_⟩⟩)
    (refine gw ?_)
    refine Need.mk ?_ ?_
    · intro x hx
      obtain ⟨v, _, rfl⟩ := List.mem_map.1 hx
      rfl
    (refine gw ?_; refine Choice.mk ⟨false, Choice.mk ⟨false, _, _, c4, ?_⟩⟩)
    cases ok' with
    | false =>
      rw [if_pos rfl]
      (refine gw ?_; exact RetN.fz ⟨[true, true, true], [], rfl, rfl, rfl⟩)
    | true =>
      rw [if_neg (by simp)] at h
      exact absurd rfl h
end Go.Ev.W
namespace Go.Ev.W
open Go.Ev Go.Ev.N

/-- The answer's variable, before it is written: of no matter. -/
def moU : AV := .agg [i64 0, i64 0, i64 0, i64 0, i64 0, i64 0, i64 0, i64 0, .und, i64 0, i64 0, i64 0, .und, .und]
/-- What puts leaves behind. -/
def PutsTo (m : Mo) (n : Nat) (q : Int) (z : Mo) (y : Int) : Prop :=
  Told P T plain_puts [rK m.bs, rT m.on, rU m.mem] [eMr m.c (.ref 0) m.live m.peak m.mark (.ref 1) (.ref 2), i64 n, i64 q] (.tup [eMr z.c (.ref 3) z.live z.peak z.mark (lT z.on) (.ref 2), i64 y, i64 0]) [.dead, .dead, rU z.mem, rK z.bs] ∨
  Told P T plain_puts [rK m.bs, rT m.on, rU m.mem] [eMr m.c (.ref 0) m.live m.peak m.mark (.ref 1) (.ref 2), i64 n, i64 q] (.tup [eMr z.c (.ref 3) z.live z.peak z.mark (lT z.on) (.ref 4), i64 y, i64 0]) [.dead, .dead, .dead, rK z.bs, rU z.mem]
set_option maxHeartbeats 16000000 in
theorem puts_told {m : Mo} {n : Nat} {q : Int} (hi : PutIn m n q) (h : (placeF m m.bs n q).2.2 = 0) : PutsTo m n q (placeF m m.bs n q).1 (placeF m m.bs n q).2.1 := by
  have hc := hi.c
  have ha := hi.a
  have hn := hi.n1
  have hN := hi.n2
  have hH := hc.h2
  have hNM := hc.nM
  have hMH : m.c.M ≤ m.c.H := by have := hc.h; omega
  have hlen := ha.len
  have hpg := hc.pgpos
  have c1 := plainLowest_told hc ha hn (by omega)
  have hsp := lowF_spec (c := m.c) (l := m.bs) hn
  unfold placeF at h ⊢
  simp only at h ⊢
  generalize lowF m.c m.bs n = R at *
  obtain ⟨y, ok⟩ := R
  cases ok with
  | false => simp at h
  | true =>
    obtain ⟨j, h1, h2, h3, h4⟩ := hsp rfl
    simp only at h1 h2 h3 h4 h ⊢
    rw [← h1] at h2
    rw [if_neg (by simp)] at h ⊢
    have hpa := hc.pages hn h2
    have hml : (metF m.c.Pg m.c.H m.bs).length = m.on.length := by rw [hi.o]; simp [metF]
    have hol : m.on.length ≤ 65536 := by have := hi.o; have := Nat.div_le_self m.c.H m.c.Pg; omega
    have c2 := pinPages_told (pg := m.c.Pg) (y := y) (n := n) hpg hn (by omega)
    have hpH : m.c.Pg ≤ m.c.H := by
      obtain ⟨k, hk⟩ := hc.pgH
      have : 1 ≤ k := by
        rcases Nat.eq_zero_or_pos k with h | h
        · subst h; omega
        · exact h
      rw [hk]; exact Nat.le_mul_of_pos_right _ this
    have c3 := pinMetR_told (pg := m.c.Pg) (size := m.c.H) hpg hH hpH (l := m.bs) (by omega) ha.b
    have c4 := commit_told (on := m.on) hml hol (f := y / m.c.Pg) (b := (y + n - 1) / m.c.Pg + 1) (most := m.c.P) hpa.1 (by rw [hi.o]; exact hpa.2) hc.b
    have hfr := commitF_eq m.on (metF m.c.Pg m.c.H m.bs) (y / m.c.Pg) ((y + n - 1) / m.c.Pg + 1) m.c.P
    generalize commitF m.on (metF m.c.Pg m.c.H m.bs) (y / m.c.Pg) ((y + n - 1) / m.c.Pg + 1) m.c.P = C at *
    obtain ⟨on', fr, ok'⟩ := C
    cases ok' with
    | false => simp at h
    | true =>
      rw [if_neg (by simp)]
      have hlb := lowB_free ha (y := y) (n := n) (by omega) h3
      have hput := putB_ok ha (b := ⟨y, n, q⟩) h3 (by simp; omega)
      have hfl : fr.length ≤ 65536 ∧ ∀ p ∈ fr, (p + 1) * m.c.Pg ≤ m.c.H := by
        split at hfr
        · simp at hfr
        · have e : fr = _ := congrArg (fun z : List Bool × List Nat × Bool => z.2.1) hfr
          simp only at e
          subst e
          refine ⟨Nat.le_trans (freshL_len _ _ _ _) hol, fun p hp => ?_⟩
          have hp := (List.mem_filter.1 hp).1
          have hp : p < m.on.length := by simpa using hp
          rw [hi.o] at hp
          exact (Nat.le_div_iff_mul_le (by omega)).1 hp
      have hfm : (fr.map fun n => i64 (n : Nat)).length = fr.length := by simp
      have hlbl := lowB_le (y : Int) m.bs
      have hmm := hi.mm
      have hbm : (m.bs.map eB).length = m.bs.length := by simp
      have c5 := insert_Block (m.bs.map eB) (eB ⟨y, n, q⟩) (lowB y m.bs) (by omega) (by omega)
      have e5 : (m.bs.map eB).take (lowB y m.bs) ++ (eB ⟨y, n, q⟩ :: (m.bs.map eB).drop (lowB y m.bs)) = (putB m.bs ⟨y, n, q⟩).map eB := by
        unfold putB; rw [List.map_append, List.map_take, List.map_cons, List.map_drop]
      rw [e5] at c5
      have htot := hput.2.2.1
      have htt := hput.1.tot
      have ht0 := totalB_nonneg ha
      have hlv := hi.l
      have hpk := hi.p
      have hmk := hi.k
      have emax : ∀ a b : Int, max a b = if b > a then b else a := fun a b => by split <;> omega
      have htot' : totalB (putB m.bs ⟨y, n, q⟩) = m.live + n := by rw [htot, hlv]
      have htt' : m.live + n ≤ m.c.H := by rw [← htot']; exact htt
      unfold PutsTo
      simp only [htot', emax]
      by_cases hfz : fr.length = 0
      · obtain rfl := List.eq_nil_of_length_eq_zero hfz
        left
        refine told_of_ev_drop (fn := plain_puts_fn) tabOk mixed (by kernel_rfl) (by kernel_rfl) (by kernel_rfl) (by kernel_rfl) ?_
        (refine gw ?_; refine Choice.mk ⟨false, Choice.mk ⟨true, _, _, c1, ?_⟩⟩)
        (refine gw ?_; refine Choice.mk ⟨false, Choice.mk ⟨true, _, _, c2, ?_⟩⟩)
        (refine gw ?_; refine Choice.mk ⟨false, Choice.mk ⟨true, _, _, c3, ?_⟩⟩)
        (refine gw ?_)
        refine Need.mk ?_ ?_
        · intro x hx
          obtain ⟨v, _, rfl⟩ := List.mem_map.1 hx
          rfl
        (refine gw ?_; refine Choice.mk ⟨false, Choice.mk ⟨false, _, _, c4, ?_⟩⟩)
        (refine gw ?_; refine LoopN.mk ⟨[1,2,3,6,9,13,60,61,62], fun vs L => vs = [i64 n, i64 q, .ptr 3 0 0, .ptr 4 0 0, i64 y, lT on', .lst t_int [], i64 0, i64 0] ∧ L = [rK m.bs, .fz t_bool (m.on.map .bool), rU m.mem, .var (eMr m.c (.ref 0) m.live m.peak m.mark (.ref 1) (.ref 2)), .var moU], fun vs L => match vs with | [_, _, _, _, _, _, _, _, .int _ i] => 0 - i.toNat | _ => 0, [], [3,4], rfl, ⟨rfl, rfl⟩, ?_⟩)
        rintro vs L ⟨rfl, rfl⟩
        (refine gw ?_)
        (refine gw ?_; refine LoopN.mk ⟨[1,2,3,6,9,17], fun vs L => ∃ k : Nat, vs = [i64 n, i64 q, .ptr 3 0 0, .ptr 4 0 0, i64 y, i64 k] ∧ L = [rK m.bs, .fz t_bool (m.on.map .bool), rU m.mem, .var (eMr m.c (.ref 0) m.live m.peak m.mark (lT on') (.ref 2)), .var moU] ∧ k ≤ lowB y m.bs, fun vs L => match vs with | [_, _, _, _, _, .int _ i] => lowB y m.bs - i.toNat | _ => 0, [], [3,4], rfl, ⟨0, rfl, rfl, by omega⟩, ?_⟩)
        rintro vs L ⟨k, rfl, rfl, hk⟩
        have hfin : ¬ (k < lowB y m.bs) → k = lowB y m.bs := fun h => by omega
        by_cases g1 : k < m.bs.length
        · have hkk := hlb k g1
          (refine gw ?_; refine IfB.tt (by simp; omega) ?_)
          (refine gw ?_)
          refine at_map (k := k) g1 ?_
          (refine gw ?_; first | refine IfB.dec (fun g2 => ?_) (fun g2 => ?_) | refine IfB.eq (fun g2 => ?_) (fun g2 => ?_) | refine IfB.ne (fun g2 => ?_) (fun g2 => ?_) | refine IfB.mk (fun g2 => ?_) (fun g2 => ?_))
          · (refine gw ?_; refine ⟨[], [3,4], rfl, ⟨k + 1, rfl, rfl, by omega⟩, (by omega : lowB y m.bs - ((k : Int) + 1).toNat < lowB y m.bs - (k : Int).toNat)⟩)
          · obtain rfl := hfin (by omega)
            (refine gw ?_; refine Choice.mk ⟨true, Choice.mk ⟨false, _, _, c5, ?_⟩⟩)
            (refine gw ?_)
            exact RetN.mk ⟨[6], rfl, rfl, .inr rfl, .inr rfl, .inl rfl, .inl rfl, trivial⟩
        · obtain rfl := hfin (by omega)
          (refine gw ?_; refine IfB.ff (by simp; omega) ?_)
          (refine gw ?_; refine Choice.mk ⟨true, Choice.mk ⟨false, _, _, c5, ?_⟩⟩)
          (refine gw ?_)
          exact RetN.mk ⟨[6], rfl, rfl, .inr rfl, .inr rfl, .inl rfl, .inl rfl, trivial⟩
      · right
        have hfk := fun k => fills_len m.c.Sd m.c.Pg (fr.take k) m.mem
        refine told_of_ev_drop (fn := plain_puts_fn) tabOk mixed (by kernel_rfl) (by kernel_rfl) (by kernel_rfl) (by kernel_rfl) ?_
        (refine gw ?_; refine Choice.mk ⟨false, Choice.mk ⟨true, _, _, c1, ?_⟩⟩)
        (refine gw ?_; refine Choice.mk ⟨false, Choice.mk ⟨true, _, _, c2, ?_⟩⟩)
        (refine gw ?_; refine Choice.mk ⟨false, Choice.mk ⟨true, _, _, c3, ?_⟩⟩)
        (refine gw ?_)
        refine Need.mk ?_ ?_
        · intro x hx
          obtain ⟨v, _, rfl⟩ := List.mem_map.1 hx
          rfl
        (refine gw ?_; refine Choice.mk ⟨false, Choice.mk ⟨false, _, _, c4, ?_⟩⟩)
        (refine gw ?_; refine LoopN.mk ⟨[1,2,3,6,9,13,60,61,62], fun vs L => ∃ k : Nat, vs = [i64 n, i64 q, .ptr 3 0 0, .ptr 4 0 0, i64 y, lT on', .lst t_int (fr.map fun n => i64 (n : Nat)), i64 fr.length, i64 k] ∧ k ≤ fr.length ∧ ((k = 0 ∧ L = [rK m.bs, .fz t_bool (m.on.map .bool), rU m.mem, .var (eMr m.c (.ref 0) m.live m.peak m.mark (.ref 1) (.ref 2)), .var moU]) ∨ (0 < k ∧ L = [rK m.bs, .fz t_bool (m.on.map .bool), .fz t_uint8 (m.mem.map u8), .var (eMr m.c (.ref 0) m.live m.peak m.mark (.ref 1) (.ref 5)), .var moU, rU ((fr.take k).foldl (fun mem p => fillF mem m.c.Sd p m.c.Pg) m.mem)])), fun vs L => match vs with | [_, _, _, _, _, _, _, _, .int _ i] => fr.length - i.toNat | _ => 0, [], [3,4], rfl, ⟨0, by rw [← hfm]; rfl, by omega, .inl ⟨rfl, rfl⟩⟩, ?_⟩)
        rintro vs L ⟨k, rfl, hk, hL⟩
        by_cases hkf : k < fr.length
        · have hsu := fills_succ m.c.Sd m.c.Pg m.mem hkf
          have c6 := junkFillR_told (mem := (fr.take k).foldl (fun mem p => fillF mem m.c.Sd p m.c.Pg) m.mem) (by rw [hfk]; omega) (seed := m.c.Sd) (page := fr[k]) (size := m.c.Pg) hpg (by rw [hfk, hmm]; exact hfl.2 _ (List.getElem_mem hkf))
          rw [← hsu] at c6
          rcases hL with ⟨rfl, rfl⟩ | ⟨hk0, rfl⟩
          · have c6 : Told P T junk_Fill [] [lU m.mem, i64 m.c.Sd, i64 fr[0], i64 m.c.Pg] _ _ := c6
            (refine gw ?_; refine IfB.tt (by simp; omega) ?_)
            (refine gw ?_; refine idx_map (hkf) ?_)
            (refine gw ?_; refine Choice.mk ⟨false, Choice.mk ⟨false, _, _, c6, ?_⟩⟩)
            (refine gw ?_; refine ⟨[], [3,4,5], rfl, ⟨1, rfl, by omega, .inr ⟨by omega, rfl⟩⟩, (by omega : fr.length - ((0 : Int) + 1).toNat < fr.length - (0 : Int).toNat)⟩)
          · (refine gw ?_; refine IfB.tt (by simp; omega) ?_)
            (refine gw ?_; refine idx_map (hkf) ?_)
            (refine gw ?_; refine Choice.mk ⟨false, Choice.mk ⟨false, _, _, c6, ?_⟩⟩)
            (refine gw ?_; refine ⟨[], [3,4,6], rfl, ⟨k + 1, rfl, by omega, .inr ⟨by omega, rfl⟩⟩, (by omega : fr.length - ((k : Int) + 1).toNat < fr.length - (k : Int).toNat)⟩)
        · have e : k = fr.length := by omega
          subst e
          rcases hL with ⟨h, _⟩ | ⟨hk0, rfl⟩
          · omega
          · rw [List.take_length]
            (refine gw ?_; refine LoopN.mk ⟨[1,2,3,6,9,17], fun vs L => ∃ k : Nat, vs = [i64 n, i64 q, .ptr 3 0 0, .ptr 4 0 0, i64 y, i64 k] ∧ L = [rK m.bs, .fz t_bool (m.on.map .bool), .fz t_uint8 (m.mem.map u8), .var (eMr m.c (.ref 0) m.live m.peak m.mark (lT on') (.ref 5)), .var moU, rU (fr.foldl (fun mem p => fillF mem m.c.Sd p m.c.Pg) m.mem)] ∧ k ≤ lowB y m.bs, fun vs L => match vs with | [_, _, _, _, _, .int _ i] => lowB y m.bs - i.toNat | _ => 0, [], [3,4,5], rfl, ⟨0, rfl, rfl, by omega⟩, ?_⟩)
            rintro vs L ⟨k, rfl, rfl, hk⟩
            have hfin : ¬ (k < lowB y m.bs) → k = lowB y m.bs := fun h => by omega
            by_cases g1 : k < m.bs.length
            · have hkk := hlb k g1
              (refine gw ?_; refine IfB.tt (by simp; omega) ?_)
              (refine gw ?_)
              refine at_map (k := k) g1 ?_
              (refine gw ?_; first | refine IfB.dec (fun g2 => ?_) (fun g2 => ?_) | refine IfB.eq (fun g2 => ?_) (fun g2 => ?_) | refine IfB.ne (fun g2 => ?_) (fun g2 => ?_) | refine IfB.mk (fun g2 => ?_) (fun g2 => ?_))
              · (refine gw ?_; refine ⟨[], [3,4,5], rfl, ⟨k + 1, rfl, rfl, by omega⟩, (by omega : lowB y m.bs - ((k : Int) + 1).toNat < lowB y m.bs - (k : Int).toNat)⟩)
              · obtain rfl := hfin (by omega)
                (refine gw ?_; refine Choice.mk ⟨true, Choice.mk ⟨false, _, _, c5, ?_⟩⟩)
                (refine gw ?_)
                exact RetN.mk ⟨[7, 5], rfl, rfl, .inr rfl, .inr rfl, .inr rfl, .inl rfl, .inl rfl, trivial⟩
            · obtain rfl := hfin (by omega)
              (refine gw ?_; refine IfB.ff (by simp; omega) ?_)
              (refine gw ?_; refine Choice.mk ⟨true, Choice.mk ⟨false, _, _, c5, ?_⟩⟩)
              (refine gw ?_)
              exact RetN.mk ⟨[7, 5], rfl, rfl, .inr rfl, .inr rfl, .inr rfl, .inl rfl, .inl rfl, trivial⟩
end Go.Ev.W
