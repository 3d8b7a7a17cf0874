/- Words and lemmas, part 7, for laws of this seat (a part of their proofs). -/
import Derived.Test.YtnjhonpgmljigaaGreatP1
import Derived.Test.YtnjhonpgmljigaaGreatP6
import Derived.Test.YtnjhonpgmljigaaGreatNm
import Derived.Test.YtnjhonpgmljigaaGreatEvOpen
import Derived.Test.YtnjhonpgmljigaaGreatEvLib
import Derived.Test.YtnjhonpgmljigaaGreatEvGrid
import Derived.Test.YtnjhonpgmljigaaGreatEvTrim
set_option linter.unusedVariables false
set_option linter.unusedSimpArgs false
namespace Go.Ev.W
open Go.Ev Go.Ev.N

def SzB (c : Cf) (x : Bk) : Prop := ∃ k, k ≤ c.L ∧ x.c = ((c.G * 2 ^ k : Nat) : Int) ∧ x.a % x.c = 0 ∧ 0 ≤ x.q ∧ x.q ≤ x.c
theorem cnt_mono {n : Nat} {f g : Nat → Bool} (h : ∀ i, f i = true → g i = true) : cntB ((List.range n).map f) ≤ cntB ((List.range n).map g) := by
  unfold cntB
  rw [List.filter_map, List.filter_map, List.length_map, List.length_map, ← List.countP_eq_length_filter, ← List.countP_eq_length_filter]
  exact List.countP_mono_left fun i _ hi => h i hi
theorem commitF_ok {on met : List Bool} {f b most : Nat} (h : (commitF on met f b most).2.2 = true) : (commitF on met f b most).1.length = on.length ∧ cntB (commitF on met f b most).1 ≤ most := by
  rw [commitF_eq] at h ⊢
  split at h
  · simp at h
  · rename_i h1
    rw [if_neg h1]
    refine ⟨?_, ?_⟩
    · simp only; split <;> simp
    · simp only
      split
      · have := cnt_mono (n := on.length) (f := fun i => needF on f b i && needF met f b i) (g := needF met f b) fun i hi => by rw [Bool.and_eq_true] at hi; exact hi.2
        omega
      · omega
theorem fillF_b {mem : List Nat} (h : IsB mem) (a b c : Nat) : IsB (fillF mem a b c) := fun x hx => by
  obtain ⟨i, hi, rfl⟩ := List.mem_map.1 hx
  split
  · exact Nat.mod_lt _ (by omega)
  · have hi : i < mem.length := by simpa using hi
    rw [List.getD_eq_getElem?_getD, List.getElem?_eq_getElem hi]
    exact h _ (List.getElem_mem hi)
theorem fills_b (sd pg : Nat) : ∀ (fs : List Nat) (mem : List Nat), IsB mem → IsB (fs.foldl (fun mem p => fillF mem sd p pg) mem)
  | [], _, h => h
  | f :: fs, mem, h => fills_b sd pg fs _ (fillF_b h _ _ _)
/-- A block has been put. -/
structure Put (m : Mo) (l : List Bk) (n : Nat) (q : Int) (m' : Mo) (y : Int) : Prop where
  ok : MoOk m'
  c : m'.c = m.c
  y0 : 0 ≤ y
  yH : y + n ≤ m.c.H
  f : freeAt l n y = true
  bs : m'.bs = putB l ⟨y, n, q⟩
  li : m'.live = totalB l + n
  ml : m'.mem.length = m.mem.length
  low : ∃ j : Nat, y = ((j * n : Nat) : Int) ∧ ∀ i, i < j → freeAt l n ((i * n : Nat) : Int) = false
theorem placeF_ok {m : Mo} (hm : MoOk m) {l : List Bk} (ha : ApB m.c.H l) (hz : ∀ x ∈ l, SzB m.c x) {n : Nat} {q : Int} (hn : ∃ k, k ≤ m.c.L ∧ n = m.c.G * 2 ^ k) (hq : 0 ≤ q ∧ q ≤ n) (ht : totalB l + n ≤ m.c.M) (hk : ∀ x ∈ l, x.a + x.c ≤ m.mark) (h : (placeF m l n q).2.2 = 0) : Put m l n q (placeF m l n q).1 (placeF m l n q).2.1 := by
  obtain ⟨k, hkL, hkn⟩ := hn
  have hn1 : 1 ≤ n := by rw [hkn]; exact Nat.mul_pos hm.c.gpos (Nat.two_pow_pos _)
  have hsp := lowF_spec (c := m.c) (l := l) hn1
  have hco := commitF_ok (on := m.on) (met := metF m.c.Pg m.c.H l) (f := (lowF m.c l n).1 / m.c.Pg) (b := ((lowF m.c l n).1 + n - 1) / m.c.Pg + 1) (most := m.c.P)
  unfold placeF at h ⊢
  simp only at h ⊢
  split at h
  · simp at h
  · rename_i h1
    rw [if_neg h1]
    split at h
    · simp at h
    · rename_i h2
      rw [if_neg h2]
      have h1' : (lowF m.c l n).2 = true := by simpa using h1
      have h2' := hco (by simpa using h2)
      obtain ⟨j, e1, e2, e3, e4⟩ := hsp h1'
      rw [← e1] at e2
      generalize (lowF m.c l n).1 = y at *
      have hput := putB_ok ha (b := ⟨y, n, q⟩) e3 (by simp; omega)
      obtain ⟨p1, p2, p3, p4⟩ := hput
      have p3 : totalB (putB l ⟨y, n, q⟩) = totalB l + n := p3
      have htb := totalB_nonneg ha
      have hMH : m.c.M ≤ m.c.H := by have := hm.c.h; omega
      refine ⟨?_, rfl, by simp, by simp; omega, e3, rfl, p3, fills_len _ _ _ _, ⟨j, by rw [← e1], e4⟩⟩
      refine ⟨hm.c, p1, fun x hx => ?_, rfl, by rw [p3]; exact ht, ⟨by simp only; omega, ?_⟩, ⟨fun x hx => ?_, ?_, ?_⟩, by rw [h2'.1]; exact hm.o, h2'.2, by rw [fills_len]; exact hm.mm, fills_b _ _ _ _ hm.b⟩
      · rcases (p2 x).1 hx with rfl | hx
        · refine ⟨k, hkL, by rw [← hkn], ?_, hq⟩
          show ((y : Nat) : Int) % ((n : Nat) : Int) = 0
          rw [e1, Int.natCast_mul]
          exact Int.mul_emod_left _ _
        · exact hz x hx
      · have := hm.p
        simp only
        rw [p3]; omega
      · rcases (p2 x).1 hx with rfl | hx
        · simp only; omega
        · have := hk x hx
          simp only; omega
      · have := hm.k; simp only; omega
      · have := hm.k; simp only; omega

theorem newF_ok {c : Cf} (hc : c.Ok) {live s a : Int} (h : (newF c live s a).2 = 0) : (∃ k, k ≤ c.L ∧ (newF c live s a).1 = c.G * 2 ^ k) ∧ 0 ≤ s ∧ s ≤ (newF c live s a).1 ∧ live + (newF c live s a).1 ≤ c.M := by
  have hb := (chargeF_bd hc s a).2
  unfold newF at h ⊢
  split at h
  · rename_i h1; exact absurd h h1
  · rename_i h1
    rw [if_neg h1]
    split at h
    · simp at h
    · rename_i h2
      rw [if_neg h2]
      obtain ⟨k, h3, h4, h5, h6⟩ := hb (by simpa using h1)
      exact ⟨⟨k, h3, h4⟩, h5, h6, by simp only; omega⟩
theorem prodF_ok {c : Cf} {n s : Int} (h : (prodF c n s).2 = 0) : 0 ≤ n ∧ 0 ≤ s ∧ n * s ≤ c.N ∧ ((prodF c n s).1 : Int) = n * s := by
  unfold prodF at h ⊢
  split at h
  · simp at h
  · rename_i h1
    rw [if_neg h1]
    split at h
    · rename_i h2
      rw [if_pos h2]
      have := Int.mul_nonneg (show 0 ≤ n by omega) (show 0 ≤ s by omega)
      exact ⟨by omega, by omega, h2, by simp only; omega⟩
    · simp at h
theorem manyF_ok {c : Cf} (hc : c.Ok) {live n s : Int} (h : (manyF c live n s).2 = 0) : (∃ k, k ≤ c.L ∧ (manyF c live n s).1 = c.G * 2 ^ k) ∧ 0 ≤ n * s ∧ n * s ≤ (manyF c live n s).1 ∧ live + (manyF c live n s).1 ≤ c.M ∧ n * s ≤ c.N := by
  unfold manyF at h ⊢
  split at h
  · rename_i h1; exact absurd h h1
  · rename_i h1
    rw [if_neg h1]
    obtain ⟨a1, a2, a3, a4⟩ := prodF_ok (by simpa using h1)
    have b := newF_ok hc h
    rw [a4] at b ⊢
    exact ⟨b.1, b.2.1, b.2.2.1, b.2.2.2, a3⟩

def zeroF (mem : List Nat) (a n : Nat) : List Nat := (List.range mem.length).map fun j => if a ≤ j ∧ j < a + n then 0 else mem.getD j 0
theorem zeroF_len (mem : List Nat) (a n : Nat) : (zeroF mem a n).length = mem.length := by simp [zeroF]
theorem zeroF_b {mem : List Nat} (h : IsB mem) (a n : Nat) : IsB (zeroF mem a n) := fun x hx => by
  obtain ⟨i, hi, rfl⟩ := List.mem_map.1 hx
  split
  · omega
  · have hi : i < mem.length := by simpa using hi
    rw [List.getD_eq_getElem?_getD, List.getElem?_eq_getElem hi]
    exact h _ (List.getElem_mem hi)
/-- An operation's words. -/
structure OpOk (o : X.O) : Prop where
  k : -9223372036854775808 ≤ o.k ∧ o.k ≤ 9223372036854775807
  p : -9223372036854775808 ≤ o.p ∧ o.p ≤ 9223372036854775807
  s : -9223372036854775808 ≤ o.s ∧ o.s ≤ 9223372036854775807
  a : -9223372036854775808 ≤ o.a ∧ o.a ≤ 9223372036854775807
  n : -9223372036854775808 ≤ o.n ∧ o.n ≤ 9223372036854775807
  b : 0 ≤ o.b ∧ o.b < 256
def giveF (m : Mo) (o : X.O) : Mo × An :=
  let ce := if o.k = 2 then manyF m.c m.live o.n o.s else newF m.c m.live o.s (if o.k = 3 then o.a else 1)
  if ce.2 ≠ 0 then (m, anE ce.2)
  else
    let p := placeF m m.bs ce.1 (if o.k = 2 then o.n * o.s else o.s)
    if p.2.2 ≠ 0 then (m, anE p.2.2)
    else (if o.k = 2 then { p.1 with mem := zeroF p.1.mem p.2.1.toNat ce.1 } else p.1, { an0 with at' := p.2.1 })
def dropB (l : List Bk) (i : Nat) : List Bk := l.take i ++ l.drop (i + 1)
def bk0 : Bk := ⟨0, 0, 0⟩
def ofB (m : Mo) (o : X.O) (i : Nat) : Mo × An :=
  let b := m.bs.getD i bk0
  if o.k = 4 then
    let ce := newF m.c (m.live - b.c) o.s 1
    if ce.2 ≠ 0 then (m, anE ce.2)
    else
      let p := placeF m (dropB m.bs i) ce.1 o.s
      if p.2.2 ≠ 0 then (m, anE p.2.2)
      else
        let n := min (ce.1 : Int) b.c
        ({ p.1 with mem := p.1.mem.take p.2.1.toNat ++ (m.mem.take (b.a + n).toNat).drop b.a.toNat ++ p.1.mem.drop (p.2.1 + n).toNat }, { an0 with at' := p.2.1 })
  else if o.k = 5 then ({ m with bs := dropB m.bs i, live := m.live - b.c }, an0)
  else if o.k = 6 then (m, { an0 with n := b.c })
  else if o.n < 0 ∨ o.n ≥ b.c then (m, anE 9)
  else if o.k = 7 then (m, { an0 with b := m.mem.getD (b.a + o.n).toNat 0 })
  else ({ m with mem := m.mem.set (b.a + o.n).toNat o.b.toNat }, an0)
def doF (m : Mo) (o : X.O) : Mo × An :=
  if o.k = 1 ∨ o.k = 3 ∨ o.k = 2 then giveF m o
  else if o.k = 9 then ({ m with on := (trimF m.on (metF m.c.Pg m.c.H m.bs)).1 }, { an0 with n := (trimF m.on (metF m.c.Pg m.c.H m.bs)).2 })
  else if o.k = 10 then (m, { an0 with live := m.live, peak := m.peak, mark := m.mark, pg := cntB m.on })
  else if o.k = 4 ∨ o.k = 5 ∨ o.k = 6 ∨ o.k = 7 ∨ o.k = 8 then
    match findB m.bs o.p with
    | none => (m, anE 8)
    | some i => ofB m o i
  else (m, anE 2)
def allF : Mo → List X.O → Mo × List An
  | m, [] => (m, [])
  | m, o :: os => ((allF (doF m o).1 os).1, (doF m o).2 :: (allF (doF m o).1 os).2)
end Go.Ev.W
namespace Go.Ev.W
open Go.Ev Go.Ev.N

theorem wrong17_told (m : Mo) (e : Nat) : Told P T ref17_wrong [] [eM m, i64 e] (.tup [eM m, eA (anE e)]) [] := by
  refine told_of_ev (fn := ref17_wrong_fn) tabOk mixed (by kernel_rfl) (by kernel_rfl) (by kernel_rfl) (by kernel_rfl) ?_
  (refine gw ?_; exact RetN.mk ⟨[], rfl, rfl, rfl⟩)

def zAt (mem : List Nat) (a n j : Nat) : Nat := if a ≤ j ∧ j < a + n then 0 else mem.getD j 0
set_option maxHeartbeats 4000000 in
theorem zero8_told {mem : List Nat} (hl : mem.length ≤ 65536) {a n : Nat} (h : a + n ≤ mem.length) : Told P T ref8_Zero [] [lU mem, i64 a, i64 n] (.tup [lU (zeroF mem a n), .bool true]) [] := by
  obtain ⟨D, hD⟩ : ∃ D, mem.length = D := ⟨_, rfl⟩
  have hmu : (mem.map u8).length = D := by simp [hD]
  have hml : (mem.map u8).length = mem.length := by simp
  refine told_of_ev (fn := ref8_Zero_fn) tabOk mixed (by kernel_rfl) (by kernel_rfl) (by kernel_rfl) (by kernel_rfl) ?_
  (refine gw ?_; refine Choice.mk ⟨false, Choice.mk ⟨true, _, _, there8_told hl h, ?_⟩⟩)
  (refine gw ?_; refine Room.mk (by first | omega | (simp; omega) | (simp <;> fail)) ?_)
  (refine gw ?_; refine LoopN.mk ⟨[1,2,8,9], fun vs L => ∃ k : Nat, vs = [i64 a, i64 n, .ref 0, i64 k] ∧ L = [.row t_uint8 (tabF D fun j => u8 (zAt mem a k j))] ∧ k ≤ n, fun vs L => match vs with | [_, _, _, .int _ i] => n - i.toNat | _ => 0, [], [2], rfl, ⟨0, rfl, ?_, by omega⟩, ?_⟩)
  · show [Blk.row t_uint8 (mem.map u8)] = _
    rw [lU_tab, hD]
    exact congrArg (fun z => [Blk.row t_uint8 z]) (tabF_congr fun k _ => by unfold zAt; rw [if_neg (by omega)])
  rintro vs L ⟨k, rfl, rfl, hk⟩
  have hb := tabF_len D (fun j => u8 (zAt mem a k j))
  (refine gw ?_; first | refine IfB.dec (fun g1 => ?_) (fun g1 => ?_) | refine IfB.eq (fun g1 => ?_) (fun g1 => ?_) | refine IfB.ne (fun g1 => ?_) (fun g1 => ?_) | refine IfB.mk (fun g1 => ?_) (fun g1 => ?_))
  · have hset : (tabF D fun j => u8 (zAt mem a k j)).set ((a : Nat) + (k : Nat) : Int).toNat (u8 0) = tabF D fun j => u8 (zAt mem a (k + 1) j) := by
      rw [show ((a : Nat) + (k : Nat) : Int).toNat = a + k by omega]
      refine tabF_set (by omega) fun j hj => ?_
      unfold zAt
      by_cases e : j = a + k
      · rw [if_pos e, if_pos (by omega)]
      · rw [if_neg e]
        by_cases e2 : a ≤ j ∧ j < a + k
        · rw [if_pos e2, if_pos (by omega)]
        · rw [if_neg e2, if_neg (by omega)]
    (refine gw ?_; refine ⟨[], [0], rfl, ⟨k + 1, rfl, by rw [← hset]; rfl, by omega⟩, (by omega : n - ((k : Int) + 1).toNat < n - (k : Int).toNat)⟩)
  · have e : k = n := by omega
    subst e
    have f1 : (tabF D fun j => u8 (zAt mem a k j)) = (zeroF mem a k).map u8 := by
      unfold zeroF; rw [hD, ← tabF_of]; rfl
    rw [f1]
    (refine gw ?_; exact RetN.fz ⟨[true, true], [], rfl, rfl, rfl⟩)

set_option maxRecDepth 20000 in
set_option maxHeartbeats 8000000 in
theorem give17_told {m : Mo} (hm : MoOk m) {o : X.O} (ho : OpOk o) : Told P T ref17_give [] [eM m, X.encO o] (.tup [eM (giveF m o).1, eA (giveF m o).2]) [] := by
  have hH := hm.c.h2
  have hNM := hm.c.nM
  have hMH : m.c.M ≤ m.c.H := by have := hm.c.h; omega
  have htb := totalB_nonneg hm.a
  have hlive : 0 ≤ m.live ∧ m.live ≤ 65536 := by have := hm.l; have := hm.lM; omega
  have hnr := ho.n
  have hsr := ho.s
  have har := ho.a
  have hpl : ∀ ch, (∃ k, k ≤ m.c.L ∧ ch = m.c.G * 2 ^ k) → 1 ≤ ch ∧ ch ≤ m.c.N := fun ch ⟨k, h1, h2⟩ => by
    rw [h2, hm.c.n]
    exact ⟨Nat.mul_pos hm.c.gpos (Nat.two_pow_pos _), Nat.mul_le_mul_left _ (Nat.pow_le_pow_right (by omega) h1)⟩
  unfold giveF
  simp only []
  refine told_of_ev (fn := ref17_give_fn) tabOk mixed (by kernel_rfl) (by kernel_rfl) (by kernel_rfl) (by kernel_rfl) ?_
  by_cases hk : o.k = 2
  · simp only [if_pos hk]
    (refine gw ?_; refine IfB.ff (by simp [hk]) ?_)
    have c0 := refNew_told hm.c m.live o.s 1 (by omega) (by omega)
    (refine gw ?_; refine Choice.mk ⟨false, Choice.mk ⟨true, _, _, c0, ?_⟩⟩)
    (refine gw ?_; refine IfB.tt (by simp [hk]) ?_)
    have c1 := refMany_told hm.c m.live o.n o.s (by omega) (by omega) (by omega)
    have n1 := manyF_ok hm.c (live := m.live) (n := o.n) (s := o.s)
    obtain ⟨C, hC⟩ : ∃ C, manyF m.c m.live o.n o.s = C := ⟨_, rfl⟩
    rw [hC] at c1 n1 ⊢
    obtain ⟨ch, e⟩ := C
    (refine gw ?_; refine Choice.mk ⟨false, Choice.mk ⟨true, _, _, c1, ?_⟩⟩)
    by_cases he0 : e = 0
    · have hq := n1 he0
      have hq1 := hq.2.1
      have hq4 := hq.2.2.2.2
      have hNb : m.c.N ≤ 65536 := by omega
      subst he0
      obtain ⟨hch, hq1, hq2, hq3, hq4⟩ := n1 rfl
      obtain ⟨hc1, hc2⟩ := hpl ch hch
      have c2 := place17_told hm hm.a hc1 hc2 (q := (o.n * o.s))
      have n2 := placeF_ok hm hm.a hm.z hch ⟨hq1, hq2⟩ (by rw [← hm.l]; exact hq3) hm.k.1
      obtain ⟨C2, hC2⟩ : ∃ C2, placeF m m.bs ch (o.n * o.s) = C2 := ⟨_, rfl⟩
      rw [hC2] at c2 n2
      simp only [ne_eq, not_true_eq_false, if_false]
      rw [hC2]
      obtain ⟨m2, y2, e2⟩ := C2
      (refine gw ?_; refine Choice.mk ⟨false, Choice.mk ⟨false, _, _, c2, ?_⟩⟩)
      by_cases he2 : e2 = 0
      · subst he2
        have n3 : Put m m.bs ch ((o.n * o.s)) m2 y2 := n2 rfl
        simp only [ne_eq, not_true_eq_false, if_false]
        (refine gw ?_; refine IfB.tt (by simp [hk]) ?_)
        have hy := n3.y0
        have hy2 := n3.yH
        have hml := n3.ml
        have hmm := hm.mm
        have c4 := zero8_told (mem := m2.mem) (by omega) (a := y2.toNat) (n := ch) (by omega)
        rw [Int.toNat_of_nonneg hy] at c4
        (refine gw ?_; refine Choice.mk ⟨false, Choice.mk ⟨false, _, _, c4, ?_⟩⟩)
        (refine gw ?_; exact RetN.mk ⟨[], rfl, rfl, rfl⟩)
      · have he2' : ¬ ((e2 : Nat) : Int) = 0 := by omega
        simp only [ne_eq, he2, not_false_eq_true, if_true]
        (refine gw ?_; refine IfB.tt (by simpa using he2) ?_)
        (refine gw ?_; refine Choice.mk ⟨false, Choice.mk ⟨false, _, _, wrong17_told m e2, ?_⟩⟩)
        (refine gw ?_; exact RetN.mk ⟨[], rfl, rfl, rfl⟩)
    · (refine gw ?_)
      refine ⟨?_⟩
      simp only [ne_eq, he0, not_false_eq_true, if_true]
      (refine gw ?_; refine IfB.tt (by simpa using he0) ?_)
      (refine gw ?_; refine Choice.mk ⟨false, Choice.mk ⟨false, _, _, wrong17_told m e, ?_⟩⟩)
      (refine gw ?_; exact RetN.mk ⟨[], rfl, rfl, rfl⟩)
  · simp only [if_neg hk]
    by_cases hk3 : o.k = 3
    · simp only [if_pos hk3]
      (refine gw ?_; refine IfB.tt (by simp [hk3]) ?_)
      have c1 := refNew_told hm.c m.live o.s o.a (by omega) (by omega)
      have n1 := newF_ok hm.c (live := m.live) (s := o.s) (a := o.a)
      obtain ⟨C, hC⟩ : ∃ C, newF m.c m.live o.s o.a = C := ⟨_, rfl⟩
      rw [hC] at c1 n1 ⊢
      obtain ⟨ch, e⟩ := C
      (refine gw ?_; refine Choice.mk ⟨false, Choice.mk ⟨true, _, _, c1, ?_⟩⟩)
      (refine gw ?_; refine IfB.ff (by simp [hk]) ?_)
      by_cases he : e = 0
      · subst he
        obtain ⟨hch, hq1, hq2, hq3⟩ := n1 rfl
        obtain ⟨hc1, hc2⟩ := hpl ch hch
        have c2 := place17_told hm hm.a hc1 hc2 (q := o.s)
        have n2 := placeF_ok hm hm.a hm.z hch ⟨hq1, hq2⟩ (by rw [← hm.l]; exact hq3) hm.k.1
        obtain ⟨C2, hC2⟩ : ∃ C2, placeF m m.bs ch o.s = C2 := ⟨_, rfl⟩
        rw [hC2] at c2 n2
        simp only [ne_eq, not_true_eq_false, if_false]
        rw [hC2]
        obtain ⟨m2, y2, e2⟩ := C2
        (refine gw ?_; refine Choice.mk ⟨false, Choice.mk ⟨false, _, _, c2, ?_⟩⟩)
        by_cases he2 : e2 = 0
        · subst he2
          have n3 : Put m m.bs ch (o.s) m2 y2 := n2 rfl
          simp only [ne_eq, not_true_eq_false, if_false]
          (refine gw ?_; refine IfB.ff (by simp [hk]) ?_)
          (refine gw ?_; exact RetN.mk ⟨[], rfl, rfl, rfl⟩)
        · have he2' : ¬ ((e2 : Nat) : Int) = 0 := by omega
          simp only [ne_eq, he2, not_false_eq_true, if_true]
          (refine gw ?_; refine IfB.tt (by simpa using he2) ?_)
          (refine gw ?_; refine Choice.mk ⟨false, Choice.mk ⟨false, _, _, wrong17_told m e2, ?_⟩⟩)
          (refine gw ?_; exact RetN.mk ⟨[], rfl, rfl, rfl⟩)
      · simp only [ne_eq, he, not_false_eq_true, if_true]
        (refine gw ?_; refine IfB.tt (by simpa using he) ?_)
        (refine gw ?_; refine Choice.mk ⟨false, Choice.mk ⟨false, _, _, wrong17_told m e, ?_⟩⟩)
        (refine gw ?_; exact RetN.mk ⟨[], rfl, rfl, rfl⟩)
    · simp only [if_neg hk3]
      (refine gw ?_; refine IfB.ff (by simp [hk3]) ?_)
      have c1 := refNew_told hm.c m.live o.s 1 (by omega) (by omega)
      have n1 := newF_ok hm.c (live := m.live) (s := o.s) (a := 1)
      obtain ⟨C, hC⟩ : ∃ C, newF m.c m.live o.s 1 = C := ⟨_, rfl⟩
      rw [hC] at c1 n1 ⊢
      obtain ⟨ch, e⟩ := C
      (refine gw ?_; refine Choice.mk ⟨false, Choice.mk ⟨true, _, _, c1, ?_⟩⟩)
      (refine gw ?_; refine IfB.ff (by simp [hk]) ?_)
      by_cases he : e = 0
      · subst he
        obtain ⟨hch, hq1, hq2, hq3⟩ := n1 rfl
        obtain ⟨hc1, hc2⟩ := hpl ch hch
        have c2 := place17_told hm hm.a hc1 hc2 (q := o.s)
        have n2 := placeF_ok hm hm.a hm.z hch ⟨hq1, hq2⟩ (by rw [← hm.l]; exact hq3) hm.k.1
        obtain ⟨C2, hC2⟩ : ∃ C2, placeF m m.bs ch o.s = C2 := ⟨_, rfl⟩
        rw [hC2] at c2 n2
        simp only [ne_eq, not_true_eq_false, if_false]
        rw [hC2]
        obtain ⟨m2, y2, e2⟩ := C2
        (refine gw ?_; refine Choice.mk ⟨false, Choice.mk ⟨false, _, _, c2, ?_⟩⟩)
        by_cases he2 : e2 = 0
        · subst he2
          have n3 : Put m m.bs ch (o.s) m2 y2 := n2 rfl
          simp only [ne_eq, not_true_eq_false, if_false]
          (refine gw ?_; refine IfB.ff (by simp [hk]) ?_)
          (refine gw ?_; exact RetN.mk ⟨[], rfl, rfl, rfl⟩)
        · have he2' : ¬ ((e2 : Nat) : Int) = 0 := by omega
          simp only [ne_eq, he2, not_false_eq_true, if_true]
          (refine gw ?_; refine IfB.tt (by simpa using he2) ?_)
          (refine gw ?_; refine Choice.mk ⟨false, Choice.mk ⟨false, _, _, wrong17_told m e2, ?_⟩⟩)
          (refine gw ?_; exact RetN.mk ⟨[], rfl, rfl, rfl⟩)
      · simp only [ne_eq, he, not_false_eq_true, if_true]
        (refine gw ?_; refine IfB.tt (by simpa using he) ?_)
        (refine gw ?_; refine Choice.mk ⟨false, Choice.mk ⟨false, _, _, wrong17_told m e, ?_⟩⟩)
        (refine gw ?_; exact RetN.mk ⟨[], rfl, rfl, rfl⟩)
end Go.Ev.W
namespace Go.Ev.W
open Go.Ev Go.Ev.N

theorem dropB_sub (l : List Bk) (i : Nat) : (dropB l i).Sublist l := by
  unfold dropB
  have h := List.take_append_drop i l
  conv => rhs; rw [← h]
  refine List.Sublist.append (List.Sublist.refl _) ?_
  rw [show i + 1 = i + 1 by rfl, ← List.drop_drop]
  exact List.drop_sublist _ _
theorem dropB_tot {l : List Bk} {i : Nat} (h : i < l.length) : totalB (dropB l i) = totalB l - l[i].c := by
  have e : l = l.take i ++ (l[i] :: l.drop (i + 1)) := by rw [← List.drop_eq_getElem_cons h, List.take_append_drop]
  have e2 : totalB l = totalB (l.take i ++ (l[i] :: l.drop (i + 1))) := by rw [← e]
  rw [e2]
  unfold dropB totalB
  simp only [List.map_append, List.sum_append, List.map_cons, List.sum_cons]
  omega
set_option maxRecDepth 20000 in
set_option maxHeartbeats 8000000 in
theorem of17_told {m : Mo} (hm : MoOk m) {o : X.O} (ho : OpOk o) {i : Nat} (hi : i < m.bs.length) (hk : o.k = 4 ∨ o.k = 5 ∨ o.k = 6 ∨ o.k = 7 ∨ o.k = 8) : Told P T ref17_of [] [eM m, X.encO o, i64 i] (.tup [eM (ofB m o i).1, eA (ofB m o i).2]) [] := by
  have hH := hm.c.h2
  have hNM := hm.c.nM
  have hMH : m.c.M ≤ m.c.H := by have := hm.c.h; omega
  have htb := totalB_nonneg hm.a
  have hlen := hm.a.len
  have hlive : 0 ≤ m.live ∧ m.live ≤ 65536 := by have := hm.l; have := hm.lM; omega
  have hml : (m.bs.map eB).length = m.bs.length := by simp
  have hmu : (m.mem.map u8).length = m.c.H := by rw [List.length_map]; exact hm.mm
  have hmm := hm.mm
  have hnr := ho.n
  have hsr := ho.s
  have hb := hm.a.b _ (List.getElem_mem hi)
  have hpl : ∀ ch, (∃ k, k ≤ m.c.L ∧ ch = m.c.G * 2 ^ k) → 1 ≤ ch ∧ ch ≤ m.c.N := fun ch ⟨k, h1, h2⟩ => by
    rw [h2, hm.c.n]
    exact ⟨Nat.mul_pos hm.c.gpos (Nat.two_pow_pos _), Nat.mul_le_mul_left _ (Nat.pow_le_pow_right (by omega) h1)⟩
  have hdt := dropB_tot hi
  have hds := dropB_sub m.bs i
  have hg : m.bs.getD i bk0 = m.bs[i] := by simp [List.getD_eq_getElem?_getD, hi]
  unfold ofB
  simp only []
  rw [hg]
  have hdm : (dropB m.bs i).map eB = (m.bs.map eB).take i ++ (m.bs.map eB).drop (i + 1) := by unfold dropB; rw [List.map_append, List.map_take, List.map_drop]
  refine told_of_ev (fn := ref17_of_fn) tabOk mixed (by kernel_rfl) (by kernel_rfl) (by kernel_rfl) (by kernel_rfl) ?_
  (refine gw ?_; refine idx_map (hi) ?_)
  (refine gw ?_; refine Cut.mk (by first | omega | (simp; omega) | (simp <;> fail)) (by first | omega | (simp; omega) | (simp <;> fail)) (by first | omega | (simp; omega) | (simp <;> fail)) ?_)
  (refine gw ?_; refine Room.mk (by first | omega | (simp; omega) | (simp <;> fail)) ?_)
  (refine gw ?_; refine Cut.mk (by first | omega | (simp; omega) | (simp <;> fail)) (by first | omega | (simp; omega) | (simp <;> fail)) (by first | omega | (simp; omega) | (simp <;> fail)) ?_)
  (refine gw ?_; refine Room.mk (by first | omega | (simp; omega) | (simp <;> fail)) ?_)
  have hbad : ¬ (o.n < 0 ∨ o.n ≥ m.bs[i].c) → ∃ j : Nat, m.bs[i].a + o.n = ((j : Nat) : Int) ∧ j < m.mem.length := fun h => ⟨(m.bs[i].a + o.n).toNat, by omega, by rw [hm.mm]; omega⟩
  rcases hk with hk | hk | hk | hk | hk
  · rw [if_pos hk]
    (refine gw ?_; refine IfB.tt (by simp [hk]) ?_)
    have hl1 : -1000000 ≤ m.live ∧ m.live ≤ 1000000 := by omega
    have hl2 : -1000000 ≤ m.bs[i].c ∧ m.bs[i].c ≤ 1000000 := by omega
    have c1 := refAnew_told hm.c m.live m.bs[i].c o.s hl1 hl2
    have n1 := newF_ok hm.c (live := m.live - m.bs[i].c) (s := o.s) (a := 1)
    obtain ⟨C, hC⟩ : ∃ C, newF m.c (m.live - m.bs[i].c) o.s 1 = C := ⟨_, rfl⟩
    rw [hC] at c1 n1 ⊢
    obtain ⟨ch, e⟩ := C
    (refine gw ?_; refine Choice.mk ⟨false, Choice.mk ⟨true, _, _, c1, ?_⟩⟩)
    by_cases he : e = 0
    · subst he
      obtain ⟨hch, hq1, hq2, hq3⟩ := n1 rfl
      obtain ⟨hc1, hc2⟩ := hpl ch hch
      have had := hm.a.sub hds
      have c2 := place17_told hm had hc1 hc2 (q := o.s)
      rw [show lK (dropB m.bs i) = .lst t_api_Block ((m.bs.map eB).take i ++ (m.bs.map eB).drop (i + 1)) by unfold lK; rw [hdm]] at c2
      have n2 := placeF_ok hm had (fun x hx => hm.z x (hds.subset hx)) hch ⟨hq1, hq2⟩ (by rw [hdt, ← hm.l]; exact hq3) (fun x hx => hm.k.1 x (hds.subset hx))
      obtain ⟨C2, hC2⟩ : ∃ C2, placeF m (dropB m.bs i) ch o.s = C2 := ⟨_, rfl⟩
      rw [hC2] at c2 n2
      simp only [ne_eq, not_true_eq_false, if_false]
      rw [hC2]
      obtain ⟨m2, y2, e2⟩ := C2
      (refine gw ?_; refine Choice.mk ⟨false, Choice.mk ⟨false, _, _, c2, ?_⟩⟩)
      by_cases he2 : e2 = 0
      · subst he2
        have n3 : Put m (dropB m.bs i) ch o.s m2 y2 := n2 rfl
        simp only [ne_eq, not_true_eq_false, if_false]
        have hy := n3.y0
        have hy2 := n3.yH
        have hml2 := n3.ml
        have hu2 : (m2.mem.map u8).length = m.c.H := by rw [List.length_map]; omega
        have emin : ∀ a b : Int, min a b = if b < a then b else a := fun a b => by split <;> omega
        obtain ⟨y, rfl⟩ : ∃ y : Nat, y2 = ((y : Nat) : Int) := ⟨y2.toNat, by omega⟩
        rw [emin]
        obtain ⟨N, hN, hN1, hN2⟩ : ∃ N : Nat, (if m.bs[i].c < (ch : Int) then m.bs[i].c else (ch : Int)) = ((N : Nat) : Int) ∧ N ≤ ch ∧ ((N : Nat) : Int) ≤ m.bs[i].c := ⟨(if m.bs[i].c < (ch : Int) then m.bs[i].c else (ch : Int)).toNat, by split <;> omega, by split <;> omega, by split <;> omega⟩
        rw [hN]
        (refine gw ?_; refine Cut.mk (by first | omega | (simp; omega) | (simp <;> fail)) (by first | omega | (simp; omega) | (simp <;> fail)) (by first | omega | (simp; omega) | (simp <;> fail)) ?_)
        (refine gw ?_; refine Room.mk (by first | omega | (simp; omega) | (simp <;> fail)) ?_)
        (refine gw ?_)
        rw [hN]
        (refine gw ?_; refine Cut.mk (by first | omega | (simp; omega) | (simp <;> fail)) (by first | omega | (simp; omega) | (simp <;> fail)) (by first | omega | (simp; omega) | (simp <;> fail)) ?_)
        (refine gw ?_; refine Room.mk (by first | omega | (simp; omega) | (simp <;> fail)) ?_)
        (refine gw ?_; refine Cut.mk (by first | omega | (simp; omega) | (simp <;> fail)) (by first | omega | (simp; omega) | (simp <;> fail)) (by first | omega | (simp; omega) | (simp <;> fail)) ?_)
        (refine gw ?_; refine Room.mk (by first | omega | (simp; omega) | (simp <;> fail)) ?_)
        have hse : lU (m2.mem.take ((y : Nat) : Int).toNat ++ (m.mem.take (m.bs[i].a + ((N : Nat) : Int)).toNat).drop m.bs[i].a.toNat ++ m2.mem.drop (((y : Nat) : Int) + ((N : Nat) : Int)).toNat) = .lst t_uint8 ([] ++ (m2.mem.map u8).take ((y : Nat) : Int).toNat ++ ((m.mem.map u8).take (m.bs[i].a + ((N : Nat) : Int)).toNat).drop m.bs[i].a.toNat ++ (m2.mem.map u8).drop (((y : Nat) : Int) + ((N : Nat) : Int)).toNat) := by
          unfold lU
          simp only [List.map_append, List.map_take, List.map_drop, List.nil_append]
        have hE : eM { m2 with mem := m2.mem.take ((y : Nat) : Int).toNat ++ (m.mem.take (m.bs[i].a + ((N : Nat) : Int)).toNat).drop m.bs[i].a.toNat ++ m2.mem.drop (((y : Nat) : Int) + ((N : Nat) : Int)).toNat } = .agg [i64 m2.c.G, i64 m2.c.N, i64 m2.c.M, i64 m2.c.L, i64 m2.c.Pg, i64 m2.c.P, i64 m2.c.H, i64 m2.c.Sd, lK m2.bs, i64 m2.live, i64 m2.peak, i64 m2.mark, lT m2.on, .lst t_uint8 ([] ++ (m2.mem.map u8).take ((y : Nat) : Int).toNat ++ ((m.mem.map u8).take (m.bs[i].a + ((N : Nat) : Int)).toNat).drop m.bs[i].a.toNat ++ (m2.mem.map u8).drop (((y : Nat) : Int) + ((N : Nat) : Int)).toNat)] := by rw [← hse]; rfl
        (refine gw ?_; refine RetN.fz ⟨[true, true], [], rfl, ?_, rfl⟩)
        refine Eq.trans ?_ (congrArg (fun z => AV.tup [z, eA { an0 with at' := ((y : Nat) : Int) }]) hE.symm)
        rfl
      · have he2' : ¬ ((e2 : Nat) : Int) = 0 := by omega
        simp only [ne_eq, he2, not_false_eq_true, if_true]
        (refine gw ?_; refine IfB.tt (by simpa using he2) ?_)
        (refine gw ?_; refine Choice.mk ⟨false, Choice.mk ⟨false, _, _, wrong17_told m e2, ?_⟩⟩)
        (refine gw ?_; exact RetN.mk ⟨[], rfl, rfl, rfl⟩)
    · simp only [ne_eq, he, not_false_eq_true, if_true]
      (refine gw ?_; refine IfB.tt (by simpa using he) ?_)
      (refine gw ?_; refine Choice.mk ⟨false, Choice.mk ⟨false, _, _, wrong17_told m e, ?_⟩⟩)
      (refine gw ?_; exact RetN.mk ⟨[], rfl, rfl, rfl⟩)
  · rw [if_neg (by omega), if_pos hk]
    (refine gw ?_; refine IfB.ff (by simp [hk]) ?_)
    (refine gw ?_; refine IfB.tt (by simp [hk]) ?_)
    (refine gw ?_; refine RetN.fz ⟨[true, true], [], rfl, ?_, rfl⟩)
    unfold eM
    simp only []
    rw [show lK (dropB m.bs i) = .lst t_api_Block ((m.bs.map eB).take i ++ (m.bs.map eB).drop (i + 1)) by unfold lK; rw [hdm]]
    rfl
  · rw [if_neg (by omega), if_neg (by omega), if_pos hk]
    (refine gw ?_; refine IfB.ff (by simp [hk]) ?_)
    (refine gw ?_; refine IfB.ff (by simp [hk]) ?_)
    (refine gw ?_; refine IfB.tt (by simp [hk]) ?_)
    (refine gw ?_; exact RetN.mk ⟨[], rfl, rfl, rfl⟩)
  · rw [if_neg (by omega), if_neg (by omega), if_neg (by omega)]
    (refine gw ?_; refine IfB.ff (by simp [hk]) ?_)
    (refine gw ?_; refine IfB.ff (by simp [hk]) ?_)
    (refine gw ?_; refine IfB.ff (by simp [hk]) ?_)
    by_cases hr : o.n < 0 ∨ o.n ≥ m.bs[i].c
    · rw [if_pos hr]
      (refine gw ?_; first | refine IfB.dec (fun g1 => ?_) (fun g1 => ?_) | refine IfB.eq (fun g1 => ?_) (fun g1 => ?_) | refine IfB.ne (fun g1 => ?_) (fun g1 => ?_) | refine IfB.mk (fun g1 => ?_) (fun g1 => ?_))
      · (refine gw ?_; refine Choice.mk ⟨false, Choice.mk ⟨false, _, _, wrong17_told m 9, ?_⟩⟩)
        (refine gw ?_; exact RetN.mk ⟨[], rfl, rfl, rfl⟩)
      · (refine gw ?_; refine IfB.tt (by simp; omega) ?_)
        (refine gw ?_; refine Choice.mk ⟨false, Choice.mk ⟨false, _, _, wrong17_told m 9, ?_⟩⟩)
        (refine gw ?_; exact RetN.mk ⟨[], rfl, rfl, rfl⟩)
    · rw [if_neg hr, if_pos hk]
      (refine gw ?_; refine IfB.ff (by simp; omega) ?_)
      (refine gw ?_; refine IfB.ff (by simp; omega) ?_)
      (refine gw ?_; refine IfB.tt (by simp [hk]) ?_)
      obtain ⟨j, hj1, hj2⟩ := hbad hr
      have hgj : m.mem.getD ((j : Nat) : Int).toNat 0 = m.mem[j] := by simp [List.getD_eq_getElem?_getD, hj2]
      rw [hj1, hgj]
      (refine gw ?_)
      rw [hj1]
      (refine gw ?_; refine idx_map (hj2) ?_)
      (refine gw ?_; exact RetN.mk ⟨[], rfl, rfl, rfl⟩)
  · rw [if_neg (by omega), if_neg (by omega), if_neg (by omega)]
    (refine gw ?_; refine IfB.ff (by simp [hk]) ?_)
    (refine gw ?_; refine IfB.ff (by simp [hk]) ?_)
    (refine gw ?_; refine IfB.ff (by simp [hk]) ?_)
    by_cases hr : o.n < 0 ∨ o.n ≥ m.bs[i].c
    · rw [if_pos hr]
      (refine gw ?_; first | refine IfB.dec (fun g1 => ?_) (fun g1 => ?_) | refine IfB.eq (fun g1 => ?_) (fun g1 => ?_) | refine IfB.ne (fun g1 => ?_) (fun g1 => ?_) | refine IfB.mk (fun g1 => ?_) (fun g1 => ?_))
      · (refine gw ?_; refine Choice.mk ⟨false, Choice.mk ⟨false, _, _, wrong17_told m 9, ?_⟩⟩)
        (refine gw ?_; exact RetN.mk ⟨[], rfl, rfl, rfl⟩)
      · (refine gw ?_; refine IfB.tt (by simp; omega) ?_)
        (refine gw ?_; refine Choice.mk ⟨false, Choice.mk ⟨false, _, _, wrong17_told m 9, ?_⟩⟩)
        (refine gw ?_; exact RetN.mk ⟨[], rfl, rfl, rfl⟩)
    · rw [if_neg hr, if_neg (by omega)]
      (refine gw ?_; refine IfB.ff (by simp; omega) ?_)
      (refine gw ?_; refine IfB.ff (by simp; omega) ?_)
      (refine gw ?_; refine IfB.ff (by simp [hk]) ?_)
      obtain ⟨j, hj1, hj2⟩ := hbad hr
      have hmr : (m.mem.map u8).length ≤ 65536 := by omega
      (refine gw ?_; refine Room.mk (by first | omega | (simp; omega) | (simp <;> fail)) ?_)
      (refine gw ?_)
      rw [hj1]
      (refine gw ?_; refine InB.mk (by first | omega | (simp; omega) | (simp <;> fail)) (by first | omega | (simp; omega) | (simp <;> fail)) ?_)
      (refine gw ?_; refine RetN.fz ⟨[true, true], [], rfl, ?_, rfl⟩)
      have hbr := ho.b
      have hse : lU (m.mem.set ((j : Nat) : Int).toNat o.b.toNat) = .lst t_uint8 ((m.mem.map u8).set ((j : Nat) : Int).toNat (.int .u8 o.b)) := by
        unfold lU
        rw [List.map_set]
        have : u8 o.b.toNat = .int .u8 o.b := by unfold u8; rw [Int.toNat_of_nonneg hbr.1]
        rw [this]
      have hE : eM { m with mem := m.mem.set ((j : Nat) : Int).toNat o.b.toNat } = .agg [i64 m.c.G, i64 m.c.N, i64 m.c.M, i64 m.c.L, i64 m.c.Pg, i64 m.c.P, i64 m.c.H, i64 m.c.Sd, lK m.bs, i64 m.live, i64 m.peak, i64 m.mark, lT m.on, .lst t_uint8 ((m.mem.map u8).set ((j : Nat) : Int).toNat (.int .u8 o.b))] := by rw [← hse]; rfl
      refine Eq.trans ?_ (congrArg (fun z => AV.tup [z, eA an0]) hE.symm)
      rfl
end Go.Ev.W
namespace Go.Ev.W
open Go.Ev Go.Ev.N

theorem findB_lt {l : List Bk} {y : Int} {i : Nat} (h : findB l y = some i) : ∃ hi : i < l.length, l[i].a = y := by
  unfold findB at h
  rw [List.findIdx?_eq_some_iff_getElem] at h
  obtain ⟨h1, h2, _⟩ := h
  exact ⟨h1, of_decide_eq_true h2⟩
set_option maxRecDepth 20000 in
set_option maxHeartbeats 8000000 in
theorem do17_told {m : Mo} (hm : MoOk m) {o : X.O} (ho : OpOk o) : Told P T ref17_Do [] [eM m, X.encO o] (.tup [eM (doF m o).1, eA (doF m o).2]) [] := by
  have hH := hm.c.h2
  have hlen := hm.a.len
  have hpg := hm.c.pgpos
  have c1 := give17_told hm ho
  have hol : m.on.length ≤ 65536 := by have := hm.o; have := Nat.div_le_self m.c.H m.c.Pg; omega
  have hml : (metF m.c.Pg m.c.H m.bs).length = m.on.length := by rw [hm.o]; simp [metF]
  unfold doF
  refine told_of_ev (fn := ref17_Do_fn) tabOk mixed (by kernel_rfl) (by kernel_rfl) (by kernel_rfl) (by kernel_rfl) ?_
  by_cases h1 : o.k = 1
  · rw [if_pos (.inl h1)]
    (refine gw ?_; refine IfB.tt (by simp [h1]) ?_)
    (refine gw ?_; refine IfB.tt (by simp [h1]) ?_)
    (refine gw ?_; refine Choice.mk ⟨false, Choice.mk ⟨false, _, _, c1, ?_⟩⟩)
    (refine gw ?_; exact RetN.mk ⟨[], rfl, rfl, rfl⟩)
  (refine gw ?_; refine IfB.ff (by simp [h1]) ?_)
  by_cases h3 : o.k = 3
  · rw [if_pos (.inr (.inl h3))]
    (refine gw ?_; refine IfB.tt (by simp [h3]) ?_)
    (refine gw ?_; refine IfB.tt (by simp [h3]) ?_)
    (refine gw ?_; refine Choice.mk ⟨false, Choice.mk ⟨false, _, _, c1, ?_⟩⟩)
    (refine gw ?_; exact RetN.mk ⟨[], rfl, rfl, rfl⟩)
  (refine gw ?_; refine IfB.ff (by simp [h3]) ?_)
  by_cases h2 : o.k = 2
  · rw [if_pos (.inr (.inr h2))]
    (refine gw ?_; refine IfB.tt (by simp [h2]) ?_)
    (refine gw ?_; refine Choice.mk ⟨false, Choice.mk ⟨false, _, _, c1, ?_⟩⟩)
    (refine gw ?_; exact RetN.mk ⟨[], rfl, rfl, rfl⟩)
  (refine gw ?_; refine IfB.ff (by simp [h2]) ?_)
  rw [if_neg (by omega)]
  by_cases h9 : o.k = 9
  · rw [if_pos h9]
    (refine gw ?_; refine IfB.tt (by simp [h9]) ?_)
    (refine gw ?_; refine Choice.mk ⟨false, Choice.mk ⟨false, _, _, met8_told (pg := m.c.Pg) (size := m.c.H) hpg hH (l := m.bs) (by omega) hm.a.b, ?_⟩⟩)
    (refine gw ?_; refine Choice.mk ⟨false, Choice.mk ⟨false, _, _, trim8_told (on := m.on) hml hol, ?_⟩⟩)
    (refine gw ?_; exact RetN.mk ⟨[], rfl, rfl, rfl⟩)
  rw [if_neg h9]
  (refine gw ?_; refine IfB.ff (by simp [h9]) ?_)
  by_cases h10 : o.k = 10
  · rw [if_pos h10]
    (refine gw ?_; refine IfB.tt (by simp [h10]) ?_)
    (refine gw ?_; refine Choice.mk ⟨false, Choice.mk ⟨false, _, _, count8_told m.on (by omega), ?_⟩⟩)
    (refine gw ?_; exact RetN.mk ⟨[], rfl, rfl, rfl⟩)
  rw [if_neg h10]
  (refine gw ?_; refine IfB.ff (by simp [h10]) ?_)
  by_cases hk : o.k = 4 ∨ o.k = 5 ∨ o.k = 6 ∨ o.k = 7 ∨ o.k = 8
  · rw [if_pos hk]
    have c2 := find17_told m.bs (by omega) o.p
    have key : ∀ Q : Prop, (o.k = 4 → Q) → (o.k = 5 → Q) → (o.k = 6 → Q) → (o.k = 7 → Q) → (o.k = 8 → Q) → Q := fun Q a b c d e => by
      rcases hk with h | h | h | h | h
      · exact a h
      · exact b h
      · exact c h
      · exact d h
      · exact e h
    cases hf : findB m.bs o.p with
    | none =>
      rw [hf] at c2
      refine key _ ?_ ?_ ?_ ?_ ?_ <;> intro hx
      · (refine gw ?_; refine IfB.tt (by simp [hx]) ?_)
        (refine gw ?_; refine IfB.tt (by simp [hx]) ?_)
        (refine gw ?_; refine Choice.mk ⟨false, Choice.mk ⟨true, _, _, c2, ?_⟩⟩)
        (refine gw ?_; refine Choice.mk ⟨false, Choice.mk ⟨false, _, _, wrong17_told m 8, ?_⟩⟩)
        (refine gw ?_; exact RetN.mk ⟨[], rfl, rfl, rfl⟩)
      · (refine gw ?_; refine IfB.ff (by simp [hx]) ?_)
        (refine gw ?_; refine IfB.tt (by simp [hx]) ?_)
        (refine gw ?_; refine IfB.tt (by simp [hx]) ?_)
        (refine gw ?_; refine Choice.mk ⟨false, Choice.mk ⟨true, _, _, c2, ?_⟩⟩)
        (refine gw ?_; refine Choice.mk ⟨false, Choice.mk ⟨false, _, _, wrong17_told m 8, ?_⟩⟩)
        (refine gw ?_; exact RetN.mk ⟨[], rfl, rfl, rfl⟩)
      · (refine gw ?_; refine IfB.ff (by simp [hx]) ?_)
        (refine gw ?_; refine IfB.ff (by simp [hx]) ?_)
        (refine gw ?_; refine IfB.tt (by simp [hx]) ?_)
        (refine gw ?_; refine IfB.tt (by simp [hx]) ?_)
        (refine gw ?_; refine Choice.mk ⟨false, Choice.mk ⟨true, _, _, c2, ?_⟩⟩)
        (refine gw ?_; refine Choice.mk ⟨false, Choice.mk ⟨false, _, _, wrong17_told m 8, ?_⟩⟩)
        (refine gw ?_; exact RetN.mk ⟨[], rfl, rfl, rfl⟩)
      · (refine gw ?_; refine IfB.ff (by simp [hx]) ?_)
        (refine gw ?_; refine IfB.ff (by simp [hx]) ?_)
        (refine gw ?_; refine IfB.ff (by simp [hx]) ?_)
        (refine gw ?_; refine IfB.tt (by simp [hx]) ?_)
        (refine gw ?_; refine IfB.tt (by simp [hx]) ?_)
        (refine gw ?_; refine Choice.mk ⟨false, Choice.mk ⟨true, _, _, c2, ?_⟩⟩)
        (refine gw ?_; refine Choice.mk ⟨false, Choice.mk ⟨false, _, _, wrong17_told m 8, ?_⟩⟩)
        (refine gw ?_; exact RetN.mk ⟨[], rfl, rfl, rfl⟩)
      · (refine gw ?_; refine IfB.ff (by simp [hx]) ?_)
        (refine gw ?_; refine IfB.ff (by simp [hx]) ?_)
        (refine gw ?_; refine IfB.ff (by simp [hx]) ?_)
        (refine gw ?_; refine IfB.ff (by simp [hx]) ?_)
        (refine gw ?_; refine IfB.tt (by simp [hx]) ?_)
        (refine gw ?_; refine Choice.mk ⟨false, Choice.mk ⟨true, _, _, c2, ?_⟩⟩)
        (refine gw ?_; refine Choice.mk ⟨false, Choice.mk ⟨false, _, _, wrong17_told m 8, ?_⟩⟩)
        (refine gw ?_; exact RetN.mk ⟨[], rfl, rfl, rfl⟩)
    | some i =>
      rw [hf] at c2
      obtain ⟨hi, _⟩ := findB_lt hf
      have c3 := of17_told hm ho hi hk
      refine key _ ?_ ?_ ?_ ?_ ?_ <;> intro hx
      · (refine gw ?_; refine IfB.tt (by simp [hx]) ?_)
        (refine gw ?_; refine IfB.tt (by simp [hx]) ?_)
        (refine gw ?_; refine Choice.mk ⟨false, Choice.mk ⟨true, _, _, c2, ?_⟩⟩)
        (refine gw ?_; refine Choice.mk ⟨false, Choice.mk ⟨false, _, _, c3, ?_⟩⟩)
        (refine gw ?_; exact RetN.mk ⟨[], rfl, rfl, rfl⟩)
      · (refine gw ?_; refine IfB.ff (by simp [hx]) ?_)
        (refine gw ?_; refine IfB.tt (by simp [hx]) ?_)
        (refine gw ?_; refine IfB.tt (by simp [hx]) ?_)
        (refine gw ?_; refine Choice.mk ⟨false, Choice.mk ⟨true, _, _, c2, ?_⟩⟩)
        (refine gw ?_; refine Choice.mk ⟨false, Choice.mk ⟨false, _, _, c3, ?_⟩⟩)
        (refine gw ?_; exact RetN.mk ⟨[], rfl, rfl, rfl⟩)
      · (refine gw ?_; refine IfB.ff (by simp [hx]) ?_)
        (refine gw ?_; refine IfB.ff (by simp [hx]) ?_)
        (refine gw ?_; refine IfB.tt (by simp [hx]) ?_)
        (refine gw ?_; refine IfB.tt (by simp [hx]) ?_)
        (refine gw ?_; refine Choice.mk ⟨false, Choice.mk ⟨true, _, _, c2, ?_⟩⟩)
        (refine gw ?_; refine Choice.mk ⟨false, Choice.mk ⟨false, _, _, c3, ?_⟩⟩)
        (refine gw ?_; exact RetN.mk ⟨[], rfl, rfl, rfl⟩)
      · (refine gw ?_; refine IfB.ff (by simp [hx]) ?_)
        (refine gw ?_; refine IfB.ff (by simp [hx]) ?_)
        (refine gw ?_; refine IfB.ff (by simp [hx]) ?_)
        (refine gw ?_; refine IfB.tt (by simp [hx]) ?_)
        (refine gw ?_; refine IfB.tt (by simp [hx]) ?_)
        (refine gw ?_; refine Choice.mk ⟨false, Choice.mk ⟨true, _, _, c2, ?_⟩⟩)
        (refine gw ?_; refine Choice.mk ⟨false, Choice.mk ⟨false, _, _, c3, ?_⟩⟩)
        (refine gw ?_; exact RetN.mk ⟨[], rfl, rfl, rfl⟩)
      · (refine gw ?_; refine IfB.ff (by simp [hx]) ?_)
        (refine gw ?_; refine IfB.ff (by simp [hx]) ?_)
        (refine gw ?_; refine IfB.ff (by simp [hx]) ?_)
        (refine gw ?_; refine IfB.ff (by simp [hx]) ?_)
        (refine gw ?_; refine IfB.tt (by simp [hx]) ?_)
        (refine gw ?_; refine Choice.mk ⟨false, Choice.mk ⟨true, _, _, c2, ?_⟩⟩)
        (refine gw ?_; refine Choice.mk ⟨false, Choice.mk ⟨false, _, _, c3, ?_⟩⟩)
        (refine gw ?_; exact RetN.mk ⟨[], rfl, rfl, rfl⟩)
  · rw [if_neg hk]
    (refine gw ?_; refine IfB.ff (by simp; omega) ?_)
    (refine gw ?_; refine IfB.ff (by simp; omega) ?_)
    (refine gw ?_; refine IfB.ff (by simp; omega) ?_)
    (refine gw ?_; refine IfB.ff (by simp; omega) ?_)
    (refine gw ?_; refine IfB.ff (by simp; omega) ?_)
    (refine gw ?_; refine Choice.mk ⟨false, Choice.mk ⟨false, _, _, wrong17_told m 2, ?_⟩⟩)
    (refine gw ?_; exact RetN.mk ⟨[], rfl, rfl, rfl⟩)

theorem giveG_ok {m : Mo} (hm : MoOk m) (ce : Nat × Nat) (q : Int) (f : Mo × Int × Nat → Mo) (hf : ∀ p : Mo × Int × Nat, MoOk p.1 → p.1.c = m.c → MoOk (f p) ∧ (f p).c = m.c) (h : ce.2 = 0 → (∃ k, k ≤ m.c.L ∧ ce.1 = m.c.G * 2 ^ k) ∧ 0 ≤ q ∧ q ≤ ce.1 ∧ m.live + ce.1 ≤ m.c.M) :
    MoOk (if ce.2 ≠ 0 then (m, anE ce.2) else if (placeF m m.bs ce.1 q).2.2 ≠ 0 then (m, anE (placeF m m.bs ce.1 q).2.2) else (f (placeF m m.bs ce.1 q), { an0 with at' := (placeF m m.bs ce.1 q).2.1 })).1 ∧
    (if ce.2 ≠ 0 then (m, anE ce.2) else if (placeF m m.bs ce.1 q).2.2 ≠ 0 then (m, anE (placeF m m.bs ce.1 q).2.2) else (f (placeF m m.bs ce.1 q), { an0 with at' := (placeF m m.bs ce.1 q).2.1 })).1.c = m.c := by
  by_cases h1 : ce.2 = 0
  · rw [if_neg (by simpa using h1)]
    obtain ⟨a1, a2, a3, a4⟩ := h h1
    by_cases h2 : (placeF m m.bs ce.1 q).2.2 = 0
    · rw [if_neg (by simpa using h2)]
      have hput := placeF_ok hm hm.a hm.z a1 ⟨a2, a3⟩ (by rw [← hm.l]; exact a4) hm.k.1 h2
      exact hf _ hput.ok hput.c
    · rw [if_pos h2]; exact ⟨hm, rfl⟩
  · rw [if_pos h1]; exact ⟨hm, rfl⟩
theorem doF_ok {m : Mo} (hm : MoOk m) {o : X.O} (ho : OpOk o) : MoOk (doF m o).1 ∧ (doF m o).1.c = m.c := by
  have hkeep : MoOk m ∧ m.c = m.c := ⟨hm, rfl⟩
  have hmm := hm.mm
  have htb := totalB_nonneg hm.a
  unfold doF
  split
  · unfold giveF
    simp only
    by_cases h2 : o.k = 2
    · simp only [if_pos h2]
      refine giveG_ok hm (manyF m.c m.live o.n o.s) (o.n * o.s) (fun p => { p.1 with mem := zeroF p.1.mem p.2.1.toNat (manyF m.c m.live o.n o.s).1 }) (fun p hok hc => ⟨⟨hok.c, hok.a, hok.z, hok.l, hok.lM, hok.p, hok.k, hok.o, hok.on, ?_, zeroF_b hok.b _ _⟩, hc⟩) fun h => ?_
      · rw [zeroF_len]; exact hok.mm
      · have := manyF_ok hm.c h
        exact ⟨this.1, this.2.1, this.2.2.1, this.2.2.2.1⟩
    · simp only [if_neg h2]
      refine giveG_ok hm (newF m.c m.live o.s (if o.k = 3 then o.a else 1)) o.s (fun p => p.1) (fun p hok hc => ⟨hok, hc⟩) fun h => ?_
      have := newF_ok hm.c h
      exact ⟨this.1, this.2.1, this.2.2.1, this.2.2.2⟩
  · split
    · refine ⟨⟨hm.c, hm.a, hm.z, hm.l, hm.lM, hm.p, hm.k, ?_, ?_, hm.mm, hm.b⟩, rfl⟩
      · simp only [trimF, List.length_map, List.length_range]; exact hm.o
      · have h := hm.on
        refine Nat.le_trans ?_ h
        have e : m.on = (List.range m.on.length).map fun i => m.on.getD i false := by
          refine List.ext_getElem (by simp) fun i h1 h2 => ?_
          simp [List.getD_eq_getElem?_getD, h1]
        conv => rhs; rw [e]
        exact cnt_mono fun i hi => by rw [Bool.and_eq_true] at hi; exact hi.1
    · split
      · exact hkeep
      · split
        · split
          · exact hkeep
          · rename_i hk i hf
            obtain ⟨hi, _⟩ := findB_lt hf
            have hg : m.bs.getD i bk0 = m.bs[i] := by simp [List.getD_eq_getElem?_getD, hi]
            have hdt := dropB_tot hi
            have hds := dropB_sub m.bs i
            have hb := hm.a.b _ (List.getElem_mem hi)
            unfold ofB
            rw [hg]
            simp only
            split
            · split
              · exact hkeep
              · rename_i h1
                have h1 := Decidable.of_not_not h1
                have hn := newF_ok hm.c h1
                split
                · exact hkeep
                · rename_i h2
                  have h2 := Decidable.of_not_not h2
                  have had := hm.a.sub hds
                  have hput : Put m (dropB m.bs i) _ _ _ _ := placeF_ok hm had (fun x hx => hm.z x (hds.subset hx)) hn.1 ⟨hn.2.1, hn.2.2.1⟩ (by rw [hdt, ← hm.l]; exact hn.2.2.2) (fun x hx => hm.k.1 x (hds.subset hx)) h2
                  have hok := hput.ok
                  have hy := hput.y0
                  have hyH := hput.yH
                  have hml := hput.ml
                  generalize placeF m (dropB m.bs i) (newF m.c (m.live - m.bs[i].c) o.s 1).1 o.s = p at *
                  generalize (newF m.c (m.live - m.bs[i].c) o.s 1).1 = ch at *
                  refine ⟨⟨hok.c, hok.a, hok.z, hok.l, hok.lM, hok.p, hok.k, hok.o, hok.on, ?_, ?_⟩, hput.c⟩
                  · simp only [List.length_append, List.length_take, List.length_drop]
                    rw [hput.c]
                    omega
                  · intro x hx
                    simp only [List.mem_append] at hx
                    rcases hx with (hx | hx) | hx
                    · exact hok.b x (List.mem_of_mem_take hx)
                    · exact hm.b x (List.mem_of_mem_take (List.mem_of_mem_drop hx))
                    · exact hok.b x (List.mem_of_mem_drop hx)
            · split
              · have had := hm.a.sub hds
                have hdn := totalB_nonneg had
                have hl := hm.l
                have hlM := hm.lM
                have hp := hm.p
                refine ⟨⟨hm.c, had, fun x hx => hm.z x (hds.subset hx), by rw [hdt, ← hl], by simp only; omega, by simp only; omega, ⟨fun x hx => hm.k.1 x (hds.subset hx), hm.k.2⟩, hm.o, hm.on, hm.mm, hm.b⟩, rfl⟩
              · split
                · exact hkeep
                · split
                  · exact hkeep
                  · split
                    · exact hkeep
                    · refine ⟨⟨hm.c, hm.a, hm.z, hm.l, hm.lM, hm.p, hm.k, hm.o, hm.on, by rw [List.length_set]; exact hm.mm, fun x hx => ?_⟩, rfl⟩
                      have hob := ho.b
                      rcases List.mem_or_eq_of_mem_set hx with hx | rfl
                      · exact hm.b x hx
                      · omega
        · exact hkeep
end Go.Ev.W
namespace Go.Ev.W
open Go.Ev Go.Ev.N

theorem up_told (v : Nat) (h1 : 1 ≤ v) (h2 : v ≤ 1000000) : Told P T calc_Up [] [i64 v] (.tup [i64 (upN v : Nat), .bool true]) [] := by
  have hu := upN_lt h1
  have hsh : ∀ x : Int, x * 2 ^ min (Int.toNat 1) IntKind.i64.bits = x * 2 := fun x => by
    have : (2 : Int) ^ min (Int.toNat 1) IntKind.i64.bits = 2 := by decide
    rw [this]
  refine told_of_ev (fn := calc_Up_fn) tabOk mixed (by kernel_rfl) (by kernel_rfl) (by kernel_rfl) (by kernel_rfl) ?_
  (refine gw ?_; first | refine IfB.dec (fun h3 => ?_) (fun h3 => ?_) | refine IfB.eq (fun h3 => ?_) (fun h3 => ?_) | refine IfB.ne (fun h3 => ?_) (fun h3 => ?_) | refine IfB.mk (fun h3 => ?_) (fun h3 => ?_))
  · omega
  · (refine gw ?_; first | refine IfB.dec (fun h4 => ?_) (fun h4 => ?_) | refine IfB.eq (fun h4 => ?_) (fun h4 => ?_) | refine IfB.ne (fun h4 => ?_) (fun h4 => ?_) | refine IfB.mk (fun h4 => ?_) (fun h4 => ?_))
    · omega
    · (refine gw ?_; refine LoopN.mk ⟨[0,4], fun vs L => ∃ j : Nat, vs = [i64 v, i64 (2 ^ j : Nat)] ∧ L = [] ∧ 2 ^ j ≤ upN v, fun vs L => match vs with | [_, .int _ i] => 4000000 - i.toNat | _ => 0, [], [], rfl, ⟨0, rfl, rfl, upN_pos v⟩, ?_⟩)
      rintro vs L ⟨j, rfl, rfl, hj⟩
      obtain ⟨p, hp⟩ : ∃ p, 2 ^ j = p := ⟨_, rfl⟩
      obtain ⟨k, hk⟩ := upN_pow v
      have hle := le_upN v
      (refine gw ?_; first | refine IfB.dec (fun h5 => ?_) (fun h5 => ?_) | refine IfB.eq (fun h5 => ?_) (fun h5 => ?_) | refine IfB.ne (fun h5 => ?_) (fun h5 => ?_) | refine IfB.mk (fun h5 => ?_) (fun h5 => ?_))
      · have hd : 2 ^ j * 2 ≤ upN v := by rw [hk]; exact pow_lt_dbl (by omega)
        have e : ((2 ^ (j + 1) : Nat) : Int) = ((2 ^ j : Nat) : Int) * 2 := by rw [Nat.pow_succ]; omega
        rw [hp] at hd e ⊢
        have hpos : 1 ≤ p := by rw [← hp]; exact Nat.one_le_two_pow
        (refine gw ?_)
        rw [hsh]
        (refine gw ?_; refine ⟨[], [], rfl, ⟨j + 1, by rw [e]; rfl, rfl, by rw [Nat.pow_succ, hp]; exact hd⟩, (by omega : 4000000 - ((p : Int) * 2).toNat < 4000000 - (p : Int).toNat)⟩)
      · have e : upN v = 2 ^ j := by
          have := upN_le (v := v) (k := j) (by omega)
          omega
        rw [e]
        (refine gw ?_; exact RetN.mk ⟨[], rfl, rfl, rfl⟩)
theorem pinCount_told (l : List Bool) (hl : l.length ≤ 1000000) : Told P T pin_Count [] [lT l] (i64 (cntB l : Nat)) [] := by
  have hml : (l.map AV.bool).length = l.length := by simp
  refine told_of_ev (fn := pin_Count_fn) tabOk mixed (by kernel_rfl) (by kernel_rfl) (by kernel_rfl) (by kernel_rfl) ?_
  (refine gw ?_; refine LoopN.mk ⟨[2,5,6,7], fun vs L => ∃ i : Nat, vs = [i64 (cntB (l.take i) : Nat), lT l, i64 (l.map AV.bool).length, i64 i] ∧ L = [] ∧ i ≤ l.length, fun vs L => match vs with | [_, _, _, .int _ i] => l.length - i.toNat | _ => 0, [], [], rfl, ⟨0, rfl, rfl, by omega⟩, ?_⟩)
  rintro vs L ⟨i, rfl, rfl, hi⟩
  (refine gw ?_; first | refine IfB.dec (fun h1 => ?_) (fun h1 => ?_) | refine IfB.eq (fun h1 => ?_) (fun h1 => ?_) | refine IfB.ne (fun h1 => ?_) (fun h1 => ?_) | refine IfB.mk (fun h1 => ?_) (fun h1 => ?_))
  · have hlt : i < l.length := by omega
    have hs := cntB_succ hlt
    have hb := cntB_le (l.take i)
    rw [List.length_take] at hb
    (refine gw ?_; refine idx_map (hlt) ?_)
    cases hb : l[i] with
    | false =>
      rw [hb, if_neg (by simp)] at hs
      (refine gw ?_; refine ⟨[], [], rfl, ⟨i + 1, by rw [hs]; rfl, rfl, hlt⟩, (by omega : l.length - ((i : Int) + 1).toNat < l.length - (i : Int).toNat)⟩)
    | true =>
      rw [hb, if_pos rfl] at hs
      (refine gw ?_; refine ⟨[], [], rfl, ⟨i + 1, by rw [hs]; rfl, rfl, hlt⟩, (by omega : l.length - ((i : Int) + 1).toNat < l.length - (i : Int).toNat)⟩)
  · have : i = l.length := by omega
    subst this
    rw [List.take_length]
    (refine gw ?_; exact RetN.mk ⟨[], rfl, rfl, rfl⟩)
end Go.Ev.W
namespace Go.Ev.W
open Go.Ev Go.Ev.N

theorem junkByte_told (seed page k : Nat) : Told P T junk_Byte [] [i64 seed, i64 page, i64 k] (u8 (byteF seed page k)) [] := by
  refine told_of_ev (fn := junk_Byte_fn) tabOk mixed (by kernel_rfl) (by kernel_rfl) (by kernel_rfl) (by kernel_rfl) ?_
  (refine gw ?_)
  refine ⟨?_⟩
  (refine gw ?_)
  refine ⟨?_⟩
  (refine gw ?_)
  refine ⟨?_⟩
  (refine gw ?_)
  refine ⟨?_⟩
  (refine gw ?_)
  refine ⟨?_⟩
  (refine gw ?_)
  refine ⟨?_⟩
  (refine gw ?_)
  refine ⟨?_⟩
  (refine gw ?_)
  refine ⟨?_⟩
  (refine gw ?_; refine RetN.mk ⟨[], rfl, ?_, rfl⟩)
  unfold byteF
  simp only [IntKind.wrap_u8]
  refine congrArg (AV.int .u8) ?_
  omega
theorem pinPages_told {pg y n : Nat} (hp : 1 ≤ pg) (hn : 1 ≤ n) (hy : y + n ≤ 1000000) : Told P T pin_Pages [] [i64 pg, i64 y, i64 n] (.tup [i64 (y / pg : Nat), i64 ((y + n - 1) / pg + 1 : Nat)]) [] := by
  have e1 : ((y : Nat) : Int).tdiv (pg : Nat) = ((y / pg : Nat) : Int) := by rw [Int.tdiv_eq_ediv_of_nonneg (by omega)]; omega
  have e0 : ((y : Nat) : Int) + ((n : Nat) : Int) - 1 = ((y + n - 1 : Nat) : Int) := by omega
  have e2 : (((y + n - 1 : Nat)) : Int).tdiv (pg : Nat) = (((y + n - 1) / pg : Nat) : Int) := by rw [Int.tdiv_eq_ediv_of_nonneg (by omega)]; omega
  have d1 := Nat.div_le_self y pg
  have d2 := Nat.div_le_self (y + n - 1) pg
  generalize y / pg = q at *
  generalize (y + n - 1) / pg = r at *
  refine told_of_ev (fn := pin_Pages_fn) tabOk mixed (by kernel_rfl) (by kernel_rfl) (by kernel_rfl) (by kernel_rfl) ?_
  (refine gw ?_; refine IfB.ff (by simp; omega) ?_)
  (refine gw ?_)
  rw [e1]
  (refine gw ?_; refine IfB.ff (by simp; omega) ?_)
  (refine gw ?_; refine IfB.tt (by simp; omega) ?_)
  (refine gw ?_)
  rw [e0]
  (refine gw ?_)
  rw [e2]
  (refine gw ?_; exact RetN.mk ⟨[], rfl, rfl, rfl⟩)
end Go.Ev.W
namespace Go.Ev.W
open Go.Ev Go.Ev.N

theorem clone_bool (es : List AV) (hl : es.length ≤ 1000000) : Told P T slices_Clone_bool_bool [] [.lst t_bool es] (.ref 0) [.row t_bool es] := by
  refine told_of_ev (fn := slices_Clone_bool_bool_fn) tabOk mixed (by kernel_rfl) (by kernel_rfl) (by kernel_rfl) (by kernel_rfl) ?_
  refine AnyB.mk (fun b hb => ?_)
  refine IfB.mk (fun h1 => ?_) (fun h1 => ?_)
  · obtain rfl := hb h1
    exact RetN.mk ⟨[1], rfl, rfl, rfl⟩
  · refine Room.mk (by first | omega | (simp; omega) | (simp; done)) ?_
    exact RetN.mk ⟨[2], rfl, rfl, rfl⟩
theorem clone_byte (es : List AV) (hl : es.length ≤ 1000000) : Told P T slices_Clone_byte_byte [] [.lst t_uint8 es] (.ref 0) [.row t_uint8 es] := by
  refine told_of_ev (fn := slices_Clone_byte_byte_fn) tabOk mixed (by kernel_rfl) (by kernel_rfl) (by kernel_rfl) (by kernel_rfl) ?_
  refine AnyB.mk (fun b hb => ?_)
  refine IfB.mk (fun h1 => ?_) (fun h1 => ?_)
  · obtain rfl := hb h1
    exact RetN.mk ⟨[1], rfl, rfl, rfl⟩
  · refine Room.mk (by first | omega | (simp; omega) | (simp; done)) ?_
    exact RetN.mk ⟨[2], rfl, rfl, rfl⟩
end Go.Ev.W
namespace Go.Ev.W
open Go.Ev Go.Ev.N

set_option maxHeartbeats 4000000 in
theorem trim_told {on met : List Bool} (hN : met.length = on.length) (hl : on.length ≤ 65536) : Told P T commit_Trim [] [lT on, lT met] (.tup [lT (trimF on met).1, i64 ((trimF on met).2 : Nat)]) [] := by
  have hmo : (on.map AV.bool).length = on.length := by simp
  have hmm : (met.map AV.bool).length = met.length := by simp
  obtain ⟨D, hD⟩ : ∃ D, on.length = D := ⟨_, rfl⟩
  have c1 := clone_bool (on.map AV.bool) (by omega)
  refine told_of_ev (fn := commit_Trim_fn) tabOk mixed (by kernel_rfl) (by kernel_rfl) (by kernel_rfl) (by kernel_rfl) ?_
  (refine gw ?_; refine Choice.mk ⟨false, Choice.mk ⟨false, _, _, c1, ?_⟩⟩)
  (refine gw ?_; refine LoopN.mk ⟨[1,4,5,10,11,12], fun vs L => ∃ i : Nat, vs = [lT met, .ref 0, i64 (((List.range i).filter fun i => on.getD i false && !met.getD i false).length : Nat), lT on, i64 (on.map AV.bool).length, i64 i] ∧ L = [.row t_bool (tabF D fun j => .bool (on.getD j false && or (decide (i ≤ j)) (met.getD j false)))] ∧ i ≤ D, fun vs L => match vs with | [_, _, _, _, _, .int _ i] => D - i.toNat | _ => 0, [], [1], rfl, ⟨0, rfl, ?_, by omega⟩, ?_⟩)
  · show [Blk.row t_bool (on.map AV.bool)] = _
    rw [tabF_map on AV.bool false, hD]
    refine congrArg (fun z => [Blk.row t_bool z]) (tabF_congr fun k _ => ?_)
    rw [decide_eq_true (Nat.zero_le k)]; simp
  rintro vs L ⟨i, rfl, rfl, hi⟩
  have hset : ∀ (v : Bool), i < D → v = (on.getD i false && met.getD i false) → (tabF D fun j => AV.bool (on.getD j false && or (decide (i ≤ j)) (met.getD j false))).set ((i : Nat) : Int).toNat (.bool v) = tabF D fun j => AV.bool (on.getD j false && or (decide (i + 1 ≤ j)) (met.getD j false)) := fun v hiD hv => by
    rw [Int.toNat_natCast]
    refine tabF_set hiD fun j hj => ?_
    by_cases e : j = i
    · subst e; rw [if_pos rfl, decide_eq_false (show ¬ j + 1 ≤ j by omega), hv]; rfl
    · rw [if_neg e]
      have : decide (i + 1 ≤ j) = decide (i ≤ j) := decide_eq_decide.2 (by omega)
      rw [this]
  have hkeep : i < D → (on.getD i false = true → met.getD i false = true) → (tabF D fun j => AV.bool (on.getD j false && or (decide (i ≤ j)) (met.getD j false))) = tabF D fun j => AV.bool (on.getD j false && or (decide (i + 1 ≤ j)) (met.getD j false)) := fun hiD hv => by
    refine tabF_congr fun j hj => ?_
    by_cases e : j = i
    · subst e
      rw [decide_eq_false (show ¬ j + 1 ≤ j by omega), decide_eq_true (Nat.le_refl j)]
      cases ho : on.getD j false with
      | true => rw [hv ho]; rfl
      | false => rfl
    · have : decide (i + 1 ≤ j) = decide (i ≤ j) := decide_eq_decide.2 (by omega)
      rw [this]
  (refine gw ?_; first | refine IfB.dec (fun g1 => ?_) (fun g1 => ?_) | refine IfB.eq (fun g1 => ?_) (fun g1 => ?_) | refine IfB.ne (fun g1 => ?_) (fun g1 => ?_) | refine IfB.mk (fun g1 => ?_) (fun g1 => ?_))
  · have hiD : i < D := by omega
    have hio : i < on.length := by omega
    have him : i < met.length := by omega
    have ho := lT_get hio
    have hm := lT_get him
    have hs : (List.filter (fun i => on.getD i false && !met.getD i false) (List.range (i + 1))).length = (List.filter (fun i => on.getD i false && !met.getD i false) (List.range i)).length + if (on[i] && !met[i]) = true then 1 else 0 := by
      rw [List.range_succ, List.filter_append, List.length_append, ← ho, ← hm]; simp only [List.filter_cons, List.filter_nil]; split <;> rfl
    have hs2 : (List.filter (fun i => on.getD i false && !met.getD i false) (List.range i)).length ≤ i := by
      simpa using List.length_filter_le (fun i => on.getD i false && !met.getD i false) (List.range i)
    rw [ho, hm] at hset hkeep
    (refine gw ?_; refine idx_map (hio) ?_)
    rcases hov : on[i] with _ | _
    · rw [hov] at hs hkeep
      rw [Bool.false_and] at hs
      have hs : (List.filter (fun i => on.getD i false && !met.getD i false) (List.range (i + 1))).length = (List.filter (fun i => on.getD i false && !met.getD i false) (List.range i)).length := hs
      (refine gw ?_; refine ⟨[], [0], rfl, ⟨i + 1, by rw [hs]; rfl, by rw [← hkeep hiD (by simp)]; rfl, hiD⟩, (by omega : D - ((i : Int) + 1).toNat < D - (i : Int).toNat)⟩)
    · rw [hov] at hs hset hkeep
      rw [Bool.true_and] at hs hset
      (refine gw ?_; refine IfB.ff (by rw [hmm]; simp; omega) ?_)
      (refine gw ?_; refine idx_map (him) ?_)
      rcases hmv : met[i] with _ | _
      · rw [hmv] at hs hset
        have hs : (List.filter (fun i => on.getD i false && !met.getD i false) (List.range (i + 1))).length = (List.filter (fun i => on.getD i false && !met.getD i false) (List.range i)).length + 1 := hs
        (refine gw ?_; refine InB.mk (by omega) (by rw [tabF_len]; omega) ?_)
        (refine gw ?_; refine ⟨[], [0], rfl, ⟨i + 1, by rw [hs]; rfl, by rw [← hset false hiD rfl]; rfl, hiD⟩, (by omega : D - ((i : Int) + 1).toNat < D - (i : Int).toNat)⟩)
      · rw [hmv] at hs hkeep
        have hs : (List.filter (fun i => on.getD i false && !met.getD i false) (List.range (i + 1))).length = (List.filter (fun i => on.getD i false && !met.getD i false) (List.range i)).length := hs
        (refine gw ?_; refine ⟨[], [0], rfl, ⟨i + 1, by rw [hs]; rfl, by rw [← hkeep hiD (by simp)]; rfl, hiD⟩, (by omega : D - ((i : Int) + 1).toNat < D - (i : Int).toNat)⟩)
  · have e : i = D := by omega
    subst e
    have f1 : (tabF i fun j => AV.bool (on.getD j false && or (decide (i ≤ j)) (met.getD j false))) = ((List.range i).map fun j => on.getD j false && met.getD j false).map AV.bool := by
      rw [← tabF_of]; exact tabF_congr fun j hj => by rw [decide_eq_false (show ¬ i ≤ j by omega)]; simp
    rw [f1]
    unfold trimF
    rw [hD]
    (refine gw ?_; exact RetN.fz ⟨[true, true], [], rfl, rfl, rfl⟩)
end Go.Ev.W
