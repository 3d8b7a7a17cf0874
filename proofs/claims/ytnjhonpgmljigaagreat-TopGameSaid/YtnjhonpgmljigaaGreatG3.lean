/- Words and lemmas, part 3, for laws of this seat (a part of their proofs). -/
import Derived.Test.YtnjhonpgmljigaaGreatG2
import Derived.Test.YtnjhonpgmljigaaGreatNm
import Derived.Test.YtnjhonpgmljigaaGreatEvOpen
import Derived.Test.YtnjhonpgmljigaaGreatEvLib
import Derived.Test.YtnjhonpgmljigaaGreatEvGrid
import Derived.Test.YtnjhonpgmljigaaGreatEvTrim
set_option linter.unusedVariables false
set_option linter.unusedSimpArgs false
namespace Go.Ev.W
open Go.Ev Go.Ev.N

def SzB (c : Cf) (x : Bk) : Prop := ∃ k, k ≤ c.L ∧ x.c = ((c.G * 2 ^ k : Nat) : Int) ∧ x.a % x.c = 0 ∧ 0 ≤ x.q ∧ x.q ≤ x.c
theorem cnt_mono {n : Nat} {f g : Nat → Bool} (h : ∀ i, f i = true → g i = true) : cntB ((List.range n).map f) ≤ cntB ((List.range n).map g) := by
  unfold cntB
  rw [List.filter_map, List.filter_map, List.length_map, List.length_map, ← List.countP_eq_length_filter, ← List.countP_eq_length_filter]
  exact List.countP_mono_left fun i _ hi => h i hi
theorem commitF_ok {on met : List Bool} {f b most : Nat} (h : (commitF on met f b most).2.2 = true) : (commitF on met f b most).1.length = on.length ∧ cntB (commitF on met f b most).1 ≤ most := by
  rw [commitF_eq] at h ⊢
  split at h
  · simp at h
  · rename_i h1
    rw [if_neg h1]
    refine ⟨?_, ?_⟩
    · simp only; split <;> simp
    · simp only
      split
      · have := cnt_mono (n := on.length) (f := fun i => needF on f b i && needF met f b i) (g := needF met f b) fun i hi => by rw [Bool.and_eq_true] at hi; exact hi.2
        omega
      · omega
theorem fillF_b {mem : List Nat} (h : IsB mem) (a b c : Nat) : IsB (fillF mem a b c) := fun x hx => by
  obtain ⟨i, hi, rfl⟩ := List.mem_map.1 hx
  split
  · exact Nat.mod_lt _ (by omega)
  · have hi : i < mem.length := by simpa using hi
    rw [List.getD_eq_getElem?_getD, List.getElem?_eq_getElem hi]
    exact h _ (List.getElem_mem hi)
theorem fills_b (sd pg : Nat) : ∀ (fs : List Nat) (mem : List Nat), IsB mem → IsB (fs.foldl (fun mem p => fillF mem sd p pg) mem)
  | [], _, h => h
  | f :: fs, mem, h => fills_b sd pg fs _ (fillF_b h _ _ _)
/-- A block has been put. -/
structure Put (m : Mo) (l : List Bk) (n : Nat) (q : Int) (m' : Mo) (y : Int) : Prop where
  ok : MoOk m'
  c : m'.c = m.c
  y0 : 0 ≤ y
  yH : y + n ≤ m.c.H
  f : freeAt l n y = true
  bs : m'.bs = putB l ⟨y, n, q⟩
  li : m'.live = totalB l + n
  ml : m'.mem.length = m.mem.length
  low : ∃ j : Nat, y = ((j * n : Nat) : Int) ∧ ∀ i, i < j → freeAt l n ((i * n : Nat) : Int) = false
theorem placeF_ok {m : Mo} (hm : MoOk m) {l : List Bk} (ha : ApB m.c.H l) (hz : ∀ x ∈ l, SzB m.c x) {n : Nat} {q : Int} (hn : ∃ k, k ≤ m.c.L ∧ n = m.c.G * 2 ^ k) (hq : 0 ≤ q ∧ q ≤ n) (ht : totalB l + n ≤ m.c.M) (hk : ∀ x ∈ l, x.a + x.c ≤ m.mark) (h : (placeF m l n q).2.2 = 0) : Put m l n q (placeF m l n q).1 (placeF m l n q).2.1 := by
  obtain ⟨k, hkL, hkn⟩ := hn
  have hn1 : 1 ≤ n := by rw [hkn]; exact Nat.mul_pos hm.c.gpos (Nat.two_pow_pos _)
  have hsp := lowF_spec (c := m.c) (l := l) hn1
  have hco := commitF_ok (on := m.on) (met := metF m.c.Pg m.c.H l) (f := (lowF m.c l n).1 / m.c.Pg) (b := ((lowF m.c l n).1 + n - 1) / m.c.Pg + 1) (most := m.c.P)
  unfold placeF at h ⊢
  simp only at h ⊢
  split at h
  · simp at h
  · rename_i h1
    rw [if_neg h1]
    split at h
    · simp at h
    · rename_i h2
      rw [if_neg h2]
      have h1' : (lowF m.c l n).2 = true := by simpa using h1
      have h2' := hco (by simpa using h2)
      obtain ⟨j, e1, e2, e3, e4⟩ := hsp h1'
      rw [← e1] at e2
      generalize (lowF m.c l n).1 = y at *
      have hput := putB_ok ha (b := ⟨y, n, q⟩) e3 (by simp; omega)
      obtain ⟨p1, p2, p3, p4⟩ := hput
      have p3 : totalB (putB l ⟨y, n, q⟩) = totalB l + n := p3
      have htb := totalB_nonneg ha
      have hMH : m.c.M ≤ m.c.H := by have := hm.c.h; omega
      refine ⟨?_, rfl, by simp, by simp; omega, e3, rfl, p3, fills_len _ _ _ _, ⟨j, by rw [← e1], e4⟩⟩
      refine ⟨hm.c, p1, fun x hx => ?_, rfl, by rw [p3]; exact ht, ⟨by simp only; omega, ?_⟩, ⟨fun x hx => ?_, ?_, ?_⟩, by rw [h2'.1]; exact hm.o, h2'.2, by rw [fills_len]; exact hm.mm, fills_b _ _ _ _ hm.b⟩
      · rcases (p2 x).1 hx with rfl | hx
        · refine ⟨k, hkL, by rw [← hkn], ?_, hq⟩
          show ((y : Nat) : Int) % ((n : Nat) : Int) = 0
          rw [e1, Int.natCast_mul]
          exact Int.mul_emod_left _ _
        · exact hz x hx
      · have := hm.p
        simp only
        rw [p3]; omega
      · rcases (p2 x).1 hx with rfl | hx
        · simp only; omega
        · have := hk x hx
          simp only; omega
      · have := hm.k; simp only; omega
      · have := hm.k; simp only; omega

theorem newF_ok {c : Cf} (hc : c.Ok) {live s a : Int} (h : (newF c live s a).2 = 0) : (∃ k, k ≤ c.L ∧ (newF c live s a).1 = c.G * 2 ^ k) ∧ 0 ≤ s ∧ s ≤ (newF c live s a).1 ∧ live + (newF c live s a).1 ≤ c.M := by
  have hb := (chargeF_bd hc s a).2
  unfold newF at h ⊢
  split at h
  · rename_i h1; exact absurd h h1
  · rename_i h1
    rw [if_neg h1]
    split at h
    · simp at h
    · rename_i h2
      rw [if_neg h2]
      obtain ⟨k, h3, h4, h5, h6⟩ := hb (by simpa using h1)
      exact ⟨⟨k, h3, h4⟩, h5, h6, by simp only; omega⟩
theorem prodF_ok {c : Cf} {n s : Int} (h : (prodF c n s).2 = 0) : 0 ≤ n ∧ 0 ≤ s ∧ n * s ≤ c.N ∧ ((prodF c n s).1 : Int) = n * s := by
  unfold prodF at h ⊢
  split at h
  · simp at h
  · rename_i h1
    rw [if_neg h1]
    split at h
    · rename_i h2
      rw [if_pos h2]
      have := Int.mul_nonneg (show 0 ≤ n by omega) (show 0 ≤ s by omega)
      exact ⟨by omega, by omega, h2, by simp only; omega⟩
    · simp at h
theorem manyF_ok {c : Cf} (hc : c.Ok) {live n s : Int} (h : (manyF c live n s).2 = 0) : (∃ k, k ≤ c.L ∧ (manyF c live n s).1 = c.G * 2 ^ k) ∧ 0 ≤ n * s ∧ n * s ≤ (manyF c live n s).1 ∧ live + (manyF c live n s).1 ≤ c.M ∧ n * s ≤ c.N := by
  unfold manyF at h ⊢
  split at h
  · rename_i h1; exact absurd h h1
  · rename_i h1
    rw [if_neg h1]
    obtain ⟨a1, a2, a3, a4⟩ := prodF_ok (by simpa using h1)
    have b := newF_ok hc h
    rw [a4] at b ⊢
    exact ⟨b.1, b.2.1, b.2.2.1, b.2.2.2, a3⟩

def zeroF (mem : List Nat) (a n : Nat) : List Nat := (List.range mem.length).map fun j => if a ≤ j ∧ j < a + n then 0 else mem.getD j 0
theorem zeroF_len (mem : List Nat) (a n : Nat) : (zeroF mem a n).length = mem.length := by simp [zeroF]
theorem zeroF_b {mem : List Nat} (h : IsB mem) (a n : Nat) : IsB (zeroF mem a n) := fun x hx => by
  obtain ⟨i, hi, rfl⟩ := List.mem_map.1 hx
  split
  · omega
  · have hi : i < mem.length := by simpa using hi
    rw [List.getD_eq_getElem?_getD, List.getElem?_eq_getElem hi]
    exact h _ (List.getElem_mem hi)
/-- An operation's words. -/
structure OpOk (o : X.O) : Prop where
  k : -9223372036854775808 ≤ o.k ∧ o.k ≤ 9223372036854775807
  p : -9223372036854775808 ≤ o.p ∧ o.p ≤ 9223372036854775807
  s : -9223372036854775808 ≤ o.s ∧ o.s ≤ 9223372036854775807
  a : -9223372036854775808 ≤ o.a ∧ o.a ≤ 9223372036854775807
  n : -9223372036854775808 ≤ o.n ∧ o.n ≤ 9223372036854775807
  b : 0 ≤ o.b ∧ o.b < 256
def giveF (m : Mo) (o : X.O) : Mo × An :=
  let ce := if o.k = 2 then manyF m.c m.live o.n o.s else newF m.c m.live o.s (if o.k = 3 then o.a else 1)
  if ce.2 ≠ 0 then (m, anE ce.2)
  else
    let p := placeF m m.bs ce.1 (if o.k = 2 then o.n * o.s else o.s)
    if p.2.2 ≠ 0 then (m, anE p.2.2)
    else (if o.k = 2 then { p.1 with mem := zeroF p.1.mem p.2.1.toNat ce.1 } else p.1, { an0 with at' := p.2.1 })
def dropB (l : List Bk) (i : Nat) : List Bk := l.take i ++ l.drop (i + 1)
def bk0 : Bk := ⟨0, 0, 0⟩
def ofB (m : Mo) (o : X.O) (i : Nat) : Mo × An :=
  let b := m.bs.getD i bk0
  if o.k = 4 then
    let ce := newF m.c (m.live - b.c) o.s 1
    if ce.2 ≠ 0 then (m, anE ce.2)
    else
      let p := placeF m (dropB m.bs i) ce.1 o.s
      if p.2.2 ≠ 0 then (m, anE p.2.2)
      else
        let n := min (ce.1 : Int) b.c
        ({ p.1 with mem := p.1.mem.take p.2.1.toNat ++ (m.mem.take (b.a + n).toNat).drop b.a.toNat ++ p.1.mem.drop (p.2.1 + n).toNat }, { an0 with at' := p.2.1 })
  else if o.k = 5 then ({ m with bs := dropB m.bs i, live := m.live - b.c }, an0)
  else if o.k = 6 then (m, { an0 with n := b.c })
  else if o.n < 0 ∨ o.n ≥ b.c then (m, anE 9)
  else if o.k = 7 then (m, { an0 with b := m.mem.getD (b.a + o.n).toNat 0 })
  else ({ m with mem := m.mem.set (b.a + o.n).toNat o.b.toNat }, an0)
def doF (m : Mo) (o : X.O) : Mo × An :=
  if o.k = 1 ∨ o.k = 3 ∨ o.k = 2 then giveF m o
  else if o.k = 9 then ({ m with on := (trimF m.on (metF m.c.Pg m.c.H m.bs)).1 }, { an0 with n := (trimF m.on (metF m.c.Pg m.c.H m.bs)).2 })
  else if o.k = 10 then (m, { an0 with live := m.live, peak := m.peak, mark := m.mark, pg := cntB m.on })
  else if o.k = 4 ∨ o.k = 5 ∨ o.k = 6 ∨ o.k = 7 ∨ o.k = 8 then
    match findB m.bs o.p with
    | none => (m, anE 8)
    | some i => ofB m o i
  else (m, anE 2)
def allF : Mo → List X.O → Mo × List An
  | m, [] => (m, [])
  | m, o :: os => ((allF (doF m o).1 os).1, (doF m o).2 :: (allF (doF m o).1 os).2)
end Go.Ev.W
namespace Go.Ev.W
open Go.Ev Go.Ev.N

theorem dropB_sub (l : List Bk) (i : Nat) : (dropB l i).Sublist l := by
  unfold dropB
  have h := List.take_append_drop i l
  conv => rhs; rw [← h]
  refine List.Sublist.append (List.Sublist.refl _) ?_
  rw [show i + 1 = i + 1 by rfl, ← List.drop_drop]
  exact List.drop_sublist _ _
theorem dropB_tot {l : List Bk} {i : Nat} (h : i < l.length) : totalB (dropB l i) = totalB l - l[i].c := by
  have e : l = l.take i ++ (l[i] :: l.drop (i + 1)) := by rw [← List.drop_eq_getElem_cons h, List.take_append_drop]
  have e2 : totalB l = totalB (l.take i ++ (l[i] :: l.drop (i + 1))) := by rw [← e]
  rw [e2]
  unfold dropB totalB
  simp only [List.map_append, List.sum_append, List.map_cons, List.sum_cons]
  omega
end Go.Ev.W
namespace Go.Ev.W
open Go.Ev Go.Ev.N

theorem findB_lt {l : List Bk} {y : Int} {i : Nat} (h : findB l y = some i) : ∃ hi : i < l.length, l[i].a = y := by
  unfold findB at h
  rw [List.findIdx?_eq_some_iff_getElem] at h
  obtain ⟨h1, h2, _⟩ := h
  exact ⟨h1, of_decide_eq_true h2⟩

theorem giveG_ok {m : Mo} (hm : MoOk m) (ce : Nat × Nat) (q : Int) (f : Mo × Int × Nat → Mo) (hf : ∀ p : Mo × Int × Nat, MoOk p.1 → p.1.c = m.c → MoOk (f p) ∧ (f p).c = m.c) (h : ce.2 = 0 → (∃ k, k ≤ m.c.L ∧ ce.1 = m.c.G * 2 ^ k) ∧ 0 ≤ q ∧ q ≤ ce.1 ∧ m.live + ce.1 ≤ m.c.M) :
    MoOk (if ce.2 ≠ 0 then (m, anE ce.2) else if (placeF m m.bs ce.1 q).2.2 ≠ 0 then (m, anE (placeF m m.bs ce.1 q).2.2) else (f (placeF m m.bs ce.1 q), { an0 with at' := (placeF m m.bs ce.1 q).2.1 })).1 ∧
    (if ce.2 ≠ 0 then (m, anE ce.2) else if (placeF m m.bs ce.1 q).2.2 ≠ 0 then (m, anE (placeF m m.bs ce.1 q).2.2) else (f (placeF m m.bs ce.1 q), { an0 with at' := (placeF m m.bs ce.1 q).2.1 })).1.c = m.c := by
  by_cases h1 : ce.2 = 0
  · rw [if_neg (by simpa using h1)]
    obtain ⟨a1, a2, a3, a4⟩ := h h1
    by_cases h2 : (placeF m m.bs ce.1 q).2.2 = 0
    · rw [if_neg (by simpa using h2)]
      have hput := placeF_ok hm hm.a hm.z a1 ⟨a2, a3⟩ (by rw [← hm.l]; exact a4) hm.k.1 h2
      exact hf _ hput.ok hput.c
    · rw [if_pos h2]; exact ⟨hm, rfl⟩
  · rw [if_pos h1]; exact ⟨hm, rfl⟩
theorem doF_ok {m : Mo} (hm : MoOk m) {o : X.O} (ho : OpOk o) : MoOk (doF m o).1 ∧ (doF m o).1.c = m.c := by
  have hkeep : MoOk m ∧ m.c = m.c := ⟨hm, rfl⟩
  have hmm := hm.mm
  have htb := totalB_nonneg hm.a
  unfold doF
  split
  · unfold giveF
    simp only
    by_cases h2 : o.k = 2
    · simp only [if_pos h2]
      refine giveG_ok hm (manyF m.c m.live o.n o.s) (o.n * o.s) (fun p => { p.1 with mem := zeroF p.1.mem p.2.1.toNat (manyF m.c m.live o.n o.s).1 }) (fun p hok hc => ⟨⟨hok.c, hok.a, hok.z, hok.l, hok.lM, hok.p, hok.k, hok.o, hok.on, ?_, zeroF_b hok.b _ _⟩, hc⟩) fun h => ?_
      · rw [zeroF_len]; exact hok.mm
      · have := manyF_ok hm.c h
        exact ⟨this.1, this.2.1, this.2.2.1, this.2.2.2.1⟩
    · simp only [if_neg h2]
      refine giveG_ok hm (newF m.c m.live o.s (if o.k = 3 then o.a else 1)) o.s (fun p => p.1) (fun p hok hc => ⟨hok, hc⟩) fun h => ?_
      have := newF_ok hm.c h
      exact ⟨this.1, this.2.1, this.2.2.1, this.2.2.2⟩
  · split
    · refine ⟨⟨hm.c, hm.a, hm.z, hm.l, hm.lM, hm.p, hm.k, ?_, ?_, hm.mm, hm.b⟩, rfl⟩
      · simp only [trimF, List.length_map, List.length_range]; exact hm.o
      · have h := hm.on
        refine Nat.le_trans ?_ h
        have e : m.on = (List.range m.on.length).map fun i => m.on.getD i false := by
          refine List.ext_getElem (by simp) fun i h1 h2 => ?_
          simp [List.getD_eq_getElem?_getD, h1]
        conv => rhs; rw [e]
        exact cnt_mono fun i hi => by rw [Bool.and_eq_true] at hi; exact hi.1
    · split
      · exact hkeep
      · split
        · split
          · exact hkeep
          · rename_i hk i hf
            obtain ⟨hi, _⟩ := findB_lt hf
            have hg : m.bs.getD i bk0 = m.bs[i] := by simp [List.getD_eq_getElem?_getD, hi]
            have hdt := dropB_tot hi
            have hds := dropB_sub m.bs i
            have hb := hm.a.b _ (List.getElem_mem hi)
            unfold ofB
            rw [hg]
            simp only
            split
            · split
              · exact hkeep
              · rename_i h1
                have h1 := Decidable.of_not_not h1
                have hn := newF_ok hm.c h1
                split
                · exact hkeep
                · rename_i h2
                  have h2 := Decidable.of_not_not h2
                  have had := hm.a.sub hds
                  have hput : Put m (dropB m.bs i) _ _ _ _ := placeF_ok hm had (fun x hx => hm.z x (hds.subset hx)) hn.1 ⟨hn.2.1, hn.2.2.1⟩ (by rw [hdt, ← hm.l]; exact hn.2.2.2) (fun x hx => hm.k.1 x (hds.subset hx)) h2
                  have hok := hput.ok
                  have hy := hput.y0
                  have hyH := hput.yH
                  have hml := hput.ml
                  generalize placeF m (dropB m.bs i) (newF m.c (m.live - m.bs[i].c) o.s 1).1 o.s = p at *
                  generalize (newF m.c (m.live - m.bs[i].c) o.s 1).1 = ch at *
                  refine ⟨⟨hok.c, hok.a, hok.z, hok.l, hok.lM, hok.p, hok.k, hok.o, hok.on, ?_, ?_⟩, hput.c⟩
                  · simp only [List.length_append, List.length_take, List.length_drop]
                    rw [hput.c]
                    omega
                  · intro x hx
                    simp only [List.mem_append] at hx
                    rcases hx with (hx | hx) | hx
                    · exact hok.b x (List.mem_of_mem_take hx)
                    · exact hm.b x (List.mem_of_mem_take (List.mem_of_mem_drop hx))
                    · exact hok.b x (List.mem_of_mem_drop hx)
            · split
              · have had := hm.a.sub hds
                have hdn := totalB_nonneg had
                have hl := hm.l
                have hlM := hm.lM
                have hp := hm.p
                refine ⟨⟨hm.c, had, fun x hx => hm.z x (hds.subset hx), by rw [hdt, ← hl], by simp only; omega, by simp only; omega, ⟨fun x hx => hm.k.1 x (hds.subset hx), hm.k.2⟩, hm.o, hm.on, hm.mm, hm.b⟩, rfl⟩
              · split
                · exact hkeep
                · split
                  · exact hkeep
                  · split
                    · exact hkeep
                    · refine ⟨⟨hm.c, hm.a, hm.z, hm.l, hm.lM, hm.p, hm.k, hm.o, hm.on, by rw [List.length_set]; exact hm.mm, fun x hx => ?_⟩, rfl⟩
                      have hob := ho.b
                      rcases List.mem_or_eq_of_mem_set hx with hx | rfl
                      · exact hm.b x hx
                      · omega
        · exact hkeep
end Go.Ev.W
namespace Go.Ev.W
open Go.Ev Go.Ev.N

/-- How much of a block lies in so much. -/
def inter (b : Bk) (z n : Int) : Int := max 0 (min (b.a + b.c) (z + n) - max b.a z)
def load (l : List Bk) (n t : Nat) : Int := (l.map fun b => inter b (t * n : Nat) n).sum
def sumT (f : Nat → Int) : Nat → Int
  | 0 => 0
  | t + 1 => sumT f t + f t
theorem sumT_add (f g : Nat → Int) : ∀ t, sumT (fun i => f i + g i) t = sumT f t + sumT g t
  | 0 => rfl
  | t + 1 => by show sumT _ t + (f t + g t) = (sumT f t + f t) + (sumT g t + g t); rw [sumT_add f g t]; omega
theorem sumT_zero : ∀ t, sumT (fun _ => 0) t = 0
  | 0 => rfl
  | t + 1 => by show sumT _ t + 0 = 0; rw [sumT_zero t]; rfl
theorem sumT_inter {b : Bk} (ha : 0 ≤ b.a) (hc : 1 ≤ b.c) (n : Nat) : ∀ t, sumT (fun i => inter b (i * n : Nat) n) t = max 0 (min (b.a + b.c) (t * n : Nat) - b.a)
  | 0 => by show (0 : Int) = _; rw [Nat.zero_mul]; omega
  | t + 1 => by
    show sumT _ t + inter b (t * n : Nat) n = _
    rw [sumT_inter ha hc n t, Nat.add_mul, Nat.one_mul]
    unfold inter
    generalize t * n = z
    omega
theorem load_cons (b : Bk) (l : List Bk) (n t : Nat) : load (b :: l) n t = inter b (t * n : Nat) n + load l n t := by simp [load]
theorem inter_nonneg (b : Bk) (z n : Int) : 0 ≤ inter b z n := by unfold inter; omega
theorem load_nonneg (n t : Nat) : ∀ l, 0 ≤ load l n t
  | [] => by simp [load]
  | b :: l => by have := load_nonneg n t l; have := inter_nonneg b (t * n : Nat) n; rw [load_cons]; omega
theorem load_ge {b : Bk} {n t : Nat} : ∀ {l}, b ∈ l → inter b (t * n : Nat) n ≤ load l n t
  | [], h => by simp at h
  | x :: l, h => by
    rw [load_cons]
    rcases List.mem_cons.1 h with rfl | h
    · have := load_nonneg n t l; omega
    · have := load_ge (n := n) (t := t) h; have := inter_nonneg x (t * n : Nat) n; omega
theorem sum_load (n t : Nat) : ∀ {l : List Bk}, (∀ x ∈ l, 0 ≤ x.a ∧ 1 ≤ x.c) → sumT (load l n) t ≤ totalB l
  | [], _ => by
    have : sumT (load [] n) t = 0 := sumT_zero t
    rw [this]; simp [totalB]
  | b :: l, h => by
    have ih := sum_load n t (l := l) fun x hx => h x (by simp [hx])
    have hb := h b (by simp)
    have e1 : sumT (load (b :: l) n) t = sumT (fun i => inter b (i * n : Nat) n) t + sumT (load l n) t := by
      rw [← sumT_add]
      exact congrArg (fun f => sumT f t) (funext fun i => load_cons b l n i)
    have e2 : totalB (b :: l) = b.c + totalB l := by simp only [totalB, List.map_cons, List.sum_cons]
    rw [e1, e2, sumT_inter hb.1 hb.2]
    omega
theorem sumT_ge {f : Nat → Int} {c : Int} (a : Nat) : ∀ u, (∀ t, a ≤ t → t < a + u → c ≤ f t) → sumT f a + u * c ≤ sumT f (a + u)
  | 0, _ => by simp
  | u + 1, h => by
    have ih := sumT_ge a u fun t h1 h2 => h t h1 (by omega)
    have := h (a + u) (by omega) (by omega)
    show _ ≤ sumT f (a + u) + f (a + u)
    have e : ((u + 1 : Nat) : Int) * c = u * c + c := by rw [Int.natCast_add, Int.add_mul]; omega
    rw [e]; omega
/-- Blocks of a class end at its ceiling or ahead of it. -/
def WiB (c : Cf) (x : Bk) : Prop := ∀ k : Nat, x.c = ((c.G * 2 ^ k : Nat) : Int) → x.a + x.c ≤ ((c.M + k * (c.M / 2) : Nat) : Int)
/-- What is met is filled, as far as the class of what meets it. -/
theorem met_load {c : Cf} (hc : c.Ok) {x : Bk} (hx : SzB c x) {k i t : Nat} (hw : WiB c x) (hi : i ≤ k) (hlo : i = 0 ∨ c.M + (i - 1) * (c.M / 2) ≤ t * (c.G * 2 ^ k)) (ha : 0 ≤ x.a) (hm : ((t * (c.G * 2 ^ k) : Nat) : Int) < x.a + x.c ∧ x.a < ((t * (c.G * 2 ^ k) : Nat) : Int) + ((c.G * 2 ^ k : Nat) : Int)) :
    ((c.G * 2 ^ i : Nat) : Int) ≤ inter x (t * (c.G * 2 ^ k) : Nat) (c.G * 2 ^ k : Nat) := by
  obtain ⟨j, hj, hj2, hj3, _⟩ := hx
  have hg := hc.gpos
  have hij : i ≤ j := by
    rcases hlo with h0 | h0
    · omega
    · apply Decidable.byContradiction
      intro hlt
      have h1 := hw j hj2
      have h2 : j * (c.M / 2) ≤ (i - 1) * (c.M / 2) := Nat.mul_le_mul_right _ (by omega)
      omega
  have hs : c.G * 2 ^ i ≤ c.G * 2 ^ j := Nat.mul_le_mul_left _ (Nat.pow_le_pow_right (by omega) hij)
  have hs2 : c.G * 2 ^ i ≤ c.G * 2 ^ k := Nat.mul_le_mul_left _ (Nat.pow_le_pow_right (by omega) hi)
  obtain ⟨v, hv⟩ := Int.dvd_of_emod_eq_zero hj3
  have hp1 : 1 ≤ c.G * 2 ^ j := Nat.mul_pos (by omega) (Nat.two_pow_pos _)
  have hv0 : 0 ≤ v := by
    rcases Int.lt_or_le v 0 with h' | h'
    · have : x.c * v ≤ x.c * (-1) := Int.mul_le_mul_of_nonneg_left (by omega) (by omega)
      omega
    · exact h'
  obtain ⟨v, rfl⟩ : ∃ n : Nat, v = n := ⟨v.toNat, by omega⟩
  have hA : x.a = ((v * (c.G * 2 ^ j) : Nat) : Int) := by rw [hv, hj2, ← Int.natCast_mul, Nat.mul_comm]
  unfold inter
  rw [hA, hj2] at hm ⊢
  rcases Nat.le_total j k with hjk | hjk
  · -- the block lies within
    have hq : c.G * 2 ^ k = c.G * 2 ^ j * 2 ^ (k - j) := by rw [Nat.mul_assoc, ← Nat.pow_add]; congr 2; omega
    have hq1 : 1 ≤ 2 ^ (k - j) := Nat.one_le_two_pow
    generalize 2 ^ (k - j) = w at *
    have e1 : t * (c.G * 2 ^ k) = t * w * (c.G * 2 ^ j) := by rw [hq, Nat.mul_comm (c.G * 2 ^ j) w, Nat.mul_assoc]
    have e2 : t * (c.G * 2 ^ k) + c.G * 2 ^ k = (t * w + w) * (c.G * 2 ^ j) := by rw [Nat.add_mul, ← e1, hq, Nat.mul_comm w]
    have l1 : t * w ≤ v := by
      have : t * w * (c.G * 2 ^ j) < (v + 1) * (c.G * 2 ^ j) := by rw [← e1, Nat.add_mul, Nat.one_mul]; omega
      have := Nat.lt_of_mul_lt_mul_right this
      omega
    have l2 : v + 1 ≤ t * w + w := by
      have : v * (c.G * 2 ^ j) < (t * w + w) * (c.G * 2 ^ j) := by rw [← e2]; omega
      have := Nat.lt_of_mul_lt_mul_right this
      omega
    have l3 : t * w * (c.G * 2 ^ j) ≤ v * (c.G * 2 ^ j) := Nat.mul_le_mul_right _ l1
    have l4 : (v + 1) * (c.G * 2 ^ j) ≤ (t * w + w) * (c.G * 2 ^ j) := Nat.mul_le_mul_right _ l2
    rw [← e1] at l3
    rw [← e2, Nat.add_mul, Nat.one_mul] at l4
    omega
  · have hq : c.G * 2 ^ j = c.G * 2 ^ k * 2 ^ (j - k) := by rw [Nat.mul_assoc, ← Nat.pow_add]; congr 2; omega
    generalize 2 ^ (j - k) = w at *
    have e1 : v * (c.G * 2 ^ j) = v * w * (c.G * 2 ^ k) := by rw [hq, Nat.mul_comm (c.G * 2 ^ k) w, Nat.mul_assoc]
    have e2 : v * (c.G * 2 ^ j) + c.G * 2 ^ j = (v * w + w) * (c.G * 2 ^ k) := by rw [Nat.add_mul, ← e1, hq, Nat.mul_comm w]
    have l1 : v * w ≤ t := by
      have : v * w * (c.G * 2 ^ k) < (t + 1) * (c.G * 2 ^ k) := by rw [← e1, Nat.add_mul, Nat.one_mul]; omega
      have := Nat.lt_of_mul_lt_mul_right this
      omega
    have l2 : t + 1 ≤ v * w + w := by
      have : t * (c.G * 2 ^ k) < (v * w + w) * (c.G * 2 ^ k) := by rw [← e2]; omega
      have := Nat.lt_of_mul_lt_mul_right this
      omega
    have l3 : v * w * (c.G * 2 ^ k) ≤ t * (c.G * 2 ^ k) := Nat.mul_le_mul_right _ l1
    have l4 : (t + 1) * (c.G * 2 ^ k) ≤ (v * w + w) * (c.G * 2 ^ k) := Nat.mul_le_mul_right _ l2
    rw [← e1] at l3
    rw [← e2, Nat.add_mul, Nat.one_mul] at l4
    omega
theorem Cf.Ok.half {c : Cf} (hc : c.Ok) {k : Nat} (hk : k ≤ c.L) : ∃ u, 1 ≤ u ∧ c.M / 2 = u * (c.G * 2 ^ k) ∧ c.M = 2 * u * (c.G * 2 ^ k) := by
  obtain ⟨q, hq⟩ := hc.m
  have hn := hc.n
  obtain ⟨e, he⟩ := hc.p
  have hm1 := hc.m1
  have hd : ∃ r, max c.N c.Pg = r * (c.G * 2 ^ k) := by
    rcases Nat.le_total c.Pg c.N with h1 | h1
    · rw [Nat.max_eq_left h1, hn]
      exact ⟨2 ^ (c.L - k), by rw [Nat.mul_left_comm, ← Nat.pow_add]; congr 2; omega⟩
    · rw [Nat.max_eq_right h1, he]
      rw [hn, he] at h1
      have h2 := Nat.le_of_mul_le_mul_left h1 (by have := hc.gpos; omega)
      have h3 := (Nat.pow_le_pow_iff_right (by omega : 1 < 2)).1 h2
      exact ⟨2 ^ (e - k), by rw [Nat.mul_left_comm, ← Nat.pow_add]; congr 2; omega⟩
  obtain ⟨r, hr⟩ := hd
  have e1 : c.M = 2 * (q * r) * (c.G * 2 ^ k) := by rw [hq, hr]; simp only [Nat.mul_assoc, Nat.mul_comm, Nat.mul_left_comm]
  refine ⟨q * r, ?_, ?_, e1⟩
  · rcases Nat.eq_zero_or_pos (q * r) with h | h
    · rw [h] at e1; omega
    · exact h
  · rw [e1, Nat.mul_assoc 2]; omega
/-- A place is free as long as sums say so, no higher than a class's ceiling. -/
theorem some_free' {c : Cf} (hc : c.Ok) {l : List Bk} (hl : ∀ x ∈ l, 0 ≤ x.a ∧ 1 ≤ x.c) (hz : ∀ x ∈ l, SzB c x) (hw : ∀ x ∈ l, WiB c x) {k : Nat} (hk : k ≤ c.L) (ht : totalB l < c.M) :
    ∃ t, t * (c.G * 2 ^ k) + c.G * 2 ^ k ≤ c.M + k * (c.M / 2) ∧ freeAt l (c.G * 2 ^ k : Nat) ((t * (c.G * 2 ^ k) : Nat) : Int) = true := by
  apply Classical.byContradiction
  intro hno
  obtain ⟨u, hu, hM2, hM⟩ := hc.half hk
  have hg := hc.gpos
  have hn1 : 1 ≤ c.G * 2 ^ k := Nat.mul_pos (by omega) (Nat.two_pow_pos _)
  have met : ∀ t, t * (c.G * 2 ^ k) + c.G * 2 ^ k ≤ c.M + k * (c.M / 2) → ∀ i, i ≤ k → (i = 0 ∨ c.M + (i - 1) * (c.M / 2) ≤ t * (c.G * 2 ^ k)) → ((c.G * 2 ^ i : Nat) : Int) ≤ load l (c.G * 2 ^ k) t := by
    intro t h1 i hi hlo
    have hf : ¬ freeAt l (c.G * 2 ^ k : Nat) ((t * (c.G * 2 ^ k) : Nat) : Int) = true := fun q => hno ⟨t, h1, q⟩
    rw [freeAt_iff] at hf
    obtain ⟨x, hf⟩ := Classical.not_forall.1 hf
    obtain ⟨hx, hf⟩ := Classical.not_forall.1 hf
    have hf := Decidable.of_not_not hf
    exact Int.le_trans (met_load hc (hz x hx) (hw x hx) hi hlo (hl x hx).1 hf) (load_ge hx)
  have step : ∀ i, i ≤ k → ((u * (c.G * 2 ^ (i + 1)) : Nat) : Int) ≤ sumT (load l (c.G * 2 ^ k)) (2 * u + i * u) := by
    intro i
    induction i with
    | zero =>
      intro _
      have := sumT_ge (f := load l (c.G * 2 ^ k)) (c := ((c.G * 2 ^ 0 : Nat) : Int)) 0 (2 * u) fun t _ h2 => met t (by
        have : (t + 1) * (c.G * 2 ^ k) ≤ 2 * u * (c.G * 2 ^ k) := Nat.mul_le_mul_right _ (by omega)
        rw [Nat.add_mul, Nat.one_mul] at this
        omega) 0 (by omega) (.inl rfl)
      have e0 : sumT (load l (c.G * 2 ^ k)) 0 = 0 := rfl
      rw [e0] at this
      have e1 : ((u * (c.G * 2 ^ (0 + 1)) : Nat) : Int) = ((2 * u : Nat) : Int) * ((c.G * 2 ^ 0 : Nat) : Int) := by
        rw [← Int.natCast_mul]; congr 1; simp only [Nat.pow_zero, Nat.zero_add, Nat.pow_one, Nat.mul_one]; rw [Nat.mul_comm c.G 2, ← Nat.mul_assoc, Nat.mul_comm u 2]
      rw [e1]
      simpa using this
    | succ i ih =>
      intro hik
      have h1 := ih (by omega)
      have := sumT_ge (f := load l (c.G * 2 ^ k)) (c := ((c.G * 2 ^ (i + 1) : Nat) : Int)) (2 * u + i * u) u fun t h2 h3 => met t (by
        have a1 : (t + 1) * (c.G * 2 ^ k) ≤ (2 * u + k * u) * (c.G * 2 ^ k) := Nat.mul_le_mul_right _ (by
          have : (i + 1) * u ≤ k * u := Nat.mul_le_mul_right _ hik
          rw [Nat.add_mul, Nat.one_mul] at this
          omega)
        rw [Nat.add_mul, Nat.one_mul, Nat.add_mul, ← hM, Nat.mul_assoc k u, ← hM2] at a1
        exact a1) (i + 1) hik (.inr (by
        have a2 : (2 * u + i * u) * (c.G * 2 ^ k) ≤ t * (c.G * 2 ^ k) := Nat.mul_le_mul_right _ h2
        rw [Nat.add_mul, ← hM, Nat.mul_assoc i u, ← hM2] at a2
        exact a2))
      have e1 : ((u * (c.G * 2 ^ (i + 1 + 1)) : Nat) : Int) = ((u * (c.G * 2 ^ (i + 1)) : Nat) : Int) + (u : Int) * ((c.G * 2 ^ (i + 1) : Nat) : Int) := by
        rw [← Int.natCast_mul, ← Int.natCast_add]
        congr 1
        rw [Nat.pow_succ 2 (i + 1), ← Nat.mul_assoc c.G, ← Nat.mul_assoc u]; omega
      have e2 : 2 * u + (i + 1) * u = 2 * u + i * u + u := by rw [Nat.add_mul, Nat.one_mul]; omega
      rw [e1, e2]
      omega
  have h1 := step k (Nat.le_refl _)
  have h2 := sum_load (c.G * 2 ^ k) (2 * u + k * u) hl
  have e : u * (c.G * 2 ^ (k + 1)) = c.M := by rw [hM, Nat.pow_succ, ← Nat.mul_assoc c.G]; rw [Nat.mul_comm 2 u, Nat.mul_assoc u, Nat.mul_comm 2]
  rw [e] at h1
  omega
end Go.Ev.W
namespace Go.Ev.W
open Go.Ev Go.Ev.N

theorem lowGo_hit {l : List Bk} {n : Nat} : ∀ (f k t : Nat), k ≤ t → t < k + f → freeAt l n ((t * n : Nat) : Int) = true → (lowGo l n f k).2 = true ∧ (lowGo l n f k).1 ≤ t * n
  | 0, k, t, h1, h2, _ => by omega
  | f + 1, k, t, h1, h2, h => by
    unfold lowGo
    by_cases h3 : freeAt l n (k * n : Nat) = true
    · rw [if_pos h3]
      exact ⟨rfl, Nat.mul_le_mul_right _ h1⟩
    · rw [if_neg h3]
      have : k ≠ t := fun e => h3 (by rw [e]; exact h)
      exact lowGo_hit f (k + 1) t (by omega) (by omega) h
theorem ceil_le {c : Cf} (hc : c.Ok) {k : Nat} (hk : k ≤ c.L) : c.M + k * (c.M / 2) ≤ c.H := by
  rw [hc.h]
  have := Nat.mul_le_mul_right (c.M / 2) hk
  omega
/-- There is always a place, and not too high. -/
theorem low_some {c : Cf} (hc : c.Ok) {l : List Bk} (ha : ApB c.H l) (hz : ∀ x ∈ l, SzB c x) (hw : ∀ x ∈ l, WiB c x) {k : Nat} (hk : k ≤ c.L) (ht : totalB l < c.M) :
    (lowF c l (c.G * 2 ^ k)).2 = true ∧ (lowF c l (c.G * 2 ^ k)).1 + c.G * 2 ^ k ≤ c.M + k * (c.M / 2) := by
  obtain ⟨t, h1, h2⟩ := some_free' hc (fun x hx => ⟨(ha.b x hx).1, (ha.b x hx).2.1⟩) hz hw hk ht
  have hn1 : 1 ≤ c.G * 2 ^ k := Nat.mul_pos (by have := hc.gpos; omega) (Nat.two_pow_pos _)
  have hH := ceil_le hc hk
  have htl : t < 0 + c.H / (c.G * 2 ^ k) := by
    have : (t + 1) * (c.G * 2 ^ k) ≤ c.H := by rw [Nat.add_mul, Nat.one_mul]; omega
    have := (Nat.le_div_iff_mul_le (by omega)).2 this
    omega
  have := lowGo_hit (l := l) (n := c.G * 2 ^ k) (c.H / (c.G * 2 ^ k)) 0 t (by omega) htl h2
  unfold lowF
  exact ⟨this.1, by omega⟩
def WiL (c : Cf) (l : List Bk) : Prop := ∀ x ∈ l, WiB c x
theorem wi_put {m : Mo} (hm : MoOk m) {l : List Bk} (ha : ApB m.c.H l) (hz : ∀ x ∈ l, SzB m.c x) (hw : WiL m.c l) {n : Nat} (hn : ∃ k, k ≤ m.c.L ∧ n = m.c.G * 2 ^ k) (q : Int) (ht : totalB l + n ≤ m.c.M) :
    (placeF m l n q).2.2 ≠ 7 ∧ ((placeF m l n q).2.2 = 0 → WiL m.c (placeF m l n q).1.bs) := by
  obtain ⟨k, hk, rfl⟩ := hn
  have hg := hm.c.gpos
  have hn1 : 1 ≤ m.c.G * 2 ^ k := Nat.mul_pos (by omega) (Nat.two_pow_pos _)
  obtain ⟨h1, h2⟩ := low_some hm.c ha hz hw hk (by omega)
  obtain ⟨j, e1, e2, e3, _⟩ := lowF_spec (c := m.c) (l := l) hn1 h1
  unfold placeF
  simp only
  rw [if_neg (by rw [h1]; simp)]
  split
  · exact ⟨by simp, fun h => by simp at h⟩
  · refine ⟨by simp, fun _ x hx => ?_⟩
    have hp := putB_ok ha (b := ⟨(lowF m.c l (m.c.G * 2 ^ k)).1, (m.c.G * 2 ^ k : Nat), q⟩) e3 ⟨by simp only; omega, by simp only; omega, by simp only; omega⟩
    rcases (hp.2.1 x).1 hx with rfl | hx
    · intro i hi
      have hi : m.c.G * 2 ^ k = m.c.G * 2 ^ i := Int.ofNat.inj hi
      have : k = i := by
        have := Nat.eq_of_mul_eq_mul_left (by omega) hi
        exact (Nat.pow_right_inj (by omega)).1 this
      subst this
      simp only
      omega
    · exact hw x hx
end Go.Ev.W
namespace Go.Ev.W
open Go.Ev Go.Ev.N

abbrev u64 (n : Nat) : AV := .int .u64 (n : Int)
/-- A number of so many bits. -/
def wB : Nat → (Nat → Bool) → Nat
  | 0, _ => 0
  | n + 1, f => 2 ^ n * (f n).toNat + wB n f
theorem wB_lt : ∀ (n : Nat) (f : Nat → Bool), wB n f < 2 ^ n
  | 0, _ => by simp [wB]
  | n + 1, f => by
    have := wB_lt n f
    unfold wB
    rw [Nat.pow_succ]
    cases f n <;> simp <;> omega
theorem wB_bit : ∀ (n : Nat) (f : Nat → Bool) (j : Nat), (wB n f).testBit j = (decide (j < n) && f j)
  | 0, f, j => by simp [wB]
  | n + 1, f, j => by
    have hl := wB_lt n f
    have ih := wB_bit n f
    unfold wB
    cases hf : f n with
    | false =>
      simp only [Bool.toNat_false, Nat.mul_zero, Nat.zero_add]
      rw [ih j]
      by_cases hj : j = n
      · subst hj; simp [hf]
      · have : decide (j < n + 1) = decide (j < n) := decide_eq_decide.2 (by omega)
        rw [this]
    | true =>
      simp only [Bool.toNat_true, Nat.mul_one]
      rcases Nat.lt_trichotomy j n with h | h | h
      · rw [Nat.testBit_two_pow_add_gt h, ih j, decide_eq_true h, decide_eq_true (show j < n + 1 by omega)]
      · subst h
        rw [Nat.testBit_two_pow_add_eq, ih j]; simp [hf]
      · have h2 : 2 ^ n + wB n f < 2 ^ j := by
          have : 2 ^ (n + 1) ≤ 2 ^ j := Nat.pow_le_pow_right (by omega) (by omega)
          rw [Nat.pow_succ] at this
          omega
        rw [Nat.testBit_lt_two_pow h2, decide_eq_false (by omega)]; rfl
theorem wB_congr {n : Nat} {f g : Nat → Bool} (h : ∀ j, j < n → f j = g j) : wB n f = wB n g := by
  apply Nat.eq_of_testBit_eq
  intro j
  rw [wB_bit, wB_bit]
  by_cases hj : j < n
  · rw [h j hj]
  · rw [decide_eq_false hj]; rfl
-- operations on words
theorem b64 {x : Nat} (h : x < 2 ^ 64) : BitVec.ofInt 64 (x : Int) = BitVec.ofNat 64 x := BitVec.ofInt_natCast 64 x
theorem and64 {x y : Nat} (hx : x < 2 ^ 64) (hy : y < 2 ^ 64) : bitsOp .and .u64 (x : Int) (y : Int) = ((x &&& y : Nat) : Int) := by
  have h0 : x &&& y < 2 ^ 64 := Nat.and_lt_two_pow (n := 64) x hy
  have e : (BitVec.ofInt 64 (x : Int) &&& BitVec.ofInt 64 (y : Int)).toNat = x &&& y := by
    rw [BitVec.toNat_and, b64 hx, b64 hy, BitVec.toNat_ofNat, BitVec.toNat_ofNat, Nat.mod_eq_of_lt hx, Nat.mod_eq_of_lt hy]
  show IntKind.u64.wrap ((BitVec.ofInt 64 (x : Int) &&& BitVec.ofInt 64 (y : Int)).toNat : Int) = _
  rw [e]
  exact wrapU64 (by omega) (by omega)
theorem or64 {x y : Nat} (hx : x < 2 ^ 64) (hy : y < 2 ^ 64) : bitsOp .or .u64 (x : Int) (y : Int) = ((x ||| y : Nat) : Int) := by
  have h0 : x ||| y < 2 ^ 64 := Nat.or_lt_two_pow hx hy
  have e : (BitVec.ofInt 64 (x : Int) ||| BitVec.ofInt 64 (y : Int)).toNat = x ||| y := by
    rw [BitVec.toNat_or, b64 hx, b64 hy, BitVec.toNat_ofNat, BitVec.toNat_ofNat, Nat.mod_eq_of_lt hx, Nat.mod_eq_of_lt hy]
  show IntKind.u64.wrap ((BitVec.ofInt 64 (x : Int) ||| BitVec.ofInt 64 (y : Int)).toNat : Int) = _
  rw [e]
  exact wrapU64 (by omega) (by omega)
theorem andn64 {x y : Nat} (hx : x < 2 ^ 64) (hy : y < 2 ^ 64) : bitsOp .andNot .u64 (x : Int) (y : Int) = ((wB 64 fun j => x.testBit j && !y.testBit j : Nat) : Int) := by
  have h0 := wB_lt 64 fun j => x.testBit j && !y.testBit j
  have e : (BitVec.ofInt 64 (x : Int) &&& ~~~(BitVec.ofInt 64 (y : Int))).toNat = wB 64 fun j => x.testBit j && !y.testBit j := by
    apply Nat.eq_of_testBit_eq
    intro j
    rw [wB_bit, b64 hx, b64 hy, BitVec.testBit_toNat, BitVec.getLsbD_and, BitVec.getLsbD_not, BitVec.getLsbD_ofNat, BitVec.getLsbD_ofNat]
    by_cases hj : j < 64 <;> simp [hj]
  show IntKind.u64.wrap ((BitVec.ofInt 64 (x : Int) &&& ~~~(BitVec.ofInt 64 (y : Int))).toNat : Int) = _
  rw [e]
  exact wrapU64 (by omega) (by omega)
theorem not64 {x : Nat} (hx : x < 2 ^ 64) : bitsOp .xor .u64 18446744073709551615 (x : Int) = ((wB 64 fun j => !x.testBit j : Nat) : Int) := by
  have h0 := wB_lt 64 fun j => !x.testBit j
  have e : (BitVec.ofInt 64 (18446744073709551615 : Int) ^^^ BitVec.ofInt 64 (x : Int)).toNat = wB 64 fun j => !x.testBit j := by
    apply Nat.eq_of_testBit_eq
    intro j
    have hm : BitVec.ofInt 64 (18446744073709551615 : Int) = BitVec.allOnes 64 := by decide
    rw [wB_bit, b64 hx, hm, BitVec.testBit_toNat, BitVec.getLsbD_xor, BitVec.getLsbD_allOnes, BitVec.getLsbD_ofNat]
    by_cases hj : j < 64 <;> simp [hj]
  show IntKind.u64.wrap ((BitVec.ofInt 64 (18446744073709551615 : Int) ^^^ BitVec.ofInt 64 (x : Int)).toNat : Int) = _
  rw [e]
  exact wrapU64 (by omega) (by omega)
/-- The lowest bit that is set; 64: none. -/
def lowW (f : Nat → Bool) : Nat := (List.range 64).findIdx f
theorem lowW_eq {f : Nat → Bool} {n : Nat} (hn : n < 64) (h1 : f n = true) (h2 : ∀ j, j < n → f j = false) : lowW f = n := by
  unfold lowW
  rw [List.findIdx_eq (by simpa using hn)]
  exact ⟨by simpa using h1, fun j hj => by simpa using h2 j hj⟩
theorem lowW_none {f : Nat → Bool} (h : ∀ j, j < 64 → f j = false) : lowW f = 64 := by
  unfold lowW
  have : (List.range 64).findIdx f = (List.range 64).length := List.findIdx_eq_length.2 fun x hx => by simpa using h x (by simpa using hx)
  rw [this]; simp
theorem lowW_spec (f : Nat → Bool) : (lowW f = 64 ∧ ∀ j, j < 64 → f j = false) ∨ (lowW f < 64 ∧ f (lowW f) = true ∧ ∀ j, j < lowW f → f j = false) := by
  by_cases h : ∃ j, j < 64 ∧ f j = true
  · right
    have hlt : (List.range 64).findIdx f < (List.range 64).length := List.findIdx_lt_length_of_exists (by obtain ⟨j, h1, h2⟩ := h; exact ⟨j, by simpa using h1, h2⟩)
    have h64 : lowW f < 64 := by simpa [lowW] using hlt
    refine ⟨h64, ?_, fun j hj => ?_⟩
    · have := List.findIdx_getElem (p := f) (xs := List.range 64) (w := hlt)
      simpa [lowW] using this
    · have := List.not_of_lt_findIdx (p := f) (xs := List.range 64) (i := j) hj
      simpa using this
  · left
    have h : ∀ j, j < 64 → f j = false := fun j hj => by
      cases hf : f j with
      | false => rfl
      | true => exact absurd ⟨j, hj, hf⟩ h
    exact ⟨lowW_none h, h⟩
theorem low_eq {u n : Nat} (hn : n < 64) (h1 : u % 2 ^ n = 0) (h2 : (u / 2 ^ n) % 2 = 1) : lowW u.testBit = n := by
  refine lowW_eq hn ?_ fun j hj => ?_
  · rw [Nat.testBit_eq_decide_div_mod_eq, h2]; rfl
  · obtain ⟨q, hq⟩ := Nat.dvd_of_mod_eq_zero h1
    rw [Nat.testBit_eq_decide_div_mod_eq, hq, show n = j + (1 + (n - j - 1)) by omega, Nat.pow_add, Nat.pow_add, Nat.mul_assoc, Nat.mul_div_cancel_left _ (Nat.two_pow_pos j), Nat.pow_one, Nat.mul_assoc]
    simp
structure LowI (u0 k u n : Nat) : Prop where
  eq : u = u0 / 2 ^ n
  z : u0 % 2 ^ n = 0
  m : u % 2 ^ k ≠ 0
  le : n + k ≤ 64
theorem LowI.step {u0 k u n : Nat} (h : LowI u0 (k + k) u n) : LowI u0 k (if u % 2 ^ k = 0 then u / 2 ^ k else u) (if u % 2 ^ k = 0 then n + k else n) := by
  obtain ⟨h1, h2, h3, h4⟩ := h
  split
  · rename_i hz
    obtain ⟨q, hq⟩ := Nat.dvd_of_mod_eq_zero hz
    obtain ⟨p, hp⟩ := Nat.dvd_of_mod_eq_zero h2
    have hpu : p = u := by rw [h1, hp, Nat.mul_div_cancel_left _ (Nat.two_pow_pos n)]
    refine ⟨?_, ?_, ?_, by omega⟩
    · rw [h1, Nat.div_div_eq_div_mul, ← Nat.pow_add]
    · rw [hp, hpu, hq, ← Nat.mul_assoc, ← Nat.pow_add]
      exact Nat.mul_mod_right _ _
    · intro h
      rw [hq, Nat.mul_div_cancel_left _ (Nat.two_pow_pos k)] at h
      obtain ⟨r, hr⟩ := Nat.dvd_of_mod_eq_zero h
      apply h3
      rw [hq, hr, ← Nat.mul_assoc, ← Nat.pow_add]
      exact Nat.mul_mod_right _ _
  · rename_i hz
    exact ⟨h1, h2, hz, by omega⟩
theorem shl1 {k : Nat} (h : k < 64) : (1 : Int) * 2 ^ min ((k : Nat) : Int).toNat IntKind.u64.bits = ((2 ^ k : Nat) : Int) := by
  rw [Int.toNat_natCast, show min k IntKind.u64.bits = k from Nat.min_eq_left (by show k ≤ 64; omega), Int.one_mul]
  simp
theorem shr64 {u k : Nat} (h : k < 64) : ((u : Nat) : Int).fdiv (2 ^ min ((k : Nat) : Int).toNat IntKind.u64.bits) = ((u / 2 ^ k : Nat) : Int) := by
  rw [Int.toNat_natCast, show min k IntKind.u64.bits = k from Nat.min_eq_left (by show k ≤ 64; omega)]
  have : (2 : Int) ^ k = ((2 ^ k : Nat) : Int) := by simp
  rw [this, Int.fdiv_eq_ediv_of_nonneg _ (Int.natCast_nonneg _)]
  exact (Int.natCast_ediv u (2 ^ k)).symm
theorem pow_le63 {k : Nat} (h : k ≤ 63) : 1 ≤ 2 ^ k ∧ 2 ^ k ≤ 9223372036854775808 := ⟨Nat.two_pow_pos k, Nat.pow_le_pow_right (n := 2) (by omega) h⟩
set_option maxHeartbeats 4000000 in
theorem lowOne_told {u0 : Nat} (h0 : u0 < 2 ^ 64) : Told P T word_LowOne [] [u64 u0] (i64 (lowW u0.testBit : Nat)) [] := by
  refine told_of_ev (fn := word_LowOne_fn) tabOk mixed (by kernel_rfl) (by kernel_rfl) (by kernel_rfl) (by kernel_rfl) ?_
  by_cases hz : u0 = 0
  · subst hz
    rw [lowW_none fun j _ => by simp]
    (refine gw ?_; exact RetN.mk ⟨[], rfl, rfl, rfl⟩)
  · (refine gw ?_; refine IfB.ff (by simp; omega) ?_)
    (refine gw ?_; refine LoopN.mk ⟨[0,2,3], fun vs L => ∃ (i u n : Nat), vs = [u64 u, i64 n, u64 (if i = 0 then 0 else 2 ^ (i - 1) : Nat)] ∧ L = [] ∧ i ≤ 6 ∧ LowI u0 (2 ^ i) u n, fun vs L => match vs with | [_, _, .int _ i] => i.toNat | _ => 0, [], [], rfl, ⟨6, u0, 0, rfl, rfl, by omega, ⟨by simp, by simp [Nat.mod_one], by rw [show (2 : Nat) ^ 6 = 64 by decide, Nat.mod_eq_of_lt h0]; exact hz, by decide⟩⟩, ?_⟩)
    rintro vs L ⟨i, u, n, rfl, rfl, hi, hI⟩
    rcases Nat.eq_zero_or_pos i with hi0 | hi0
    · subst hi0
      obtain ⟨e1, e2, e3, e4⟩ := hI
      have hl := low_eq (u := u0) (n := n) (by simp at e4; omega) e2 (by rw [← e1]; simp at e3; omega)
      rw [hl]
      (refine gw ?_; exact RetN.mk ⟨[], rfl, rfl, rfl⟩)
    · obtain ⟨k, hk⟩ : ∃ k, 2 ^ (i - 1) = k := ⟨_, rfl⟩
      have hk2 : 2 ^ i = k + k := by
        rw [← hk]
        conv => lhs; rw [show i = (i - 1) + 1 by omega, Nat.pow_succ]
        omega
      have hk32 : k ≤ 32 ∧ 1 ≤ k := by rw [← hk]; exact ⟨Nat.le_trans (Nat.pow_le_pow_right (by omega) (show i - 1 ≤ 5 by omega)) (by decide), Nat.two_pow_pos _⟩
      rw [hk2] at hI
      rw [if_neg (by omega), hk]
      have hst := hI.step
      have hul : u < 2 ^ 64 := by rw [hI.eq]; exact Nat.lt_of_le_of_lt (Nat.div_le_self _ _) h0
      have hp := pow_le63 (k := k) (by omega)
      have hsl := shl1 (k := k) (by omega)
      have hand : bitsOp .and .u64 ((u : Nat) : Int) (((2 ^ k : Nat) : Int) - 1) = ((u % 2 ^ k : Nat) : Int) := by
        rw [show ((2 ^ k : Nat) : Int) - 1 = ((2 ^ k - 1 : Nat) : Int) by omega, and64 hul (by omega), Nat.and_two_pow_sub_one_eq_mod]
      have hnx : (((k : Nat) : Int)).fdiv (2 ^ min (1 : Int).toNat IntKind.u64.bits) = ((if i - 1 = 0 then 0 else 2 ^ (i - 1 - 1) : Nat) : Int) := by
        have := shr64 (u := k) (k := 1) (by omega)
        rw [show ((1 : Nat) : Int) = (1 : Int) from rfl] at this
        rw [this, ← hk]
        split
        · rename_i h; rw [h]
        · rename_i h
          conv => lhs; rw [show i - 1 = (i - 1 - 1) + 1 by omega, Nat.pow_succ]
          simp
      have hhalf : (if i - 1 = 0 then 0 else 2 ^ (i - 1 - 1) : Nat) < k := by
        rw [← hk]
        split
        · rename_i h; rw [h]; decide
        · rename_i h; exact Nat.pow_lt_pow_right (by omega) (by omega)
      have hn64 := hI.le
      (refine gw ?_; refine IfB.tt (by simp; omega) ?_)
      (refine gw ?_)
      rw [hsl, hand]
      obtain ⟨hf, hhf⟩ : ∃ hf, (if i - 1 = 0 then 0 else 2 ^ (i - 1 - 1) : Nat) = hf := ⟨_, rfl⟩
      rw [hhf] at hnx hhalf
      obtain ⟨um, hum⟩ : ∃ um, u % 2 ^ k = um := ⟨_, rfl⟩
      rw [hum] at hst ⊢
      by_cases hm : um = 0
      · rw [if_pos hm, if_pos hm] at hst
        have hsr := shr64 (u := u) (k := k) (by omega)
        (refine gw ?_; refine IfB.tt (by rw [hm]; rfl) ?_)
        (refine gw ?_)
        rw [hsr]
        (refine gw ?_)
        rw [hnx]
        (refine gw ?_; refine ⟨[], [], rfl, ⟨i - 1, u / 2 ^ k, n + k, by rw [hhf]; rfl, rfl, by omega, by rw [hk]; exact hst⟩, (by omega : ((hf : Nat) : Int).toNat < ((k : Nat) : Int).toNat)⟩)
      · rw [if_neg hm, if_neg hm] at hst
        (refine gw ?_; refine IfB.ff (by simp; omega) ?_)
        (refine gw ?_)
        rw [hnx]
        (refine gw ?_; refine ⟨[], [], rfl, ⟨i - 1, u, n, by rw [hhf]; rfl, rfl, by omega, by rw [hk]; exact hst⟩, (by omega : ((hf : Nat) : Int).toNat < ((k : Nat) : Int).toNat)⟩)
theorem lowZero_told {u : Nat} (h : u < 2 ^ 64) : Told P T word_LowZero [] [u64 u] (i64 (lowW fun j => !u.testBit j : Nat)) [] := by
  have c1 := lowOne_told (wB_lt 64 fun j => !u.testBit j)
  have e : lowW (wB 64 fun j => !u.testBit j).testBit = lowW fun j => !u.testBit j := by
    have h1 : ∀ j, j < 64 → (wB 64 fun j => !u.testBit j).testBit j = !u.testBit j := fun j hj => by rw [wB_bit, decide_eq_true hj, Bool.true_and]
    rcases lowW_spec fun j => !u.testBit j with ⟨e1, e2⟩ | ⟨e1, e2, e3⟩
    · rw [e1]; exact lowW_none fun j hj => by rw [h1 j hj]; exact e2 j hj
    · exact lowW_eq e1 (by rw [h1 _ e1]; exact e2) fun j hj => by rw [h1 j (by omega)]; exact e3 j hj
  rw [e] at c1
  have hx : bitsOp .xor .u64 (if IntKind.u64.signed = true then -1 else IntKind.u64.max) ((u : Nat) : Int) = ((wB 64 fun j => !u.testBit j : Nat) : Int) := not64 h
  refine told_of_ev (fn := word_LowZero_fn) tabOk mixed (by kernel_rfl) (by kernel_rfl) (by kernel_rfl) (by kernel_rfl) ?_
  (refine gw ?_)
  rw [hx]
  (refine gw ?_; refine Choice.mk ⟨false, Choice.mk ⟨true, _, _, c1, ?_⟩⟩)
  (refine gw ?_; exact RetN.mk ⟨[], rfl, rfl, rfl⟩)
/-- Some bits of a word from one on. -/
def maskF (i n : Int) : Nat := if i < 0 ∨ n ≤ 0 ∨ i ≥ 64 then 0 else wB 64 fun j => decide (i ≤ j) && decide ((j : Int) < i + n)
theorem maskF_lt (i n : Int) : maskF i n < 2 ^ 64 := by
  unfold maskF; split
  · decide
  · exact wB_lt _ _
theorem maskF_bit {i n : Int} {j : Nat} (hj : j < 64) (hi : 0 ≤ i) : (maskF i n).testBit j = (decide (i ≤ j) && decide ((j : Int) < i + n)) := by
  unfold maskF
  split
  · rename_i h
    rw [Nat.zero_testBit]
    by_cases h1 : i ≤ (j : Int)
    · rw [decide_eq_false (show ¬ ((j : Int) < i + n) by omega), Bool.and_false]
    · rw [decide_eq_false h1]; rfl
  · rw [wB_bit, decide_eq_true hj, Bool.true_and]
theorem shl64 {u k : Nat} (h : k < 64) : IntKind.u64.wrap (((u : Nat) : Int) * 2 ^ min ((k : Nat) : Int).toNat IntKind.u64.bits) = ((u * 2 ^ k % 2 ^ 64 : Nat) : Int) := by
  rw [Int.toNat_natCast, show min k IntKind.u64.bits = k from Nat.min_eq_left (by show k ≤ 64; omega), IntKind.wrap_u64]
  have : ((u : Nat) : Int) * 2 ^ k = ((u * 2 ^ k : Nat) : Int) := by simp
  rw [this]
  exact (Int.natCast_emod (u * 2 ^ k) (2 ^ 64)).symm
theorem mask_word {i n : Nat} (hi : i < 64) (hn : 1 ≤ n) : (if n < 64 then 2 ^ n - 1 else 2 ^ 64 - 1) * 2 ^ i % 2 ^ 64 = maskF i n := by
  apply Nat.eq_of_testBit_eq
  intro j
  rw [Nat.testBit_mod_two_pow, Nat.testBit_mul_two_pow]
  have h0 : (if n < 64 then 2 ^ n - 1 else 2 ^ 64 - 1 : Nat) = 2 ^ (if n < 64 then n else 64) - 1 := by split <;> rfl
  rw [h0, Nat.testBit_two_pow_sub_one]
  by_cases hj : j < 64
  · rw [maskF_bit hj (by omega), decide_eq_true hj, Bool.true_and]
    by_cases hij : i ≤ j
    · rw [decide_eq_true (show j ≥ i from hij), decide_eq_true (show (i : Int) ≤ (j : Int) by omega), Bool.true_and, Bool.true_and]
      refine decide_eq_decide.2 ?_
      split <;> omega
    · rw [decide_eq_false (show ¬ j ≥ i from hij), decide_eq_false (show ¬ (i : Int) ≤ (j : Int) by omega)]; rfl
  · rw [decide_eq_false hj, Nat.testBit_lt_two_pow (Nat.lt_of_lt_of_le (maskF_lt _ _) (Nat.pow_le_pow_right (by omega) (by omega)))]; rfl
set_option maxHeartbeats 2000000 in
theorem mask_told (i n : Int) (hi : i ≤ 1000000) (hn : -1000000000000 ≤ n ∧ n ≤ 1000000000000) : Told P T word_Mask [] [i64 i, i64 n] (u64 (maskF i n)) [] := by
  refine told_of_ev (fn := word_Mask_fn) tabOk mixed (by kernel_rfl) (by kernel_rfl) (by kernel_rfl) (by kernel_rfl) ?_
  by_cases h1 : i < 0
  · rw [show maskF i n = 0 by unfold maskF; rw [if_pos (.inl h1)]]
    (refine gw ?_; refine IfB.tt (by simpa using h1) ?_)
    (refine gw ?_; exact RetN.mk ⟨[], rfl, rfl, rfl⟩)
  · (refine gw ?_; refine IfB.ff (by simpa using h1) ?_)
    by_cases h2 : n ≤ 0
    · rw [show maskF i n = 0 by unfold maskF; rw [if_pos (.inr (.inl h2))]]
      (refine gw ?_; refine IfB.tt (by simpa using h2) ?_)
      (refine gw ?_; exact RetN.mk ⟨[], rfl, rfl, rfl⟩)
    · (refine gw ?_; refine IfB.ff (by simpa using h2) ?_)
      by_cases h3 : i ≥ 64
      · rw [show maskF i n = 0 by unfold maskF; rw [if_pos (.inr (.inr h3))]]
        (refine gw ?_; refine IfB.tt (by simpa using h3) ?_)
        (refine gw ?_; exact RetN.mk ⟨[], rfl, rfl, rfl⟩)
      · (refine gw ?_; refine IfB.ff (by simpa using h3) ?_)
        obtain ⟨a, rfl⟩ : ∃ a : Nat, i = a := ⟨i.toNat, by omega⟩
        obtain ⟨b, rfl⟩ : ∃ b : Nat, n = b := ⟨n.toNat, by omega⟩
        have hm := mask_word (i := a) (n := b) (by omega) (by omega)
        by_cases h4 : b < 64
        · have hs1 := shl1 (k := b) (by omega)
          have hp := pow_le63 (k := b) (by omega)
          have hs2 := shl64 (u := 2 ^ b - 1) (k := a) (by omega)
          rw [if_pos h4] at hm
          rw [hm] at hs2
          (refine gw ?_; refine IfB.tt (by simp; omega) ?_)
          (refine gw ?_)
          rw [hs1, show ((2 ^ b : Nat) : Int) - 1 = ((2 ^ b - 1 : Nat) : Int) by omega]
          refine ⟨?_⟩
          rw [hs2]
          (refine gw ?_; exact RetN.mk ⟨[], rfl, rfl, rfl⟩)
        · have hs2 := shl64 (u := 2 ^ 64 - 1) (k := a) (by omega)
          rw [if_neg h4] at hm
          rw [hm] at hs2
          have hs2 : IntKind.u64.wrap (18446744073709551615 * 2 ^ min ((a : Nat) : Int).toNat IntKind.u64.bits) = _ := hs2
          (refine gw ?_; refine IfB.ff (by simp; omega) ?_)
          (refine gw ?_)
          refine ⟨?_⟩
          rw [hs2]
          (refine gw ?_; exact RetN.mk ⟨[], rfl, rfl, rfl⟩)
end Go.Ev.W
