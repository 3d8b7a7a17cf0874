/- Words and lemmas, part 5, for laws of this seat (a part of their proofs). -/
import Derived.Test.YtnjhonpgmljigaaGreatG4
import Derived.Test.YtnjhonpgmljigaaGreatNm
import Derived.Test.YtnjhonpgmljigaaGreatEvOpen
import Derived.Test.YtnjhonpgmljigaaGreatEvLib
import Derived.Test.YtnjhonpgmljigaaGreatEvGrid
import Derived.Test.YtnjhonpgmljigaaGreatEvTrim
set_option linter.unusedVariables false
set_option linter.unusedSimpArgs false
namespace Go.Ev.W
open Go.Ev Go.Ev.N

/-- The first bit that is not set. -/
def firZ (n : Nat) (b : Nat → Bool) (f : Nat) : Option Nat := (List.range n).find? fun i => decide (f ≤ i) && !b i
def eFir : Option Nat → AV
  | some i => .tup [i64 i, .bool true]
  | none => .tup [i64 0, .bool false]
theorem firZ_none {n f : Nat} {b : Nat → Bool} (h : ∀ x, f ≤ x → x < n → b x = true) : firZ n b f = none := by
  unfold firZ
  rw [List.find?_eq_none]
  intro x hx
  have hx : x < n := by simpa using hx
  by_cases hf : f ≤ x
  · simp [h x hf hx]
  · simp [hf]
theorem firZ_some {n f i : Nat} {b : Nat → Bool} (hi : i < n) (hf : f ≤ i) (hb : b i = false) (h : ∀ x, f ≤ x → x < i → b x = true) : firZ n b f = some i := by
  unfold firZ
  rw [List.find?_range_eq_some]
  refine ⟨by simp [hf, hb], by simpa using hi, fun j hj => ?_⟩
  by_cases hf : f ≤ j
  · simp [h j hf hj]
  · simp [hf]
/-- Where the search stands. -/
structure Up (n : Nat) (b : Nat → Bool) (f k i : Nat) : Prop where
  z : k = 0 → f ≤ i
  p : 1 ≤ k → f / 64 ^ k < i
  a : ∀ x, f ≤ x → x / 64 ^ k < i → x < n → b x = true
theorem Up.go {n : Nat} {b : Nat → Bool} {f k i j : Nat} (h : Up n b f k i) (hij : i ≤ j) (hb : ∀ p, i ≤ p → p < j → p < szT n k → btT n b k p = true) : Up n b f k j :=
  ⟨fun e => by have := h.z e; omega, fun e => by have := h.p e; omega, fun x h1 h2 h3 => by
    by_cases h4 : x / 64 ^ k < i
    · exact h.a x h1 h4 h3
    · exact bt_full k _ (hb _ (by omega) h2 (sz_div h3 k)) x rfl h3⟩
theorem Up.up {n : Nat} {b : Nat → Bool} {f k q : Nat} (h : Up n b f k (64 * (q + 1))) (hf : f / 64 ^ k < 64 * (q + 1)) : Up n b f (k + 1) (q + 1) :=
  ⟨fun e => by omega, fun _ => by rw [Nat.pow_succ, ← Nat.div_div_eq_div_mul]; omega, fun x h1 h2 h3 => by
    rw [Nat.pow_succ, ← Nat.div_div_eq_div_mul] at h2
    exact h.a x h1 (by omega) h3⟩
theorem Up.down {n : Nat} {b : Nat → Bool} {f k i : Nat} (h : Up n b f (k + 1) i) : Up n b f k (64 * i) := by
  have hp := h.p (by omega)
  rw [Nat.pow_succ, ← Nat.div_div_eq_div_mul] at hp
  refine ⟨fun e => by subst e; rw [Nat.pow_zero, Nat.div_one] at hp; omega, fun _ => by omega, fun x h1 h2 h3 => h.a x h1 ?_ h3⟩
  rw [Nat.pow_succ, ← Nat.div_div_eq_div_mul]
  omega
/-- The word, looked at. -/
theorem word_low {n : Nat} {b : Nat → Bool} {f k i : Nat} (h : Up n b f k i) :
    (lowW (fun j => !(fT n b k (i / 64) ||| maskF 0 ((i % 64 : Nat) : Int)).testBit j) = 64 ∧ Up n b f (k + 1) (i / 64 + 1)) ∨
    ∃ z, z < 64 ∧ lowW (fun j => !(fT n b k (i / 64) ||| maskF 0 ((i % 64 : Nat) : Int)).testBit j) = z ∧ Up n b f k (64 * (i / 64) + z) ∧ 64 * (i / 64) + z < szT n k ∧ btT n b k (64 * (i / 64) + z) = false := by
  have hbit : ∀ j, j < 64 → (fT n b k (i / 64) ||| maskF 0 ((i % 64 : Nat) : Int)).testBit j = ((decide (szT n k ≤ 64 * (i / 64) + j) || btT n b k (64 * (i / 64) + j)) || decide (j < i % 64)) := fun j hj => by
    rw [Nat.testBit_or, fT_bit hj, maskF_bit hj (by omega), decide_eq_true (show (0 : Int) ≤ (j : Int) by omega), Bool.true_and]
    congr 1
    exact decide_eq_decide.2 (by omega)
  generalize fT n b k (i / 64) ||| maskF 0 ((i % 64 : Nat) : Int) = w at *
  have hrun : ∀ e, e ≤ 64 → (∀ j, j < e → w.testBit j = true) → ∀ p, i ≤ p → p < 64 * (i / 64) + e → p < szT n k → btT n b k p = true := fun e he hw p h1 h2 h3 => by
    have h4 := hw (p - 64 * (i / 64)) (by omega)
    rw [hbit _ (by omega), show 64 * (i / 64) + (p - 64 * (i / 64)) = p by omega, decide_eq_false (show ¬ szT n k ≤ p by omega), decide_eq_false (show ¬ p - 64 * (i / 64) < i % 64 by omega)] at h4
    simpa using h4
  rcases lowW_spec (fun j => !w.testBit j) with ⟨h1, h2⟩ | ⟨h1, h2, h3⟩
  · left
    refine ⟨h1, ?_⟩
    have g := h.go (j := 64 * (i / 64 + 1)) (by omega) fun p h3 h4 h5 => hrun 64 (by omega) (fun j hj => by simpa using h2 j hj) p h3 (by omega) h5
    refine g.up ?_
    by_cases hk : k = 0
    · have := h.z hk; subst hk; rw [Nat.pow_zero, Nat.div_one]; omega
    · have := h.p (by omega); omega
  · right
    generalize lowW (fun j => !w.testBit j) = z at *
    have h2 : w.testBit z = false := by simpa using h2
    rw [hbit z h1] at h2
    simp only [Bool.or_eq_false_iff, decide_eq_false_iff_not] at h2
    obtain ⟨⟨h4, h5⟩, h6⟩ := h2
    exact ⟨z, h1, rfl, h.go (by omega) fun p h7 h8 h9 => hrun z (by omega) (fun j hj => by simpa using h3 j hj) p h7 h8 h9, by omega, h5⟩
end Go.Ev.W
namespace Go.Ev.W
open Go.Ev Go.Ev.N

def firI (n : Nat) (b : Nat → Bool) (f : Int) : Option Nat := if f < 0 ∨ f ≥ n then none else firZ n b f.toNat
theorem at_eTr {n : Nat} (hn : 1 ≤ n) (hn2 : n ≤ 65536) (b : Nat → Bool) {l k : Nat} (hl : l < hT n) (hk : k < lenT n l) : Told P T tree_at [] [eTr n b, i64 l, i64 k] (u64 (fT n b l k)) [] := by
  have hh := hT_le n
  have c := treeAt_told (s := n) (v := lvT n b) (by rw [lvT_len]; omega) (mixT_all_row hn hn2 b) l (k : Nat)
  rw [show atF (lvT n b) l (k : Nat) = fT n b l k from tabV_at hl hk] at c
  exact c
theorem or_low {w m : Nat} (h : w < 2 ^ 64) (h2 : m < 2 ^ 64) : w ||| m < 2 ^ 64 := Nat.or_lt_two_pow h h2
set_option maxHeartbeats 4000000 in
theorem treeFirst_told {n : Nat} (hn : 1 ≤ n) (hn2 : n ≤ 65536) (b : Nat → Bool) (f : Int) (hf : -9223372036854775808 ≤ f ∧ f ≤ 9223372036854775807) : Told P T tree_FirstZero [] [eTr n b, i64 f] (eFir (firI n b f)) [] := by
  have hh := hT_le n
  have hvl : ((lvT n b).map lR).length = hT n := by simp [lvT_len]
  have hlast := hT_last hn hn2
  refine told_of_ev (fn := tree_FirstZero_fn) tabOk mixed (by kernel_rfl) (by kernel_rfl) (by kernel_rfl) (by kernel_rfl) ?_
  by_cases h1 : f < 0
  · rw [show firI n b f = none by unfold firI; rw [if_pos (.inl h1)]]
    (refine gw ?_; refine IfB.tt (by simpa using h1) ?_)
    (refine gw ?_; exact RetN.mk ⟨[], rfl, rfl, rfl⟩)
  · (refine gw ?_; refine IfB.ff (by simpa using h1) ?_)
    by_cases h2 : f ≥ n
    · rw [show firI n b f = none by unfold firI; rw [if_pos (.inr h2)]]
      (refine gw ?_; refine IfB.tt (by simpa using h2) ?_)
      (refine gw ?_; exact RetN.mk ⟨[], rfl, rfl, rfl⟩)
    · obtain ⟨a, rfl⟩ : ∃ a : Nat, f = a := ⟨f.toNat, by omega⟩
      rw [show firI n b a = firZ n b a by unfold firI; rw [if_neg (by omega)]; rfl]
      (refine gw ?_; refine IfB.ff (by simpa using h2) ?_)
      (refine gw ?_; refine LoopN.mk ⟨[2,6,7], fun vs L => ∃ k i : Nat, vs = [.ptr 0 0 0, i64 k, i64 i] ∧ L = [.var (eTr n b)] ∧ k ≤ hT n ∧ i ≤ 65537 ∧ Up n b a k i ∧ (1 ≤ k → 1 ≤ i), fun vs L => match vs with | [_, .int _ i, _] => hT n - i.toNat | _ => 0, [], [0], rfl, ⟨0, a, rfl, rfl, by omega, by omega, ⟨fun _ => Nat.le_refl _, fun e => by omega, fun x e1 e2 => by rw [Nat.pow_zero, Nat.div_one] at e2; omega⟩, fun e => by omega⟩, ?_⟩)
      rintro vs L ⟨k, i, rfl, rfl, hk, hi, hup, hpi⟩
      by_cases h3 : k < hT n
      · have hkv : k < (lvT n b).length := by rw [lvT_len]; exact h3
        have hrl : ((lvT n b)[k].map u64).length = lenT n k := by
          rw [show (lvT n b)[k] = (List.range (lenT n k)).map (fT n b k) from tabV_get hkv]; simp
        have hdi : ((i : Nat) : Int).tdiv 64 = ((i / 64 : Nat) : Int) := (Int.ofNat_tdiv i 64).symm
        have hmi : ((i : Nat) : Int).tmod 64 = ((i % 64 : Nat) : Int) := by rw [Int.tmod_eq_emod_of_nonneg (by omega)]; omega
        have hlk : lenT n k = (szT n k - 1) / 64 + 1 := rfl
        have hszk := szT_pos hn k
        have hszn := szT_le_n hn k
        (refine gw ?_; refine IfB.ff (by rw [hvl]; simp; omega) ?_)
        (refine gw ?_)
        rw [hdi]
        (refine gw ?_; refine idx_map (hkv) ?_)
        by_cases h4 : i / 64 ≥ lenT n k
        · rw [firZ_none fun x e1 e2 => hup.a x e1 (by have := sz_div e2 k; omega) e2]
          (refine gw ?_; refine IfB.tt (by rw [hrl]; simp; omega) ?_)
          (refine gw ?_; exact RetN.mk ⟨[], rfl, rfl, rfl⟩)
        · have c1 := at_eTr hn hn2 b h3 (k := i / 64) (by omega)
          have c2 := mask_told 0 ((i % 64 : Nat) : Int) (by omega) (by omega)
          have c2 : Told P T word_Mask [] _ _ _ := c2
          have hor := or64 (fT_lt n b k (i / 64)) (maskF_lt 0 ((i % 64 : Nat) : Int))
          have c3 := lowZero_told (or_low (fT_lt n b k (i / 64)) (maskF_lt 0 ((i % 64 : Nat) : Int)))
          have hwl := word_low hup
          generalize fT n b k (i / 64) ||| maskF 0 ((i % 64 : Nat) : Int) = w at hor c3 hwl
          generalize fT n b k (i / 64) = w1 at c1 hor
          generalize maskF 0 ((i % 64 : Nat) : Int) = w2 at c2 hor
          (refine gw ?_; refine IfB.ff (by rw [hrl]; simp; omega) ?_)
          (refine gw ?_)
          rw [hdi]
          (refine gw ?_; refine Choice.mk ⟨false, Choice.mk ⟨false, _, _, c1, ?_⟩⟩)
          (refine gw ?_)
          rw [hmi]
          (refine gw ?_; refine Choice.mk ⟨false, Choice.mk ⟨false, _, _, c2, ?_⟩⟩)
          (refine gw ?_)
          rw [hor]
          (refine gw ?_; refine Choice.mk ⟨false, Choice.mk ⟨false, _, _, c3, ?_⟩⟩)
          rcases hwl with ⟨e1, e2⟩ | ⟨z, e1, e2, e3, e4, e5⟩
          · rw [e1]
            (refine gw ?_; refine ⟨[], [0], rfl, ⟨k + 1, i / 64 + 1, by rw [show ((i / 64 + 1 : Nat) : Int) = ((i : Nat) : Int).tdiv 64 + 1 by omega]; rfl, rfl, by omega, by omega, e2, by omega⟩, (by omega : hT n - ((k : Int) + 1).toNat < hT n - (k : Int).toNat)⟩)
          · rw [e2]
            (refine gw ?_; refine IfB.tt (by simp; omega) ?_)
            (refine gw ?_)
            rw [hdi]
            (refine gw ?_; refine LoopN.mk ⟨[2,6,7], fun vs L => ∃ k i : Nat, vs = [.ptr 0 0 0, i64 k, i64 i] ∧ L = [.var (eTr n b)] ∧ k < hT n ∧ i < szT n k ∧ Up n b a k i ∧ btT n b k i = false, fun vs L => match vs with | [_, .int _ i, _] => i.toNat | _ => 0, [], [0], rfl, ⟨k, 64 * (i / 64) + z, by rw [show ((64 * (i / 64) + z : Nat) : Int) = ((i / 64 : Nat) : Int) * 64 + z by omega]; rfl, rfl, h3, e4, e3, e5⟩, ?_⟩)
            rintro vs L ⟨k, i, rfl, rfl, hk, hi, hup, hz⟩
            have hszn := szT_le_n hn k
            cases k with
            | zero =>
              have hi : i < n := hi
              have hz : b i = false := hz
              rw [firZ_some hi (hup.z rfl) hz fun x e1 e2 => hup.a x e1 (by rw [Nat.pow_zero, Nat.div_one]; exact e2) (by omega)]
              (refine gw ?_)
              refine RetN.mk ⟨[], rfl, ?_, rfl⟩
              show AV.tup [i64 i, .bool (decide ((i : Int) < n))] = AV.tup [i64 i, .bool true]
              rw [decide_eq_true (by omega)]
            | succ k =>
              have c1 := at_eTr hn hn2 b (l := k) (k := i) (by omega) hi
              have c3 := lowZero_told (fT_lt n b k i)
              obtain ⟨z, e1, e2, e3, e4, e5⟩ := bt_zero hz
              have hd := hup.down.go (j := 64 * i + z) (by omega) fun p q1 q2 q3 => by
                have := e5 (p - 64 * i) (by omega)
                rw [show 64 * i + (p - 64 * i) = p by omega] at this
                rcases this with h | h
                · exact h
                · omega
              have hszk := szT_le_n hn k
              generalize fT n b k i = w at *
              (refine gw ?_)
              rw [show ((k + 1 : Nat) : Int) - 1 = (k : Int) by omega]
              (refine gw ?_; refine Choice.mk ⟨false, Choice.mk ⟨false, _, _, c1, ?_⟩⟩)
              (refine gw ?_; refine Choice.mk ⟨false, Choice.mk ⟨false, _, _, c3, ?_⟩⟩)
              rw [e2]
              (refine gw ?_; refine ⟨[], [0], rfl, ⟨k, 64 * i + z, by rw [show ((64 * i + z : Nat) : Int) = (i : Int) * 64 + z by omega, show (k : Int) = ((k + 1 : Nat) : Int) - 1 by omega]; rfl, rfl, by omega, e3, hd, e4⟩, (by omega : (((k + 1 : Nat) : Int) - 1).toNat < ((k + 1 : Nat) : Int).toNat)⟩)
      · have hkT : k = hT n := by omega
        have h1T : szT n k = 1 := by
          rw [hkT, show hT n = hT n - 1 + 1 by omega]
          show (szT n (hT n - 1) - 1) / 64 + 1 = 1
          have := hlast.1
          omega
        rw [firZ_none fun x e1 e2 => hup.a x e1 (by have := sz_div e2 k; omega) e2]
        (refine gw ?_; refine IfB.tt (by rw [hvl]; simp; omega) ?_)
        (refine gw ?_; exact RetN.mk ⟨[], rfl, rfl, rfl⟩)
end Go.Ev.W
namespace Go.Ev.W
open Go.Ev Go.Ev.N

def hasT (n : Nat) (b : Nat → Bool) (f : Int) : Bool := decide (0 ≤ f ∧ f < n) && b f.toNat
theorem bit_and {w k : Nat} (hw : w < 2 ^ 64) : (bitsOp .and .u64 ((w / 2 ^ k : Nat) : Int) 1 == 1) = decide (w / 2 ^ k % 2 = 1) := by
  have h := and64 (x := w / 2 ^ k) (y := 1) (Nat.lt_of_le_of_lt (Nat.div_le_self _ _) hw) (by decide)
  rw [show (1 : Int) = ((1 : Nat) : Int) from rfl, h, Nat.and_one_is_mod]
  generalize w / 2 ^ k % 2 = q
  by_cases hq : q = 1
  · subst hq; rfl
  · rw [decide_eq_false hq]
    have : ((q : Nat) : Int) ≠ ((1 : Nat) : Int) := by omega
    simpa using this
theorem treeHas_told {n : Nat} (hn : 1 ≤ n) (hn2 : n ≤ 65536) (b : Nat → Bool) (f : Int) (hf : -9223372036854775808 ≤ f ∧ f ≤ 9223372036854775807) : Told P T tree_Has [] [eTr n b, i64 f] (.bool (hasT n b f)) [] := by
  have hh := hT_le n
  by_cases h1 : 0 ≤ f
  · obtain ⟨a, rfl⟩ : ∃ a : Nat, f = a := ⟨f.toNat, by omega⟩
    by_cases h2 : a < n
    · have hdi : ((a : Nat) : Int).tdiv 64 = ((a / 64 : Nat) : Int) := (Int.ofNat_tdiv a 64).symm
      have hmi : ((a : Nat) : Int).tmod 64 = ((a % 64 : Nat) : Int) := by rw [Int.tmod_eq_emod_of_nonneg (by omega)]; omega
      have c1 := at_eTr hn hn2 b (l := 0) (k := a / 64) (by omega) (by show a / 64 < (n - 1) / 64 + 1; omega)
      have hb : (fT n b 0 (a / 64)).testBit (a % 64) = hasT n b a := by
        rw [fT_bit (by omega), show 64 * (a / 64) + a % 64 = a by omega, decide_eq_false (show ¬ szT n 0 ≤ a by show ¬ n ≤ a; omega)]
        unfold hasT
        rw [decide_eq_true (by omega)]; rfl
      have hw := fT_lt n b 0 (a / 64)
      generalize fT n b 0 (a / 64) = w at c1 hb hw
      have hsr := shr64 (u := w) (k := a % 64) (by omega)
      have hu : IntKind.u64.wrap (a : Int) = (a : Int) := wrapU64 (by omega) (by omega)
      refine told_of_ev (fn := tree_Has_fn) tabOk mixed (by kernel_rfl) (by kernel_rfl) (by kernel_rfl) (by kernel_rfl) ?_
      (refine gw ?_; refine IfB.tt (by simp; omega) ?_)
      (refine gw ?_)
      rw [hdi]
      (refine gw ?_; refine Choice.mk ⟨false, Choice.mk ⟨false, _, _, c1, ?_⟩⟩)
      (refine gw ?_)
      rw [hmi]
      (refine gw ?_)
      refine RetN.mk ⟨[], rfl, ?_, rfl⟩
      show AV.bool (bitsOp .and .u64 (((w : Nat) : Int).fdiv (2 ^ min ((a % 64 : Nat) : Int).toNat IntKind.u64.bits)) 1 == 1) = AV.bool (hasT n b a)
      rw [hsr, ← hb, bit_and hw, Nat.testBit_eq_decide_div_mod_eq]
    · have e : hasT n b a = false := by unfold hasT; rw [decide_eq_false (by omega)]; rfl
      rw [e]
      refine told_of_ev (fn := tree_Has_fn) tabOk mixed (by kernel_rfl) (by kernel_rfl) (by kernel_rfl) (by kernel_rfl) ?_
      (refine gw ?_; refine IfB.ff (by simp; omega) ?_)
      (refine gw ?_)
      exact RetN.mk ⟨[], rfl, rfl, rfl⟩
  · have e : hasT n b f = false := by unfold hasT; rw [decide_eq_false (by omega)]; rfl
    rw [e]
    refine told_of_ev (fn := tree_Has_fn) tabOk mixed (by kernel_rfl) (by kernel_rfl) (by kernel_rfl) (by kernel_rfl) ?_
    (refine gw ?_; refine IfB.ff (by simp; omega) ?_)
    (refine gw ?_; exact RetN.mk ⟨[], rfl, rfl, rfl⟩)
end Go.Ev.W
namespace Go.Ev.W
open Go.Ev Go.Ev.N

set_option maxHeartbeats 2000000 in
theorem newR_told {n : Nat} (hn : 1 ≤ n) (hn2 : n ≤ 65536) : Told P T tree_New [] [i64 n] (eTr n offB) [] := by
  rw [show eTr n offB = eTg n (lvT n offB) by unfold eTr; rw [eTg_eq]]
  have hl1 := hT_last hn hn2
  refine told_of_ev (fn := tree_New_fn) tabOk mixed (by kernel_rfl) (by kernel_rfl) (by kernel_rfl) (by kernel_rfl) ?_
  (refine gw ?_; refine IfB.ff (by simp; omega) ?_)
  (refine gw ?_; refine IfB.ff (by simp; omega) ?_)
  (refine gw ?_; refine LoopN.mk ⟨[2,3], fun vs L => ∃ l : Nat, vs = [.ptr 0 0 0, i64 (szT n l)] ∧ ((l = 0 ∧ L = [.var (.agg [i64 n, .ref 1]), .row ts_uint64 []]) ∨ (1 ≤ l ∧ L = [.var (.agg [i64 n, .ref 1]), gV (upT n offB l)])) ∧ l < hT n, fun vs L => match vs with | [_, .int _ i] => i.toNat | _ => 0, [], [0,1], rfl, ⟨0, rfl, .inl ⟨rfl, rfl⟩, by have := hT_le n; omega⟩, ?_⟩)
  rintro vs L ⟨l, rfl, hL, hl⟩
  have c1 := level_told (m := szT n l) (szT_pos hn l) (by have := szT_le_n hn l; omega)
  have hus := upT_suc hn hl
  have hu2 : ((upT n offB l).map fun r => (true, r.map u64)) ++ [(true, (rowT (szT n l) offB).map u64)] = (upT n offB (l + 1)).map (fun r => (true, r.map u64)) := by rw [hus, List.map_append]; rfl
  have hul := upT_len offB (Nat.le_of_lt hl)
  have hend : szT n l ≤ 64 → l + 1 = hT n := fun h => by
    by_cases e : l + 1 < hT n
    · have := hl1.2 l e; omega
    · omega
  have hgo : ¬ szT n l ≤ 64 → l + 1 < hT n := fun h => by
    by_cases e : l + 1 = hT n
    · have := hl1.1; rw [← e] at this; exact absurd this h
    · omega
  have hall : upT n offB (hT n) = lvT n offB := by unfold upT; rw [← lvT_len n offB, List.take_length]
  have hszb := szT_le_n hn l
  have hszc := szT_le_n hn (l + 1)
  have hsz : ((szT n l : Nat) : Int) - 1 = ((szT n l - 1 : Nat) : Int) := by have := szT_pos hn l; omega
  have hsd : ((szT n l - 1 : Nat) : Int).tdiv 64 = (((szT n l - 1) / 64 : Nat) : Int) := (Int.ofNat_tdiv _ 64).symm
  have hsu : (((szT n l - 1) / 64 : Nat) : Int) + 1 = ((szT n (l + 1) : Nat) : Int) := rfl
  rcases hL with ⟨rfl, rfl⟩ | ⟨h1, rfl⟩
  · (refine gw ?_; refine Choice.mk ⟨false, Choice.mk ⟨false, _, _, c1, ?_⟩⟩)
    (refine gw ?_)
    refine Choice.mk ⟨true, ?_⟩
    (refine gw ?_)
    refine Room.mk (by simp) ?_
    have hu1 : [(true, (rowT (szT n 0) offB).map u64)] = (upT n offB (0 + 1)).map (fun r => (true, r.map u64)) := hu2
    by_cases h5 : szT n 0 ≤ 64
    · rw [← hall, ← hend h5]
      (refine gw ?_; refine IfB.tt (by simp; omega) ?_)
      (refine gw ?_)
      rw [hu1]
      exact RetN.fz ⟨[true], [], rfl, rfl, rfl⟩
    · have hg := hgo h5
      have hlt : szT n (0 + 1) < szT n 0 := by show (szT n 0 - 1) / 64 + 1 < szT n 0; omega
      (refine gw ?_; refine IfB.ff (by simp; omega) ?_)
      (refine gw ?_)
      rw [hsz]
      (refine gw ?_)
      rw [hsd]
      (refine gw ?_)
      rw [hsu]
      rw [hu1]
      (refine gw ?_; refine ⟨[], [0,4], rfl, ⟨0 + 1, rfl, .inr ⟨by omega, rfl⟩, hg⟩, (by omega : (szT n (0 + 1) : Int).toNat < (szT n 0 : Int).toNat)⟩)
  · (refine gw ?_; refine Choice.mk ⟨false, Choice.mk ⟨false, _, _, c1, ?_⟩⟩)
    (refine gw ?_)
    refine Choice.mk ⟨true, ?_⟩
    (refine gw ?_)
    refine Room.mk (by have := hT_le n; simp; omega) ?_
    by_cases h5 : szT n l ≤ 64
    · rw [← hall, ← hend h5]
      (refine gw ?_; refine IfB.tt (by simp; omega) ?_)
      (refine gw ?_)
      rw [hu2]
      exact RetN.fz ⟨[true], [], rfl, rfl, rfl⟩
    · have hg := hgo h5
      have hlt : szT n (l + 1) < szT n l := by show (szT n l - 1) / 64 + 1 < szT n l; omega
      (refine gw ?_; refine IfB.ff (by simp; omega) ?_)
      (refine gw ?_)
      rw [hsz]
      (refine gw ?_)
      rw [hsd]
      (refine gw ?_)
      rw [hsu]
      rw [hu2]
      (refine gw ?_; refine ⟨[], [0,4], rfl, ⟨l + 1, rfl, .inr ⟨by omega, rfl⟩, hg⟩, (by omega : (szT n (l + 1) : Int).toNat < (szT n l : Int).toNat)⟩)
end Go.Ev.W
namespace Go.Ev.W
open Go.Ev Go.Ev.N

theorem hasT_nat {n : Nat} {b : Nat → Bool} {x : Nat} (h : x < n) : hasT n b x = b x := by unfold hasT; rw [decide_eq_true (by omega)]; rfl
theorem firI_spec {n : Nat} {b : Nat → Bool} {f : Nat} (hf : f < n) : (firI n b f = none ∧ ∀ x, f ≤ x → x < n → b x = true) ∨ ∃ i, firI n b f = some i ∧ f ≤ i ∧ i < n ∧ b i = false ∧ ∀ x, f ≤ x → x < i → b x = true := by
  have key : ∀ c, c ≤ n → f ≤ c → (∀ x, f ≤ x → x < c → b x = true) ∨ ∃ i, f ≤ i ∧ i < c ∧ b i = false ∧ ∀ x, f ≤ x → x < i → b x = true := by
    intro c
    induction c with
    | zero => intro _ _; exact .inl fun x _ h => by omega
    | succ c ih =>
      intro h1 h2
      by_cases hc : f ≤ c
      · rcases ih (by omega) hc with h | ⟨i, i1, i2, i3, i4⟩
        · cases hb : b c with
          | true =>
            refine .inl fun x e1 e2 => ?_
            by_cases e : x = c
            · rw [e]; exact hb
            · exact h x e1 (by omega)
          | false => exact .inr ⟨c, hc, by omega, hb, h⟩
        · exact .inr ⟨i, i1, by omega, i3, i4⟩
      · exact .inl fun x e1 e2 => by omega
  have hu : firI n b f = firZ n b f := by
    unfold firI
    rw [if_neg (by omega), Int.toNat_natCast]
  rw [hu]
  rcases key n (Nat.le_refl _) (by omega) with h | ⟨i, i1, i2, i3, i4⟩
  · exact .inl ⟨firZ_none h, h⟩
  · exact .inr ⟨i, firZ_some i2 i1 i3 i4, i1, i2, i3, i4⟩
end Go.Ev.W
namespace Go.Ev.W
open Go.Ev Go.Ev.N

/-- Bits of a level above: of two, is one set? -/
def upB (b : Nat → Bool) : Nat → Nat → Bool
  | 0 => b
  | k + 1 => fun i => upB b k (2 * i) || upB b k (2 * i + 1)
theorem upB_true {b : Nat → Bool} : ∀ {k i : Nat}, upB b k i = true ↔ ∃ x, x / 2 ^ k = i ∧ b x = true
  | 0, i => ⟨fun h => ⟨i, by simp, h⟩, fun ⟨x, h1, h2⟩ => by
      have : x = i := by simpa using h1
      rw [← this]; exact h2⟩
  | k + 1, i => by
    have ih := @upB_true b k
    show (upB b k (2 * i) || upB b k (2 * i + 1)) = true ↔ _
    rw [Bool.or_eq_true, ih, ih]
    have hdd : ∀ x, x / 2 ^ (k + 1) = x / 2 ^ k / 2 := fun x => by rw [Nat.pow_succ, Nat.div_div_eq_div_mul]
    constructor
    · rintro (⟨x, h1, h2⟩ | ⟨x, h1, h2⟩)
      · exact ⟨x, by rw [hdd, h1]; omega, h2⟩
      · exact ⟨x, by rw [hdd, h1]; omega, h2⟩
    · rintro ⟨x, h1, h2⟩
      rw [hdd] at h1
      generalize hq : x / 2 ^ k = q at *
      by_cases e : q = 2 * i
      · exact .inl ⟨x, by rw [hq, e], h2⟩
      · exact .inr ⟨x, by rw [hq]; omega, h2⟩
theorem upB_congr {b c : Nat → Bool} {k i : Nat} (h : ∀ x, x / 2 ^ k = i → b x = c x) : upB b k i = upB c k i := by
  apply Bool.eq_iff_iff.2
  rw [upB_true, upB_true]
  exact ⟨fun ⟨x, h1, h2⟩ => ⟨x, h1, by rw [← h x h1]; exact h2⟩, fun ⟨x, h1, h2⟩ => ⟨x, h1, by rw [h x h1]; exact h2⟩⟩
theorem upB_false {b : Nat → Bool} {k i : Nat} (h : ∀ x, x / 2 ^ k = i → b x = false) : upB b k i = false := by
  cases e : upB b k i with
  | false => rfl
  | true =>
    obtain ⟨x, h1, h2⟩ := upB_true.1 e
    rw [h x h1] at h2; exact absurd h2 (by decide)
/-- Places of so many granules and classes. -/
structure SlOk (g c : Nat) : Prop where
  c1 : 1 ≤ c
  c17 : c ≤ 17
  g1 : 1 ≤ g
  g2 : g ≤ 65536
  dv : g % 2 ^ (c - 1) = 0
theorem SlOk.sz {g c : Nat} (h : SlOk g c) {k : Nat} (hk : k < c) : 1 ≤ g / 2 ^ k ∧ g / 2 ^ k ≤ 65536 ∧ g / 2 ^ k * 2 ^ k = g := by
  have hd : 2 ^ (c - 1) ∣ g := Nat.dvd_of_mod_eq_zero h.dv
  have hd2 : 2 ^ k ∣ g := Nat.dvd_trans (Nat.pow_dvd_pow 2 (by omega)) hd
  have hm := Nat.div_mul_cancel hd2
  have hp : 0 < 2 ^ k := Nat.pow_pos (by omega)
  refine ⟨?_, Nat.le_trans (Nat.div_le_self _ _) h.g2, hm⟩
  have := Nat.le_of_dvd (by have := h.g1; omega) hd2
  exact (Nat.one_le_div_iff hp).2 this
theorem SlOk.half {g c : Nat} (h : SlOk g c) {k : Nat} (hk : k + 1 < c) : g / 2 ^ k = 2 * (g / 2 ^ (k + 1)) := by
  have h1 := (h.sz (k := k) (by omega)).2.2
  have h2 := (h.sz (k := k + 1) hk).2.2
  have hp : 0 < 2 ^ k := Nat.pow_pos (by omega)
  have : g / 2 ^ k * 2 ^ k = 2 * (g / 2 ^ (k + 1)) * 2 ^ k := by
    rw [h1, Nat.mul_comm 2 _, Nat.mul_assoc, Nat.mul_comm 2 _, ← Nat.pow_succ, h2]
  exact Nat.eq_of_mul_eq_mul_right hp this
def tS (g : Nat) (b : Nat → Bool) (k : Nat) : AV := eTr (g / 2 ^ k) (upB b k)
def tL (g c : Nat) (b : Nat → Bool) : List AV := (List.range c).map (tS g b)
def eS (g c : Nat) (b : Nat → Bool) : AV := .agg [.lst t_api_Tree (tL g c b)]
theorem tL_len (g c : Nat) (b : Nat → Bool) : (tL g c b).length = c := by simp [tL]
theorem tL_at {g c k : Nat} {b : Nat → Bool} (h : k < c) {Q : AV → Prop} (q : Q (tS g b k)) : At (tL g c b) ((k : Nat) : Int).toNat Q := by
  unfold tL
  refine at_map (k := k) (by simpa using h) ?_
  rw [List.getElem_range]; exact q
theorem tL_idx {g c k : Nat} {b : Nat → Bool} (h : k < c) {Q : AV → Prop} (q : Q (tS g b k)) : Idx (tL g c b) ((k : Nat) : Int) Q := by
  unfold tL
  refine idx_map (k := k) (by simpa using h) ?_
  rw [List.getElem_range]; exact q
theorem tL_suc (g c : Nat) (b : Nat → Bool) : tL g (c + 1) b = tL g c b ++ [tS g b c] := by unfold tL; rw [List.range_succ, List.map_append]; rfl
theorem eTr_congr {n : Nat} {b c : Nat → Bool} (h : ∀ x, x < n → b x = c x) : eTr n b = eTr n c := by unfold eTr; rw [lvT_congr h]
theorem tS_congr {g k : Nat} {b c : Nat → Bool} (h : ∀ x, x < g → b x = c x) : tS g b k = tS g c k := by
  refine eTr_congr fun i hi => upB_congr fun x hx => h x ?_
  subst hx
  by_cases e : x < g
  · exact e
  · have : g / 2 ^ k ≤ x / 2 ^ k := Nat.div_le_div_right (by omega)
    omega
theorem tL_congr {g c : Nat} {b b' : Nat → Bool} (h : ∀ x, x < g → b x = b' x) : tL g c b = tL g c b' := by
  unfold tL
  exact List.map_congr_left fun k _ => tS_congr h
theorem eS_congr {g c : Nat} {b b' : Nat → Bool} (h : ∀ x, x < g → b x = b' x) : eS g c b = eS g c b' := by unfold eS; rw [tL_congr h]
theorem zin {A B i : Nat} (h : A ≤ i ∧ i ≤ B) : 0 ≤ (A : Int) ∧ (A : Int) ≤ (i : Int) ∧ (i : Int) < (A : Int) + ((B : Int) - (A : Int) + 1) := by omega
theorem zout {A B i : Nat} (h : 0 ≤ (A : Int) ∧ (A : Int) ≤ (i : Int) ∧ (i : Int) < (A : Int) + ((B : Int) - (A : Int) + 1)) : A ≤ i ∧ i ≤ B := by omega
/-- A class's bits once some granules are live, or not. -/
theorem use_on {g k : Nat} {b : Nat → Bool} {f last : Nat} (h1 : f ≤ last) {i : Nat} :
    setZ (upB b k) (f / 2 ^ k : Nat) (((last / 2 ^ k : Nat) : Int) - (f / 2 ^ k : Nat) + 1) true i = upB (setB b f (last + 1 - f) true) k i := by
  have hp : 0 < 2 ^ k := Nat.pow_pos (by omega)
  unfold setZ
  by_cases h : f / 2 ^ k ≤ i ∧ i ≤ last / 2 ^ k
  · rw [if_pos (zin h)]
    refine (upB_true.2 ?_).symm
    -- a granule of the place that is among them
    refine ⟨max f (i * 2 ^ k), ?_, ?_⟩
    · by_cases e : f ≤ i * 2 ^ k
      · rw [Nat.max_eq_right e, Nat.mul_div_cancel _ hp]
      · rw [Nat.max_eq_left (by omega)]
        have : i ≤ f / 2 ^ k := (Nat.le_div_iff_mul_le hp).2 (by omega)
        omega
    · unfold setB
      have : i * 2 ^ k ≤ last := (Nat.le_div_iff_mul_le hp).1 h.2
      rw [if_pos (by omega)]
  · rw [if_neg (fun e => h (zout e))]
    refine upB_congr fun x hx => ?_
    unfold setB
    rw [if_neg]
    rintro ⟨e1, e2⟩
    apply h
    subst hx
    exact ⟨Nat.div_le_div_right e1, Nat.div_le_div_right (by omega)⟩
theorem use_off {g k : Nat} {b : Nat → Bool} {f last : Nat} (h1 : f ≤ last) {i : Nat} (hi : i ≠ f / 2 ^ k ∧ i ≠ last / 2 ^ k) :
    setZ (upB b k) (f / 2 ^ k : Nat) (((last / 2 ^ k : Nat) : Int) - (f / 2 ^ k : Nat) + 1) false i = upB (setB b f (last + 1 - f) false) k i := by
  have hp : 0 < 2 ^ k := Nat.pow_pos (by omega)
  unfold setZ
  by_cases h : f / 2 ^ k ≤ i ∧ i ≤ last / 2 ^ k
  · rw [if_pos (zin h)]
    refine (upB_false fun x hx => ?_).symm
    unfold setB
    rw [if_pos]
    subst hx
    constructor
    · by_cases e : f ≤ x
      · exact e
      · have : x / 2 ^ k ≤ f / 2 ^ k := Nat.div_le_div_right (by omega)
        omega
    · by_cases e : x ≤ last
      · omega
      · have : last / 2 ^ k ≤ x / 2 ^ k := Nat.div_le_div_right (by omega)
        omega
  · rw [if_neg (fun e => h (zout e))]
    refine upB_congr fun x hx => ?_
    unfold setB
    rw [if_neg]
    rintro ⟨e1, e2⟩
    apply h
    subst hx
    exact ⟨Nat.div_le_div_right e1, Nat.div_le_div_right (by omega)⟩
end Go.Ev.W
namespace Go.Ev.W
open Go.Ev Go.Ev.N

theorem and64i {x y : Nat} (hx : x < 2 ^ 63) (hy : y < 2 ^ 63) : bitsOp .and .i64 (x : Int) (y : Int) = ((x &&& y : Nat) : Int) := by
  have h0 : x &&& y < 2 ^ 63 := Nat.and_lt_two_pow (n := 63) x hy
  have e : (BitVec.ofInt 64 (x : Int) &&& BitVec.ofInt 64 (y : Int)).toNat = x &&& y := by
    rw [BitVec.toNat_and, b64 (by omega), b64 (by omega), BitVec.toNat_ofNat, BitVec.toNat_ofNat, Nat.mod_eq_of_lt (by omega), Nat.mod_eq_of_lt (by omega)]
  show IntKind.i64.wrap ((BitVec.ofInt 64 (x : Int) &&& BitVec.ofInt 64 (y : Int)).toNat : Int) = _
  rw [e]
  exact wrap64 (by omega) (by omega)
theorem and_mod {g k : Nat} (hg : g < 2 ^ 63) (hk : k ≤ 16) : bitsOp .and .i64 (g : Int) (((2 ^ k : Nat) : Int) - 1) = ((g % 2 ^ k : Nat) : Int) := by
  have hp : 2 ^ k ≤ 2 ^ 16 := Nat.pow_le_pow_right (by omega) hk
  have hp0 : 0 < 2 ^ k := Nat.pow_pos (by omega)
  rw [show ((2 ^ k : Nat) : Int) - 1 = ((2 ^ k - 1 : Nat) : Int) by omega, and64i hg (by omega), Nat.and_two_pow_sub_one_eq_mod]
theorem shlI {k : Nat} (h : k ≤ 16) : (1 : Int) * 2 ^ min ((k : Nat) : Int).toNat IntKind.i64.bits = ((2 ^ k : Nat) : Int) := by
  rw [Int.toNat_natCast, show min k IntKind.i64.bits = k from Nat.min_eq_left (by show k ≤ 64; omega)]
  simp
theorem shrI {g k : Nat} (h : k ≤ 16) : ((g : Nat) : Int).fdiv (2 ^ min ((k : Nat) : Int).toNat IntKind.i64.bits) = ((g / 2 ^ k : Nat) : Int) := by
  rw [Int.toNat_natCast, show min k IntKind.i64.bits = k from Nat.min_eq_left (by show k ≤ 64; omega)]
  have : ((2 : Int) ^ k) = ((2 ^ k : Nat) : Int) := by simp
  rw [this, Int.fdiv_eq_ediv_of_nonneg _ (Int.natCast_nonneg _)]
  exact (Int.natCast_ediv g (2 ^ k)).symm
def sN : AV := .agg [.lst t_api_Tree []]
def SlOkI (g c : Int) : Prop := 1 ≤ c ∧ c ≤ 17 ∧ 1 ≤ g ∧ g ≤ 65536 ∧ g.toNat % 2 ^ (c.toNat - 1) = 0
instance (g c : Int) : Decidable (SlOkI g c) := by unfold SlOkI; infer_instance
theorem SlOkI.ok {g c : Nat} (h : SlOkI g c) : SlOk g c := ⟨by have := h.1; omega, by have := h.2.1; omega, by have := h.2.2.1; omega, by have := h.2.2.2.1; omega, by have := h.2.2.2.2; simpa using this⟩
theorem SlOk.int {g c : Nat} (h : SlOk g c) : SlOkI g c := ⟨by have := h.c1; omega, by have := h.c17; omega, by have := h.g1; omega, by have := h.g2; omega, by simpa using h.dv⟩
theorem upB_off : ∀ k, upB offB k = offB
  | 0 => rfl
  | k + 1 => by
    funext i
    show (upB offB k (2 * i) || upB offB k (2 * i + 1)) = _
    rw [upB_off k]; rfl
set_option maxHeartbeats 4000000 in
theorem slNew_told {g c : Nat} (h : SlOk g c) : Told P T slots_New [] [i64 g, i64 c] (eS g c offB) [] := by
  obtain ⟨k1, hk1⟩ : ∃ k, c = k + 1 := ⟨c - 1, by have := h.c1; omega⟩
  have h1 := h.c17
  have h2 := h.g1
  have h3 := h.g2
  have hsl := shlI (k := k1) (by omega)
  have hand := and_mod (g := g) (k := k1) (by omega) (by omega)
  have hp : 2 ^ k1 ≤ 2 ^ 16 := Nat.pow_le_pow_right (by omega) (by omega)
  have hp0 : 0 < 2 ^ k1 := Nat.pow_pos (by omega)
  rw [show g % 2 ^ k1 = 0 by have := h.dv; rw [hk1] at this; exact this] at hand
  have hcv : IntKind.u64.wrap ((c : Int) - 1) = (k1 : Nat) := by rw [show (c : Int) - 1 = (k1 : Nat) by omega]; exact wrapU64 (by omega) (by omega)
  refine told_of_ev (fn := slots_New_fn) tabOk mixed (by kernel_rfl) (by kernel_rfl) (by kernel_rfl) (by kernel_rfl) ?_
  (refine gw ?_; refine IfB.ff (by simp; omega) ?_)
  (refine gw ?_; refine IfB.ff (by simp; omega) ?_)
  (refine gw ?_; refine IfB.ff (by simp; omega) ?_)
  (refine gw ?_; refine IfB.ff (by simp; omega) ?_)
  (refine gw ?_)
  rw [show (c : Int) - 1 = (k1 : Nat) by omega, hsl]
  (refine gw ?_)
  rw [hand]
  (refine gw ?_)
  (refine gw ?_; refine LoopN.mk ⟨[0,4,31,32], fun vs L => ∃ k : Nat, vs = [i64 g, .ptr 0 0 0, i64 c, i64 k] ∧ L = [.var (.agg [.ref 1]), .row t_api_Tree (tL g k offB)] ∧ k ≤ c, fun vs L => match vs with | [_, _, _, .int _ i] => c - i.toNat | _ => 0, [], [0,1], rfl, ⟨0, rfl, rfl, by omega⟩, ?_⟩)
  rintro vs L ⟨k, rfl, rfl, hk⟩
  by_cases hkc : k < c
  · have hs := shrI (g := g) (k := k) (by omega)
    have hz := h.sz hkc
    have d1 := newR_told hz.1 hz.2.1
    have hu : tL g k offB ++ [eTr (g / 2 ^ k) offB] = tL g (k + 1) offB := by
      rw [tL_suc]
      unfold tS
      rw [upB_off]
    have htl := tL_len g k offB
    (refine gw ?_; refine IfB.tt (by simp; omega) ?_)
    (refine gw ?_)
    rw [hs]
    (refine gw ?_; refine Choice.mk ⟨false, Choice.mk ⟨false, _, _, d1, ?_⟩⟩)
    (refine gw ?_)
    refine Room.mk (by rw [htl]; simp; omega) ?_
    (refine gw ?_; refine ⟨[], [0,3], rfl, ⟨k + 1, rfl, by rw [← hu]; rfl, hkc⟩, (by omega : c - ((k : Int) + 1).toNat < c - (k : Int).toNat)⟩)
  · obtain rfl : k = c := by omega
    (refine gw ?_)
    exact RetN.fz ⟨[true], [], rfl, rfl, rfl⟩
set_option maxHeartbeats 4000000 in
theorem slNewNo_told {g c : Int} (h : ¬ SlOkI g c) (hg : -9223372036854775808 ≤ g ∧ g ≤ 9223372036854775807) (hc : -9223372036854775808 ≤ c ∧ c ≤ 9223372036854775807) : Told P T slots_New [] [i64 g, i64 c] sN [] := by
  refine told_of_ev (fn := slots_New_fn) tabOk mixed (by kernel_rfl) (by kernel_rfl) (by kernel_rfl) (by kernel_rfl) ?_
  by_cases h1 : c < 1
  · (refine gw ?_; refine IfB.tt (by simp; omega) ?_)
    (refine gw ?_)
    exact RetN.fz ⟨[true], [], rfl, rfl, rfl⟩
  · (refine gw ?_; refine IfB.ff (by simp; omega) ?_)
    by_cases h2 : c > 17
    · (refine gw ?_; refine IfB.tt (by simp; omega) ?_)
      (refine gw ?_)
      exact RetN.fz ⟨[true], [], rfl, rfl, rfl⟩
    · (refine gw ?_; refine IfB.ff (by simp; omega) ?_)
      by_cases h3 : g < 1
      · (refine gw ?_; refine IfB.tt (by simp; omega) ?_)
        (refine gw ?_)
        exact RetN.fz ⟨[true], [], rfl, rfl, rfl⟩
      · (refine gw ?_; refine IfB.ff (by simp; omega) ?_)
        by_cases h4 : g > 65536
        · (refine gw ?_; refine IfB.tt (by simp; omega) ?_)
          (refine gw ?_)
          exact RetN.fz ⟨[true], [], rfl, rfl, rfl⟩
        · (refine gw ?_; refine IfB.ff (by simp; omega) ?_)
          obtain ⟨n, rfl⟩ : ∃ n : Nat, g = n := ⟨g.toNat, by omega⟩
          obtain ⟨k, rfl⟩ : ∃ k : Nat, c = k + 1 := ⟨c.toNat - 1, by omega⟩
          have hsl := shlI (k := k) (by omega)
          have hand := and_mod (g := n) (k := k) (by omega) (by omega)
          have hp : 2 ^ k ≤ 2 ^ 16 := Nat.pow_le_pow_right (by omega) (by omega)
          have hp0 : 0 < 2 ^ k := Nat.pow_pos (by omega)
          have hne : n % 2 ^ k ≠ 0 := fun e => h ⟨by omega, by omega, by omega, by omega, by
            rw [Int.toNat_natCast, show ((k : Int) + 1).toNat - 1 = k by omega]; exact e⟩
          (refine gw ?_)
          rw [show (k : Int) + 1 - 1 = (k : Nat) by omega]
          (refine gw ?_)
          rw [hsl]
          (refine gw ?_)
          rw [hand]
          generalize n % 2 ^ k = r at *
          (refine gw ?_; refine IfB.tt (by simp; omega) ?_)
          (refine gw ?_)
          exact RetN.fz ⟨[true], [], rfl, rfl, rfl⟩
end Go.Ev.W
namespace Go.Ev.W
open Go.Ev Go.Ev.N

theorem setZ_none (b : Nat → Bool) (on : Bool) : setZ b 0 0 on = b := by
  funext x
  unfold setZ
  rw [if_neg (by omega)]
set_option maxHeartbeats 4000000 in
theorem slTwin_told {g c : Nat} (h : SlOk g c) (b : Nat → Bool) : Told P T slots_twin [] [eS g c b] (.agg [.ref 0]) [.row t_api_Tree (tL g c b)] := by
  have h1 := h.c17
  have htl := tL_len g c b
  refine told_of_ev (fn := slots_twin_fn) tabOk mixed (by kernel_rfl) (by kernel_rfl) (by kernel_rfl) (by kernel_rfl) ?_
  (refine gw ?_; refine LoopN.mk ⟨[2,6,7,8], fun vs L => ∃ k : Nat, vs = [.ptr 0 0 0, .lst t_api_Tree (tL g c b), i64 (tL g c b).length, i64 k] ∧ L = [.var (.agg [.ref 1]), .row t_api_Tree (tL g k b)] ∧ k ≤ c, fun vs L => match vs with | [_, _, _, .int _ i] => c - i.toNat | _ => 0, [], [1,2], rfl, ⟨0, rfl, rfl, by omega⟩, ?_⟩)
  rintro vs L ⟨k, rfl, rfl, hk⟩
  by_cases hkc : k < c
  · have hz := h.sz hkc
    have d1 : Told P T tree_Set [] [eTr (g / 2 ^ k) (upB b k), i64 0, i64 0, .bool true] (tS g b k) [] := by
      have := treeSet_told hz.1 hz.2.1 (upB b k) 0 0 (by omega) true
      rw [setZ_none] at this
      exact this
    have hu := tL_suc g k b
    have htk := tL_len g k b
    (refine gw ?_; refine IfB.tt (by simp; omega) ?_)
    (refine gw ?_)
    refine tL_idx hkc ?_
    (refine gw ?_; refine Choice.mk ⟨false, Choice.mk ⟨false, _, _, d1, ?_⟩⟩)
    (refine gw ?_)
    refine Room.mk (by rw [htk]; simp; omega) ?_
    (refine gw ?_; refine ⟨[], [0,5], rfl, ⟨k + 1, rfl, by rw [hu]; rfl, hkc⟩, (by omega : c - ((k : Int) + 1).toNat < c - (k : Int).toNat)⟩)
  · obtain rfl : k = c := by omega
    (refine gw ?_; refine IfB.ff (by rw [htl]; simp) ?_)
    (refine gw ?_)
    exact RetN.mk ⟨[1], rfl, rfl, rfl⟩
theorem slTaken_told {n : Nat} (hn : 1 ≤ n) (hn2 : n ≤ 65536) (b : Nat → Bool) (i : Int) (hi : -1000000 ≤ i ∧ i ≤ 1000000) : Told P T slots_taken [] [eTr n b, i64 i] (.bool (hasT n b (2 * i) || hasT n b (2 * i + 1))) [] := by
  have d1 := treeHas_told hn hn2 b (2 * i) (by omega)
  have d2 := treeHas_told hn hn2 b (2 * i + 1) (by omega)
  refine told_of_ev (fn := slots_taken_fn) tabOk mixed (by kernel_rfl) (by kernel_rfl) (by kernel_rfl) (by kernel_rfl) ?_
  (refine gw ?_; refine Choice.mk ⟨false, Choice.mk ⟨false, _, _, d1, ?_⟩⟩)
  cases h1 : hasT n b (2 * i)
  · (refine gw ?_; refine Choice.mk ⟨false, Choice.mk ⟨false, _, _, d2, ?_⟩⟩)
    (refine gw ?_; exact RetN.mk ⟨[], rfl, rfl, rfl⟩)
  · (refine gw ?_; exact RetN.mk ⟨[], rfl, rfl, rfl⟩)
/-- Granules live, or not, for all classes up to one. -/
def usL (g c : Nat) (b b' : Nat → Bool) (k : Nat) : List AV := (List.range c).map fun j => if j < k then tS g b' j else tS g b j
theorem usL_len (g c : Nat) (b b' : Nat → Bool) (k : Nat) : (usL g c b b' k).length = c := by simp [usL]
theorem usL_zero (g c : Nat) (b b' : Nat → Bool) : usL g c b b' 0 = tL g c b := by
  unfold usL tL
  exact List.map_congr_left fun j _ => by rw [if_neg (by omega)]
theorem usL_end (g c : Nat) (b b' : Nat → Bool) : usL g c b b' c = tL g c b' := by
  unfold usL tL
  exact List.map_congr_left fun j hj => by rw [if_pos (by simpa using hj)]
theorem usL_set {g c k : Nat} {b b' : Nat → Bool} : (usL g c b b' k).set k (tS g b' k) = usL g c b b' (k + 1) := by
  unfold usL
  apply List.ext_getElem (by simp)
  intro j h1 h2
  rw [List.getElem_set]
  simp only [List.getElem_map, List.getElem_range]
  split
  · rename_i e; subst e; rw [if_pos (by omega)]
  · rename_i e
    by_cases hj : j < k
    · rw [if_pos hj, if_pos (by omega)]
    · rw [if_neg hj, if_neg (by omega)]
theorem usL_at {g c k j : Nat} {b b' : Nat → Bool} (h : j < c) {Q : AV → Prop} (q : Q (if j < k then tS g b' j else tS g b j)) : At (usL g c b b' k) ((j : Nat) : Int).toNat Q := by
  unfold usL
  refine at_map (k := j) (by simpa using h) ?_
  rw [List.getElem_range]; exact q
/-- What a place's bit is, said by what is below. -/
theorem up_taken {g c k : Nat} (h : SlOk g c) (hk : k + 1 < c) (b : Nat → Bool) {i : Nat} (hi : i < g / 2 ^ (k + 1)) :
    (hasT (g / 2 ^ k) (upB b k) (2 * (i : Int)) || hasT (g / 2 ^ k) (upB b k) (2 * (i : Int) + 1)) = upB b (k + 1) i := by
  have hh := h.half hk
  have h1 : hasT (g / 2 ^ k) (upB b k) (2 * (i : Int)) = upB b k (2 * i) := hasT_nat (x := 2 * i) (by omega)
  have h2 : hasT (g / 2 ^ k) (upB b k) (2 * (i : Int) + 1) = upB b k (2 * i + 1) := hasT_nat (x := 2 * i + 1) (by omega)
  rw [h1, h2]; rfl
end Go.Ev.W
namespace Go.Ev.W
open Go.Ev Go.Ev.N

/-- A class's bits, while its two ends are looked at again. -/
def enB (b b' : Nat → Bool) (k lo hi : Nat) (on : Bool) (j : Nat) : Nat → Bool :=
  let B := setZ (upB b k) lo ((hi : Int) - lo + 1) on
  if 0 < k ∧ on = false then (if j = 0 then B else if j = 1 then setZ B lo 1 (upB b' k lo) else setZ (setZ B lo 1 (upB b' k lo)) hi 1 (upB b' k hi)) else B
theorem set1 (b : Nat → Bool) (lo : Nat) (v : Bool) (i : Nat) : setZ b lo 1 v i = if i = lo then v else b i := by
  unfold setZ
  by_cases h : i = lo
  · rw [if_pos (by omega), if_pos h]
  · rw [if_neg (by omega), if_neg h]
theorem enB_zero (b b' : Nat → Bool) (k lo hi : Nat) (on : Bool) : enB b b' k lo hi on 0 = setZ (upB b k) lo ((hi : Int) - lo + 1) on := by
  unfold enB
  split
  · rw [if_pos rfl]
  · rfl
theorem enB_off {b b' : Nat → Bool} {k lo hi : Nat} {on : Bool} (h : ¬ (0 < k ∧ on = false)) (j j' : Nat) : enB b b' k lo hi on j = enB b b' k lo hi on j' := by
  unfold enB
  rw [if_neg h, if_neg h]
theorem enB_one {b b' : Nat → Bool} {k lo hi : Nat} {on : Bool} (h : 0 < k ∧ on = false) : setZ (enB b b' k lo hi on 0) lo 1 (upB b' k lo) = enB b b' k lo hi on 1 := by
  unfold enB
  rw [if_pos h, if_pos h, if_pos rfl, if_neg (by omega), if_pos rfl]
theorem enB_two {b b' : Nat → Bool} {k lo hi : Nat} {on : Bool} (h : 0 < k ∧ on = false) : setZ (enB b b' k lo hi on 1) hi 1 (upB b' k hi) = enB b b' k lo hi on 2 := by
  unfold enB
  rw [if_pos h, if_pos h, if_neg (by omega), if_pos rfl, if_neg (by omega), if_neg (by omega)]
theorem enB_end {b : Nat → Bool} {f last k : Nat} {on : Bool} (h1 : f ≤ last) (i : Nat) : enB b (setB b f (last + 1 - f) on) k (f / 2 ^ k) (last / 2 ^ k) on 2 i = upB (setB b f (last + 1 - f) on) k i := by
  unfold enB
  cases on with
  | true =>
    rw [if_neg (by simp)]
    exact use_on (g := 0) h1
  | false =>
    by_cases hk : 0 < k
    · rw [if_pos ⟨hk, rfl⟩, if_neg (by omega), if_neg (by omega), set1, set1]
      by_cases e1 : i = last / 2 ^ k
      · rw [if_pos e1, e1]
      · rw [if_neg e1]
        by_cases e2 : i = f / 2 ^ k
        · rw [if_pos e2, e2]
        · rw [if_neg e2]
          exact use_off (g := 0) h1 ⟨e2, e1⟩
    · obtain rfl : k = 0 := by omega
      rw [if_neg (by omega)]
      show setZ b ((f / 2 ^ 0 : Nat) : Int) _ false i = setB b f (last + 1 - f) false i
      rw [Nat.pow_zero, Nat.div_one, Nat.div_one]
      unfold setZ setB
      by_cases hq : f ≤ i ∧ i ≤ last
      · rw [if_pos (by omega), if_pos (by omega)]
      · rw [if_neg (by omega), if_neg (by omega)]
theorem setB_last {g : Nat} {b : Nat → Bool} {f last : Nat} {n : Int} {on : Bool} (hf : f < g) (hl : (last : Int) = f + min n (g - f) - 1) (h1 : 1 ≤ n) : ∀ x, x < g → setB b f (last + 1 - f) on x = setZ b f n on x := by
  intro x hx
  unfold setB setZ
  by_cases hq : f ≤ x ∧ x < f + (last + 1 - f)
  · rw [if_pos hq, if_pos (by omega)]
  · rw [if_neg hq, if_neg (by omega)]
set_option maxRecDepth 20000 in
set_option maxHeartbeats 8000000 in
theorem slUse_told {g c : Nat} (h : SlOk g c) (b : Nat → Bool) (f n : Int) (hf : -9223372036854775808 ≤ f ∧ f ≤ 9223372036854775807) (hn : -9223372036854775808 ≤ n ∧ n ≤ 9223372036854775807) (on : Bool) :
    Told P T slots_Use [] [eS g c b, i64 f, i64 n, .bool on] (eS g c (setZ b f n on)) [] := by
  have h1 := h.c1
  have h2 := h.c17
  have h3 := h.g1
  have h4 := h.g2
  have htl := tL_len g c b
  have c1 := slTwin_told h b
  have hg0 : ((g / 2 ^ 0 : Nat) : Int) = g := by rw [Nat.pow_zero, Nat.div_one]
  have same : (f < 0 ∨ n < 1 ∨ f ≥ g) → eS g c (setZ b f n on) = eS g c b := fun hh => eS_congr fun x hx => by
    unfold setZ
    rw [if_neg (by omega)]
  refine told_of_ev (fn := slots_Use_fn) tabOk mixed (by kernel_rfl) (by kernel_rfl) (by kernel_rfl) (by kernel_rfl) ?_
  (refine gw ?_; refine Choice.mk ⟨false, Choice.mk ⟨false, _, _, c1, ?_⟩⟩)
  (refine gw ?_)
  rw [htl]
  (refine gw ?_; refine IfB.ff (by simp; omega) ?_)
  by_cases hf0 : f < 0
  · rw [same (.inl hf0)]
    (refine gw ?_; refine IfB.tt (by simp; omega) ?_)
    (refine gw ?_)
    exact RetN.fz ⟨[true], [], rfl, rfl, rfl⟩
  · (refine gw ?_; refine IfB.ff (by simp; omega) ?_)
    by_cases hn1 : n < 1
    · rw [same (.inr (.inl hn1))]
      (refine gw ?_; refine IfB.tt (by simp; omega) ?_)
      (refine gw ?_)
      exact RetN.fz ⟨[true], [], rfl, rfl, rfl⟩
    · (refine gw ?_; refine IfB.ff (by simp; omega) ?_)
      (refine gw ?_)
      refine tL_at (k := 0) (by omega) ?_
      by_cases hfg : f ≥ g
      · rw [same (.inr (.inr hfg))]
        (refine gw ?_; refine IfB.tt (by rw [hg0]; simp; omega) ?_)
        (refine gw ?_)
        exact RetN.fz ⟨[true], [], rfl, rfl, rfl⟩
      · (refine gw ?_; refine IfB.ff (by rw [hg0]; simp; omega) ?_)
        obtain ⟨a, rfl⟩ : ∃ a : Nat, f = a := ⟨f.toNat, by omega⟩
        (refine gw ?_)
        refine tL_at (k := 0) (by omega) ?_
        obtain ⟨last, hl⟩ : ∃ last : Nat, (last : Int) = (a : Int) + (if ((g / 2 ^ 0 : Nat) : Int) - (a : Int) < n then ((g / 2 ^ 0 : Nat) : Int) - (a : Int) else n) - 1 := ⟨((a : Int) + (if ((g / 2 ^ 0 : Nat) : Int) - (a : Int) < n then ((g / 2 ^ 0 : Nat) : Int) - (a : Int) else n) - 1).toNat, by rw [hg0]; split <;> omega⟩
        have hl2 : (last : Int) = a + min n (g - a) - 1 := by rw [hl, hg0]; split <;> omega
        have hal : a ≤ last := by omega
        have hlg : last < g := by omega
        have hend : eS g c (setB b a (last + 1 - a) on) = eS g c (setZ b a n on) := eS_congr (setB_last (by omega) hl2 (by omega))
        rw [← hend]
        have hB := fun k i => enB_end (b := b) (f := a) (last := last) (k := k) (on := on) hal i
        generalize hb' : setB b a (last + 1 - a) on = b' at *
        have hul := fun k => usL_len g c b b' k
        (refine gw ?_; refine LoopN.mk ⟨[1,3,8,9,10,54,55,56], fun vs L => ∃ k : Nat, vs = [i64 a, .bool on, .ptr 0 0 0, .ptr 1 0 0, i64 last, .ref 2, i64 (tL g c b).length, i64 k] ∧ L = [.var (.agg [.und]), .var (.agg [.ref 2]), .row t_api_Tree (usL g c b b' k)] ∧ k ≤ c, fun vs L => match vs with | [_, _, _, _, _, _, _, .int _ i] => c - i.toNat | _ => 0, [], [1,4,3], rfl, ⟨0, by rw [hl]; rfl, by rw [usL_zero]; rfl, by omega⟩, ?_⟩)
        rintro vs L ⟨k, rfl, rfl, hk⟩
        have hulk := hul k
        by_cases hkc : k < c
        · have hz := h.sz hkc
          have hs1 := shrI (g := a) (k := k) (by omega)
          have hs2 := shrI (g := last) (k := k) (by omega)
          have hlo : a / 2 ^ k ≤ last / 2 ^ k := Nat.div_le_div_right hal
          have hhi : last / 2 ^ k < g / 2 ^ k := by
            have := hz.2.2
            exact Nat.div_lt_of_lt_mul (by rw [Nat.mul_comm, this]; exact hlg)
          have hB := hB k
          have htk : ∀ k', k = k' + 1 → ∀ i, i < g / 2 ^ k → Told P T slots_taken [] [tS g b' k', i64 (i : Nat)] (.bool (upB b' k i)) [] := fun k' e i hi => by
            subst e
            have hz' := h.sz (k := k') (by omega)
            have := slTaken_told hz'.1 hz'.2.1 (upB b' k') i (by omega)
            rw [up_taken h hkc b' hi] at this
            exact this
          have hset := usL_set (g := g) (c := c) (k := k) (b := b) (b' := b')
          have hn0 : g / 2 ^ k = g / 2 ^ k := rfl
          generalize hlo' : a / 2 ^ k = lo at *
          generalize hhi' : last / 2 ^ k = hi at *
          have d1 := treeSet_told hz.1 hz.2.1 (upB b k) (lo : Nat) (((hi : Nat) : Int) - (lo : Nat) + 1) (by omega) on
          (refine gw ?_; refine IfB.tt (by rw [htl]; simp; omega) ?_)
          (refine gw ?_)
          refine usL_at hkc ?_
          rw [if_neg (Nat.lt_irrefl k)]
          (refine gw ?_)
          rw [hs1]
          (refine gw ?_)
          rw [hs2]
          (refine gw ?_; refine Choice.mk ⟨false, Choice.mk ⟨false, _, _, d1, ?_⟩⟩)
          (refine gw ?_; refine LoopN.mk ⟨[1,3,8,9,10,11,12,54,55,56,79,80,81], fun vs L => ∃ j : Nat, vs = [i64 a, .bool on, .ptr 0 0 0, .ptr 1 0 0, i64 last, i64 k, .ptr 3 0 0, .ref 2, i64 (tL g c b).length, i64 k, .lst t_int [i64 lo, i64 hi], i64 2, i64 j] ∧ L = [.var (.agg [.und]), .var (.agg [.ref 2]), .row t_api_Tree (usL g c b b' k), .var (eTr (g / 2 ^ k) (enB b b' k lo hi on j))] ∧ j ≤ 2, fun vs L => match vs with | [_, _, _, _, _, _, _, _, _, _, _, _, .int _ i] => 2 - i.toNat | _ => 0, [79], [0,1,2,3], rfl, ⟨0, rfl, by rw [enB_zero]; rfl, by omega⟩, ?_⟩)
          rintro vs L ⟨j, rfl, rfl, hj⟩
          rcases (show j = 0 ∨ j = 1 ∨ j = 2 by omega) with rfl | rfl | rfl
          · (refine gw ?_)
            refine ⟨_, by decide, rfl, ?_⟩
            by_cases hko : 0 < k ∧ on = false
            · obtain ⟨hk0, rfl⟩ := hko
              obtain ⟨k', rfl⟩ : ∃ k', k = k' + 1 := ⟨k - 1, by omega⟩
              have e1 := htk k' rfl lo (by omega)
              have e2 := treeSet_told hz.1 hz.2.1 (enB b b' (k' + 1) lo hi false 0) (lo : Nat) 1 (by omega) (upB b' (k' + 1) lo)
              rw [enB_one ⟨hk0, rfl⟩] at e2
              (refine gw ?_)
              rw [show ((k' + 1 : Nat) : Int) - 1 = (k' : Int) by omega]
              (refine gw ?_)
              refine usL_at (j := k') (by omega) ?_
              rw [if_pos (by omega)]
              (refine gw ?_; refine Choice.mk ⟨false, Choice.mk ⟨false, _, _, e1, ?_⟩⟩)
              (refine gw ?_; refine Choice.mk ⟨false, Choice.mk ⟨false, _, _, e2, ?_⟩⟩)
              (refine gw ?_; refine ⟨[], [0,1,2,3], rfl, ⟨1, rfl, rfl, by omega⟩, (by omega : 2 - (((0 : Nat) : Int) + 1).toNat < 2 - ((0 : Nat) : Int).toNat)⟩)
            · have eo := enB_off (b := b) (b' := b') (lo := lo) (hi := hi) hko 0 1
              rw [eo]
              by_cases hk0 : 0 < k
              · have hon : on = true := by cases on with
                  | true => rfl
                  | false => exact absurd ⟨hk0, rfl⟩ hko
                subst hon
                (refine gw ?_; refine IfB.tt (by simp; omega) ?_)
                (refine gw ?_; refine ⟨[], [0,1,2,3], rfl, ⟨1, rfl, rfl, by omega⟩, (by omega : 2 - (((0 : Nat) : Int) + 1).toNat < 2 - ((0 : Nat) : Int).toNat)⟩)
              · (refine gw ?_; refine IfB.ff (by simp; omega) ?_)
                (refine gw ?_; refine ⟨[], [0,1,2,3], rfl, ⟨1, rfl, rfl, by omega⟩, (by omega : 2 - (((0 : Nat) : Int) + 1).toNat < 2 - ((0 : Nat) : Int).toNat)⟩)
          · (refine gw ?_)
            refine ⟨_, by decide, rfl, ?_⟩
            by_cases hko : 0 < k ∧ on = false
            · obtain ⟨hk0, rfl⟩ := hko
              obtain ⟨k', rfl⟩ : ∃ k', k = k' + 1 := ⟨k - 1, by omega⟩
              have e1 := htk k' rfl hi (by omega)
              have e2 := treeSet_told hz.1 hz.2.1 (enB b b' (k' + 1) lo hi false 1) (hi : Nat) 1 (by omega) (upB b' (k' + 1) hi)
              rw [enB_two ⟨hk0, rfl⟩] at e2
              (refine gw ?_)
              rw [show ((k' + 1 : Nat) : Int) - 1 = (k' : Int) by omega]
              (refine gw ?_)
              refine usL_at (j := k') (by omega) ?_
              rw [if_pos (by omega)]
              (refine gw ?_; refine Choice.mk ⟨false, Choice.mk ⟨false, _, _, e1, ?_⟩⟩)
              (refine gw ?_; refine Choice.mk ⟨false, Choice.mk ⟨false, _, _, e2, ?_⟩⟩)
              (refine gw ?_; refine ⟨[], [0,1,2,3], rfl, ⟨2, rfl, rfl, by omega⟩, (by omega : 2 - (((1 : Nat) : Int) + 1).toNat < 2 - ((1 : Nat) : Int).toNat)⟩)
            · have eo := enB_off (b := b) (b' := b') (lo := lo) (hi := hi) hko 1 2
              rw [eo]
              by_cases hk0 : 0 < k
              · have hon : on = true := by cases on with
                  | true => rfl
                  | false => exact absurd ⟨hk0, rfl⟩ hko
                subst hon
                (refine gw ?_; refine IfB.tt (by simp; omega) ?_)
                (refine gw ?_; refine ⟨[], [0,1,2,3], rfl, ⟨2, rfl, rfl, by omega⟩, (by omega : 2 - (((1 : Nat) : Int) + 1).toNat < 2 - ((1 : Nat) : Int).toNat)⟩)
              · (refine gw ?_; refine IfB.ff (by simp; omega) ?_)
                (refine gw ?_; refine ⟨[], [0,1,2,3], rfl, ⟨2, rfl, rfl, by omega⟩, (by omega : 2 - (((1 : Nat) : Int) + 1).toNat < 2 - ((1 : Nat) : Int).toNat)⟩)
          · rw [show eTr (g / 2 ^ k) (enB b b' k lo hi on 2) = tS g b' k from eTr_congr fun i _ => hB i]
            (refine gw ?_; refine ⟨[], [0,1,2], rfl, ⟨k + 1, rfl, by rw [← hset]; rfl, hkc⟩, (by omega : c - ((k : Int) + 1).toNat < c - (k : Int).toNat)⟩)
        · obtain rfl : k = c := by omega
          (refine gw ?_; refine IfB.ff (by rw [htl]; simp) ?_)
          (refine gw ?_)
          rw [usL_end]
          exact RetN.fz ⟨[true], [], rfl, rfl, rfl⟩
end Go.Ev.W
namespace Go.Ev.W
open Go.Ev Go.Ev.N

/-- The lowest place of a class. -/
def lowS (g c : Nat) (b : Nat → Bool) (cl : Int) : Option Nat := if 0 ≤ cl ∧ cl < c then firI (g / 2 ^ cl.toNat) (upB b cl.toNat) 0 else none
set_option maxHeartbeats 2000000 in
theorem slLowest_told {g c : Nat} (h : SlOk g c) (b : Nat → Bool) (cl : Int) (hcl : -9223372036854775808 ≤ cl ∧ cl ≤ 9223372036854775807) : Told P T slots_Lowest [] [eS g c b, i64 cl] (eFir (lowS g c b cl)) [] := by
  have htl := tL_len g c b
  have h2 := h.c17
  refine told_of_ev (fn := slots_Lowest_fn) tabOk mixed (by kernel_rfl) (by kernel_rfl) (by kernel_rfl) (by kernel_rfl) ?_
  by_cases h3 : cl < 0
  · rw [show lowS g c b cl = none by unfold lowS; rw [if_neg (by omega)]]
    (refine gw ?_; refine IfB.tt (by simp; omega) ?_)
    (refine gw ?_; exact RetN.mk ⟨[], rfl, rfl, rfl⟩)
  · (refine gw ?_; refine IfB.ff (by simp; omega) ?_)
    obtain ⟨k, rfl⟩ : ∃ k : Nat, cl = k := ⟨cl.toNat, by omega⟩
    by_cases h4 : k < c
    · have hz := h.sz h4
      rw [show lowS g c b k = firI (g / 2 ^ k) (upB b k) 0 by unfold lowS; rw [if_pos (by omega), Int.toNat_natCast]]
      have c1 := treeFirst_told hz.1 hz.2.1 (upB b k) 0 (by omega)
      cases hf : firI (g / 2 ^ k) (upB b k) 0 with
      | none =>
        rw [hf] at c1
        (refine gw ?_; refine IfB.ff (by rw [htl]; simp; omega) ?_)
        (refine gw ?_)
        refine tL_idx h4 ?_
        (refine gw ?_; refine Choice.mk ⟨false, Choice.mk ⟨false, _, _, c1, ?_⟩⟩)
        (refine gw ?_; exact RetN.mk ⟨[], rfl, rfl, rfl⟩)
      | some i =>
        rw [hf] at c1
        (refine gw ?_; refine IfB.ff (by rw [htl]; simp; omega) ?_)
        (refine gw ?_)
        refine tL_idx h4 ?_
        (refine gw ?_; refine Choice.mk ⟨false, Choice.mk ⟨false, _, _, c1, ?_⟩⟩)
        (refine gw ?_; exact RetN.mk ⟨[], rfl, rfl, rfl⟩)
    · rw [show lowS g c b k = none by unfold lowS; rw [if_neg (by omega)]]
      (refine gw ?_; refine IfB.tt (by rw [htl]; simp; omega) ?_)
      (refine gw ?_; exact RetN.mk ⟨[], rfl, rfl, rfl⟩)
end Go.Ev.W
