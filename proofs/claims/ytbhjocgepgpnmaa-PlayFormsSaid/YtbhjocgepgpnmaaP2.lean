/- Words and lemmas, part 2, for laws of this seat (a part of their proofs). -/
import Derived.Test.YtbhjocgepgpnmaaP1
import Derived.Test.YtbhjocgepgpnmaaNm
import Derived.Test.YtbhjocgepgpnmaaEvOpen
import Derived.Test.YtbhjocgepgpnmaaEvLib
import Derived.Test.YtbhjocgepgpnmaaEvGrid
import Derived.Test.YtbhjocgepgpnmaaEvTrim
set_option linter.unusedVariables false
set_option linter.unusedSimpArgs false
namespace Go.Ev.W
open Go.Ev Go.Ev.N

abbrev u64 (n : Nat) : AV := .int .u64 (n : Int)
/-- A number of so many bits. -/
def wB : Nat → (Nat → Bool) → Nat
  | 0, _ => 0
  | n + 1, f => 2 ^ n * (f n).toNat + wB n f
theorem wB_lt : ∀ (n : Nat) (f : Nat → Bool), wB n f < 2 ^ n
  | 0, _ => by simp [wB]
  | n + 1, f => by
    have := wB_lt n f
    unfold wB
    rw [Nat.pow_succ]
    cases f n <;> simp <;> omega
theorem wB_bit : ∀ (n : Nat) (f : Nat → Bool) (j : Nat), (wB n f).testBit j = (decide (j < n) && f j)
  | 0, f, j => by simp [wB]
  | n + 1, f, j => by
    have hl := wB_lt n f
    have ih := wB_bit n f
    unfold wB
    cases hf : f n with
    | false =>
      simp only [Bool.toNat_false, Nat.mul_zero, Nat.zero_add]
      rw [ih j]
      by_cases hj : j = n
      · subst hj; simp [hf]
      · have : decide (j < n + 1) = decide (j < n) := decide_eq_decide.2 (by omega)
        rw [this]
    | true =>
      simp only [Bool.toNat_true, Nat.mul_one]
      rcases Nat.lt_trichotomy j n with h | h | h
      · rw [Nat.testBit_two_pow_add_gt h, ih j, decide_eq_true h, decide_eq_true (show j < n + 1 by omega)]
      · subst h
        rw [Nat.testBit_two_pow_add_eq, ih j]; simp [hf]
      · have h2 : 2 ^ n + wB n f < 2 ^ j := by
          have : 2 ^ (n + 1) ≤ 2 ^ j := Nat.pow_le_pow_right (by omega) (by omega)
          rw [Nat.pow_succ] at this
          omega
        rw [Nat.testBit_lt_two_pow h2, decide_eq_false (by omega)]; rfl
theorem wB_congr {n : Nat} {f g : Nat → Bool} (h : ∀ j, j < n → f j = g j) : wB n f = wB n g := by
  apply Nat.eq_of_testBit_eq
  intro j
  rw [wB_bit, wB_bit]
  by_cases hj : j < n
  · rw [h j hj]
  · rw [decide_eq_false hj]; rfl
-- operations on words
theorem b64 {x : Nat} (h : x < 2 ^ 64) : BitVec.ofInt 64 (x : Int) = BitVec.ofNat 64 x := BitVec.ofInt_natCast 64 x
theorem and64 {x y : Nat} (hx : x < 2 ^ 64) (hy : y < 2 ^ 64) : bitsOp .and .u64 (x : Int) (y : Int) = ((x &&& y : Nat) : Int) := by
  have h0 : x &&& y < 2 ^ 64 := Nat.and_lt_two_pow (n := 64) x hy
  have e : (BitVec.ofInt 64 (x : Int) &&& BitVec.ofInt 64 (y : Int)).toNat = x &&& y := by
    rw [BitVec.toNat_and, b64 hx, b64 hy, BitVec.toNat_ofNat, BitVec.toNat_ofNat, Nat.mod_eq_of_lt hx, Nat.mod_eq_of_lt hy]
  show IntKind.u64.wrap ((BitVec.ofInt 64 (x : Int) &&& BitVec.ofInt 64 (y : Int)).toNat : Int) = _
  rw [e]
  exact wrapU64 (by omega) (by omega)
theorem or64 {x y : Nat} (hx : x < 2 ^ 64) (hy : y < 2 ^ 64) : bitsOp .or .u64 (x : Int) (y : Int) = ((x ||| y : Nat) : Int) := by
  have h0 : x ||| y < 2 ^ 64 := Nat.or_lt_two_pow hx hy
  have e : (BitVec.ofInt 64 (x : Int) ||| BitVec.ofInt 64 (y : Int)).toNat = x ||| y := by
    rw [BitVec.toNat_or, b64 hx, b64 hy, BitVec.toNat_ofNat, BitVec.toNat_ofNat, Nat.mod_eq_of_lt hx, Nat.mod_eq_of_lt hy]
  show IntKind.u64.wrap ((BitVec.ofInt 64 (x : Int) ||| BitVec.ofInt 64 (y : Int)).toNat : Int) = _
  rw [e]
  exact wrapU64 (by omega) (by omega)
theorem andn64 {x y : Nat} (hx : x < 2 ^ 64) (hy : y < 2 ^ 64) : bitsOp .andNot .u64 (x : Int) (y : Int) = ((wB 64 fun j => x.testBit j && !y.testBit j : Nat) : Int) := by
  have h0 := wB_lt 64 fun j => x.testBit j && !y.testBit j
  have e : (BitVec.ofInt 64 (x : Int) &&& ~~~(BitVec.ofInt 64 (y : Int))).toNat = wB 64 fun j => x.testBit j && !y.testBit j := by
    apply Nat.eq_of_testBit_eq
    intro j
    rw [wB_bit, b64 hx, b64 hy, BitVec.testBit_toNat, BitVec.getLsbD_and, BitVec.getLsbD_not, BitVec.getLsbD_ofNat, BitVec.getLsbD_ofNat]
    by_cases hj : j < 64 <;> simp [hj]
  show IntKind.u64.wrap ((BitVec.ofInt 64 (x : Int) &&& ~~~(BitVec.ofInt 64 (y : Int))).toNat : Int) = _
  rw [e]
  exact wrapU64 (by omega) (by omega)
theorem not64 {x : Nat} (hx : x < 2 ^ 64) : bitsOp .xor .u64 18446744073709551615 (x : Int) = ((wB 64 fun j => !x.testBit j : Nat) : Int) := by
  have h0 := wB_lt 64 fun j => !x.testBit j
  have e : (BitVec.ofInt 64 (18446744073709551615 : Int) ^^^ BitVec.ofInt 64 (x : Int)).toNat = wB 64 fun j => !x.testBit j := by
    apply Nat.eq_of_testBit_eq
    intro j
    have hm : BitVec.ofInt 64 (18446744073709551615 : Int) = BitVec.allOnes 64 := by decide
    rw [wB_bit, b64 hx, hm, BitVec.testBit_toNat, BitVec.getLsbD_xor, BitVec.getLsbD_allOnes, BitVec.getLsbD_ofNat]
    by_cases hj : j < 64 <;> simp [hj]
  show IntKind.u64.wrap ((BitVec.ofInt 64 (18446744073709551615 : Int) ^^^ BitVec.ofInt 64 (x : Int)).toNat : Int) = _
  rw [e]
  exact wrapU64 (by omega) (by omega)
/-- The lowest bit that is set; 64: none. -/
def lowW (f : Nat → Bool) : Nat := (List.range 64).findIdx f
theorem lowW_eq {f : Nat → Bool} {n : Nat} (hn : n < 64) (h1 : f n = true) (h2 : ∀ j, j < n → f j = false) : lowW f = n := by
  unfold lowW
  rw [List.findIdx_eq (by simpa using hn)]
  exact ⟨by simpa using h1, fun j hj => by simpa using h2 j hj⟩
theorem lowW_none {f : Nat → Bool} (h : ∀ j, j < 64 → f j = false) : lowW f = 64 := by
  unfold lowW
  have : (List.range 64).findIdx f = (List.range 64).length := List.findIdx_eq_length.2 fun x hx => by simpa using h x (by simpa using hx)
  rw [this]; simp
theorem lowW_spec (f : Nat → Bool) : (lowW f = 64 ∧ ∀ j, j < 64 → f j = false) ∨ (lowW f < 64 ∧ f (lowW f) = true ∧ ∀ j, j < lowW f → f j = false) := by
  by_cases h : ∃ j, j < 64 ∧ f j = true
  · right
    have hlt : (List.range 64).findIdx f < (List.range 64).length := List.findIdx_lt_length_of_exists (by obtain ⟨j, h1, h2⟩ := h; exact ⟨j, by simpa using h1, h2⟩)
    have h64 : lowW f < 64 := by simpa [lowW] using hlt
    refine ⟨h64, ?_, fun j hj => ?_⟩
    · have := List.findIdx_getElem (p := f) (xs := List.range 64) (w := hlt)
      simpa [lowW] using this
    · have := List.not_of_lt_findIdx (p := f) (xs := List.range 64) (i := j) hj
      simpa using this
  · left
    have h : ∀ j, j < 64 → f j = false := fun j hj => by
      cases hf : f j with
      | false => rfl
      | true => exact absurd ⟨j, hj, hf⟩ h
    exact ⟨lowW_none h, h⟩
theorem low_eq {u n : Nat} (hn : n < 64) (h1 : u % 2 ^ n = 0) (h2 : (u / 2 ^ n) % 2 = 1) : lowW u.testBit = n := by
  refine lowW_eq hn ?_ fun j hj => ?_
  · rw [Nat.testBit_eq_decide_div_mod_eq, h2]; rfl
  · obtain ⟨q, hq⟩ := Nat.dvd_of_mod_eq_zero h1
    rw [Nat.testBit_eq_decide_div_mod_eq, hq, show n = j + (1 + (n - j - 1)) by omega, Nat.pow_add, Nat.pow_add, Nat.mul_assoc, Nat.mul_div_cancel_left _ (Nat.two_pow_pos j), Nat.pow_one, Nat.mul_assoc]
    simp
structure LowI (u0 k u n : Nat) : Prop where
  eq : u = u0 / 2 ^ n
  z : u0 % 2 ^ n = 0
  m : u % 2 ^ k ≠ 0
  le : n + k ≤ 64
theorem LowI.step {u0 k u n : Nat} (h : LowI u0 (k + k) u n) : LowI u0 k (if u % 2 ^ k = 0 then u / 2 ^ k else u) (if u % 2 ^ k = 0 then n + k else n) := by
  obtain ⟨h1, h2, h3, h4⟩ := h
  split
  · rename_i hz
    obtain ⟨q, hq⟩ := Nat.dvd_of_mod_eq_zero hz
    obtain ⟨p, hp⟩ := Nat.dvd_of_mod_eq_zero h2
    have hpu : p = u := by rw [h1, hp, Nat.mul_div_cancel_left _ (Nat.two_pow_pos n)]
    refine ⟨?_, ?_, ?_, by omega⟩
    · rw [h1, Nat.div_div_eq_div_mul, ← Nat.pow_add]
    · rw [hp, hpu, hq, ← Nat.mul_assoc, ← Nat.pow_add]
      exact Nat.mul_mod_right _ _
    · intro h
      rw [hq, Nat.mul_div_cancel_left _ (Nat.two_pow_pos k)] at h
      obtain ⟨r, hr⟩ := Nat.dvd_of_mod_eq_zero h
      apply h3
      rw [hq, hr, ← Nat.mul_assoc, ← Nat.pow_add]
      exact Nat.mul_mod_right _ _
  · rename_i hz
    exact ⟨h1, h2, hz, by omega⟩
theorem shl1 {k : Nat} (h : k < 64) : (1 : Int) * 2 ^ min ((k : Nat) : Int).toNat IntKind.u64.bits = ((2 ^ k : Nat) : Int) := by
  rw [Int.toNat_natCast, show min k IntKind.u64.bits = k from Nat.min_eq_left (by show k ≤ 64; omega), Int.one_mul]
  simp
theorem shr64 {u k : Nat} (h : k < 64) : ((u : Nat) : Int).fdiv (2 ^ min ((k : Nat) : Int).toNat IntKind.u64.bits) = ((u / 2 ^ k : Nat) : Int) := by
  rw [Int.toNat_natCast, show min k IntKind.u64.bits = k from Nat.min_eq_left (by show k ≤ 64; omega)]
  have : (2 : Int) ^ k = ((2 ^ k : Nat) : Int) := by simp
  rw [this, Int.fdiv_eq_ediv_of_nonneg _ (Int.natCast_nonneg _)]
  exact (Int.natCast_ediv u (2 ^ k)).symm
theorem pow_le63 {k : Nat} (h : k ≤ 63) : 1 ≤ 2 ^ k ∧ 2 ^ k ≤ 9223372036854775808 := ⟨Nat.two_pow_pos k, Nat.pow_le_pow_right (n := 2) (by omega) h⟩
set_option maxHeartbeats 4000000 in
theorem lowOne_told {u0 : Nat} (h0 : u0 < 2 ^ 64) : Told P T word_LowOne [] [u64 u0] (i64 (lowW u0.testBit : Nat)) [] := by
  refine told_of_ev (fn := word_LowOne_fn) tabOk mixed (by kernel_rfl) (by kernel_rfl) (by kernel_rfl) (by kernel_rfl) ?_
  by_cases hz : u0 = 0
  · subst hz
    rw [lowW_none fun j _ => by simp]
    (refine gw ?_; exact RetN.mk ⟨[], rfl, rfl, rfl⟩)
  · (refine gw ?_; refine IfB.ff (by simp; omega) ?_)
    (refine gw ?_; refine LoopN.mk ⟨[0,2,3], fun vs L => ∃ (i u n : Nat), vs = [u64 u, i64 n, u64 (if i = 0 then 0 else 2 ^ (i - 1) : Nat)] ∧ L = [] ∧ i ≤ 6 ∧ LowI u0 (2 ^ i) u n, fun vs L => match vs with | [_, _, .int _ i] => i.toNat | _ => 0, [], [], rfl, ⟨6, u0, 0, rfl, rfl, by omega, ⟨by simp, by simp [Nat.mod_one], by rw [show (2 : Nat) ^ 6 = 64 by decide, Nat.mod_eq_of_lt h0]; exact hz, by decide⟩⟩, ?_⟩)
    rintro vs L ⟨i, u, n, rfl, rfl, hi, hI⟩
    rcases Nat.eq_zero_or_pos i with hi0 | hi0
    · subst hi0
      obtain ⟨e1, e2, e3, e4⟩ := hI
      have hl := low_eq (u := u0) (n := n) (by simp at e4; omega) e2 (by rw [← e1]; simp at e3; omega)
      rw [hl]
      (refine gw ?_; exact RetN.mk ⟨[], rfl, rfl, rfl⟩)
    · obtain ⟨k, hk⟩ : ∃ k, 2 ^ (i - 1) = k := ⟨_, rfl⟩
      have hk2 : 2 ^ i = k + k := by
        rw [← hk]
        conv => lhs; rw [show i = (i - 1) + 1 by omega, Nat.pow_succ]
        omega
      have hk32 : k ≤ 32 ∧ 1 ≤ k := by rw [← hk]; exact ⟨Nat.le_trans (Nat.pow_le_pow_right (by omega) (show i - 1 ≤ 5 by omega)) (by decide), Nat.two_pow_pos _⟩
      rw [hk2] at hI
      rw [if_neg (by omega), hk]
      have hst := hI.step
      have hul : u < 2 ^ 64 := by rw [hI.eq]; exact Nat.lt_of_le_of_lt (Nat.div_le_self _ _) h0
      have hp := pow_le63 (k := k) (by omega)
      have hsl := shl1 (k := k) (by omega)
      have hand : bitsOp .and .u64 ((u : Nat) : Int) (((2 ^ k : Nat) : Int) - 1) = ((u % 2 ^ k : Nat) : Int) := by
        rw [show ((2 ^ k : Nat) : Int) - 1 = ((2 ^ k - 1 : Nat) : Int) by omega, and64 hul (by omega), Nat.and_two_pow_sub_one_eq_mod]
      have hnx : (((k : Nat) : Int)).fdiv (2 ^ min (1 : Int).toNat IntKind.u64.bits) = ((if i - 1 = 0 then 0 else 2 ^ (i - 1 - 1) : Nat) : Int) := by
        have := shr64 (u := k) (k := 1) (by omega)
        rw [show ((1 : Nat) : Int) = (1 : Int) from rfl] at this
        rw [this, ← hk]
        split
        · rename_i h; rw [h]
        · rename_i h
          conv => lhs; rw [show i - 1 = (i - 1 - 1) + 1 by omega, Nat.pow_succ]
          simp
      have hhalf : (if i - 1 = 0 then 0 else 2 ^ (i - 1 - 1) : Nat) < k := by
        rw [← hk]
        split
        · rename_i h; rw [h]; decide
        · rename_i h; exact Nat.pow_lt_pow_right (by omega) (by omega)
      have hn64 := hI.le
      (refine gw ?_; refine IfB.tt (by simp; omega) ?_)
      (refine gw ?_)
      rw [hsl, hand]
      obtain ⟨hf, hhf⟩ : ∃ hf, (if i - 1 = 0 then 0 else 2 ^ (i - 1 - 1) : Nat) = hf := ⟨_, rfl⟩
      rw [hhf] at hnx hhalf
      obtain ⟨um, hum⟩ : ∃ um, u % 2 ^ k = um := ⟨_, rfl⟩
      rw [hum] at hst ⊢
      by_cases hm : um = 0
      · rw [if_pos hm, if_pos hm] at hst
        have hsr := shr64 (u := u) (k := k) (by omega)
        (refine gw ?_; refine IfB.tt (by rw [hm]; rfl) ?_)
        (refine gw ?_)
        rw [hsr]
        (refine gw ?_)
        rw [hnx]
        (refine gw ?_; refine ⟨[], [], rfl, ⟨i - 1, u / 2 ^ k, n + k, by rw [hhf]; rfl, rfl, by omega, by rw [hk]; exact hst⟩, (by omega : ((hf : Nat) : Int).toNat < ((k : Nat) : Int).toNat)⟩)
      · rw [if_neg hm, if_neg hm] at hst
        (refine gw ?_; refine IfB.ff (by simp; omega) ?_)
        (refine gw ?_)
        rw [hnx]
        (refine gw ?_; refine ⟨[], [], rfl, ⟨i - 1, u, n, by rw [hhf]; rfl, rfl, by omega, by rw [hk]; exact hst⟩, (by omega : ((hf : Nat) : Int).toNat < ((k : Nat) : Int).toNat)⟩)
theorem lowZero_told {u : Nat} (h : u < 2 ^ 64) : Told P T word_LowZero [] [u64 u] (i64 (lowW fun j => !u.testBit j : Nat)) [] := by
  have c1 := lowOne_told (wB_lt 64 fun j => !u.testBit j)
  have e : lowW (wB 64 fun j => !u.testBit j).testBit = lowW fun j => !u.testBit j := by
    have h1 : ∀ j, j < 64 → (wB 64 fun j => !u.testBit j).testBit j = !u.testBit j := fun j hj => by rw [wB_bit, decide_eq_true hj, Bool.true_and]
    rcases lowW_spec fun j => !u.testBit j with ⟨e1, e2⟩ | ⟨e1, e2, e3⟩
    · rw [e1]; exact lowW_none fun j hj => by rw [h1 j hj]; exact e2 j hj
    · exact lowW_eq e1 (by rw [h1 _ e1]; exact e2) fun j hj => by rw [h1 j (by omega)]; exact e3 j hj
  rw [e] at c1
  have hx : bitsOp .xor .u64 (if IntKind.u64.signed = true then -1 else IntKind.u64.max) ((u : Nat) : Int) = ((wB 64 fun j => !u.testBit j : Nat) : Int) := not64 h
  refine told_of_ev (fn := word_LowZero_fn) tabOk mixed (by kernel_rfl) (by kernel_rfl) (by kernel_rfl) (by kernel_rfl) ?_
  (refine gw ?_)
  rw [hx]
  (refine gw ?_; refine Choice.mk ⟨false, Choice.mk ⟨true, _, _, c1, ?_⟩⟩)
  (refine gw ?_; exact RetN.mk ⟨[], rfl, rfl, rfl⟩)
/-- Some bits of a word from one on. -/
def maskF (i n : Int) : Nat := if i < 0 ∨ n ≤ 0 ∨ i ≥ 64 then 0 else wB 64 fun j => decide (i ≤ j) && decide ((j : Int) < i + n)
theorem maskF_lt (i n : Int) : maskF i n < 2 ^ 64 := by
  unfold maskF; split
  · decide
  · exact wB_lt _ _
theorem maskF_bit {i n : Int} {j : Nat} (hj : j < 64) (hi : 0 ≤ i) : (maskF i n).testBit j = (decide (i ≤ j) && decide ((j : Int) < i + n)) := by
  unfold maskF
  split
  · rename_i h
    rw [Nat.zero_testBit]
    by_cases h1 : i ≤ (j : Int)
    · rw [decide_eq_false (show ¬ ((j : Int) < i + n) by omega), Bool.and_false]
    · rw [decide_eq_false h1]; rfl
  · rw [wB_bit, decide_eq_true hj, Bool.true_and]
theorem shl64 {u k : Nat} (h : k < 64) : IntKind.u64.wrap (((u : Nat) : Int) * 2 ^ min ((k : Nat) : Int).toNat IntKind.u64.bits) = ((u * 2 ^ k % 2 ^ 64 : Nat) : Int) := by
  rw [Int.toNat_natCast, show min k IntKind.u64.bits = k from Nat.min_eq_left (by show k ≤ 64; omega), IntKind.wrap_u64]
  have : ((u : Nat) : Int) * 2 ^ k = ((u * 2 ^ k : Nat) : Int) := by simp
  rw [this]
  exact (Int.natCast_emod (u * 2 ^ k) (2 ^ 64)).symm
theorem mask_word {i n : Nat} (hi : i < 64) (hn : 1 ≤ n) : (if n < 64 then 2 ^ n - 1 else 2 ^ 64 - 1) * 2 ^ i % 2 ^ 64 = maskF i n := by
  apply Nat.eq_of_testBit_eq
  intro j
  rw [Nat.testBit_mod_two_pow, Nat.testBit_mul_two_pow]
  have h0 : (if n < 64 then 2 ^ n - 1 else 2 ^ 64 - 1 : Nat) = 2 ^ (if n < 64 then n else 64) - 1 := by split <;> rfl
  rw [h0, Nat.testBit_two_pow_sub_one]
  by_cases hj : j < 64
  · rw [maskF_bit hj (by omega), decide_eq_true hj, Bool.true_and]
    by_cases hij : i ≤ j
    · rw [decide_eq_true (show j ≥ i from hij), decide_eq_true (show (i : Int) ≤ (j : Int) by omega), Bool.true_and, Bool.true_and]
      refine decide_eq_decide.2 ?_
      split <;> omega
    · rw [decide_eq_false (show ¬ j ≥ i from hij), decide_eq_false (show ¬ (i : Int) ≤ (j : Int) by omega)]; rfl
  · rw [decide_eq_false hj, Nat.testBit_lt_two_pow (Nat.lt_of_lt_of_le (maskF_lt _ _) (Nat.pow_le_pow_right (by omega) (by omega)))]; rfl
set_option maxHeartbeats 2000000 in
theorem mask_told (i n : Int) (hi : i ≤ 1000000) (hn : -1000000000000 ≤ n ∧ n ≤ 1000000000000) : Told P T word_Mask [] [i64 i, i64 n] (u64 (maskF i n)) [] := by
  refine told_of_ev (fn := word_Mask_fn) tabOk mixed (by kernel_rfl) (by kernel_rfl) (by kernel_rfl) (by kernel_rfl) ?_
  by_cases h1 : i < 0
  · rw [show maskF i n = 0 by unfold maskF; rw [if_pos (.inl h1)]]
    (refine gw ?_; refine IfB.tt (by simpa using h1) ?_)
    (refine gw ?_; exact RetN.mk ⟨[], rfl, rfl, rfl⟩)
  · (refine gw ?_; refine IfB.ff (by simpa using h1) ?_)
    by_cases h2 : n ≤ 0
    · rw [show maskF i n = 0 by unfold maskF; rw [if_pos (.inr (.inl h2))]]
      (refine gw ?_; refine IfB.tt (by simpa using h2) ?_)
      (refine gw ?_; exact RetN.mk ⟨[], rfl, rfl, rfl⟩)
    · (refine gw ?_; refine IfB.ff (by simpa using h2) ?_)
      by_cases h3 : i ≥ 64
      · rw [show maskF i n = 0 by unfold maskF; rw [if_pos (.inr (.inr h3))]]
        (refine gw ?_; refine IfB.tt (by simpa using h3) ?_)
        (refine gw ?_; exact RetN.mk ⟨[], rfl, rfl, rfl⟩)
      · (refine gw ?_; refine IfB.ff (by simpa using h3) ?_)
        obtain ⟨a, rfl⟩ : ∃ a : Nat, i = a := ⟨i.toNat, by omega⟩
        obtain ⟨b, rfl⟩ : ∃ b : Nat, n = b := ⟨n.toNat, by omega⟩
        have hm := mask_word (i := a) (n := b) (by omega) (by omega)
        by_cases h4 : b < 64
        · have hs1 := shl1 (k := b) (by omega)
          have hp := pow_le63 (k := b) (by omega)
          have hs2 := shl64 (u := 2 ^ b - 1) (k := a) (by omega)
          rw [if_pos h4] at hm
          rw [hm] at hs2
          (refine gw ?_; refine IfB.tt (by simp; omega) ?_)
          (refine gw ?_)
          rw [hs1, show ((2 ^ b : Nat) : Int) - 1 = ((2 ^ b - 1 : Nat) : Int) by omega]
          refine ⟨?_⟩
          rw [hs2]
          (refine gw ?_; exact RetN.mk ⟨[], rfl, rfl, rfl⟩)
        · have hs2 := shl64 (u := 2 ^ 64 - 1) (k := a) (by omega)
          rw [if_neg h4] at hm
          rw [hm] at hs2
          have hs2 : IntKind.u64.wrap (18446744073709551615 * 2 ^ min ((a : Nat) : Int).toNat IntKind.u64.bits) = _ := hs2
          (refine gw ?_; refine IfB.ff (by simp; omega) ?_)
          (refine gw ?_)
          refine ⟨?_⟩
          rw [hs2]
          (refine gw ?_; exact RetN.mk ⟨[], rfl, rfl, rfl⟩)
end Go.Ev.W
namespace Go.Ev.W
open Go.Ev Go.Ev.N

def FW : Nat := 18446744073709551615
/-- Levels of words. -/
abbrev LV := List (List Nat)
def IsW (v : LV) : Prop := ∀ r ∈ v, ∀ u ∈ r, u < 2 ^ 64
def lR (r : List Nat) : AV := .lst t_uint64 (r.map u64)
def lV (v : LV) : AV := .lst ts_uint64 (v.map lR)
def eT (s : Int) (v : LV) : AV := .agg [i64 s, lV v]
def gV (v : LV) : Blk := .grid ts_uint64 t_uint64 (v.map fun r => (true, r.map u64))
/-- A word; one that is not there is full. -/
def atF (v : LV) (l : Nat) (k : Int) : Nat := if k < 0 then FW else (v.getD l []).getD k.toNat FW
def putF (v : LV) (l : Nat) (k : Int) (u : Nat) : LV := if k < 0 then v else v.modify l fun r => r.set k.toNat u
theorem atF_lt {v : LV} (h : IsW v) (l : Nat) (k : Int) : atF v l k < 2 ^ 64 := by
  unfold atF
  split
  · decide
  · rw [List.getD_eq_getElem?_getD, List.getD_eq_getElem?_getD]
    cases hl : v[l]? with
    | none => simp [FW]
    | some r =>
      simp only [Option.getD_some]
      cases hk : r[k.toNat]? with
      | none => simp [FW]
      | some u => exact h r (List.mem_of_getElem? hl) u (List.mem_of_getElem? hk)
theorem putF_w {v : LV} (h : IsW v) (l : Nat) (k : Int) {u : Nat} (hu : u < 2 ^ 64) : IsW (putF v l k u) := by
  unfold putF
  split
  · exact h
  · intro r hr x hx
    obtain ⟨i, hi, rfl⟩ := List.getElem_of_mem hr
    rw [List.getElem_modify] at hx
    have hil : i < v.length := by simpa using hi
    split at hx
    · rcases List.mem_or_eq_of_mem_set hx with hx | rfl
      · exact h _ (List.getElem_mem hil) x hx
      · exact hu
    · exact h _ (List.getElem_mem hil) x hx
theorem putF_len (v : LV) (l : Nat) (k : Int) (u : Nat) : (putF v l k u).length = v.length := by unfold putF; split <;> simp
theorem treeAt_told {s : Int} {v : LV} (hv : v.length ≤ 1000) (hr : ∀ r ∈ v, r.length ≤ 100000) (l : Nat) (k : Int) : Told P T tree_at [] [eT s v, i64 l, i64 k] (u64 (atF v l k)) [] := by
  have hm : (v.map lR).length = v.length := by simp
  refine told_of_ev (fn := tree_at_fn) tabOk mixed (by kernel_rfl) (by kernel_rfl) (by kernel_rfl) (by kernel_rfl) ?_
  by_cases h1 : l ≥ v.length
  · have e : atF v l k = FW := by
      unfold atF
      split
      · rfl
      · rw [List.getD_eq_getElem?_getD, List.getD_eq_getElem?_getD, List.getElem?_eq_none (l := v) (by omega)]; simp
    rw [e]
    (refine gw ?_; refine IfB.tt (by rw [hm]; simp; omega) ?_)
    (refine gw ?_; exact RetN.mk ⟨[], rfl, rfl, rfl⟩)
  · (refine gw ?_; refine IfB.ff (by rw [hm]; simp; omega) ?_)
    by_cases h2 : k < 0
    · have e : atF v l k = FW := by unfold atF; rw [if_pos h2]
      rw [e]
      (refine gw ?_; refine IfB.tt (by simpa using h2) ?_)
      (refine gw ?_; exact RetN.mk ⟨[], rfl, rfl, rfl⟩)
    · obtain ⟨a, rfl⟩ : ∃ a : Nat, k = a := ⟨k.toNat, by omega⟩
      have hlv : l < v.length := by omega
      have hmr : (v[l].map u64).length = v[l].length := by simp
      (refine gw ?_; refine idx_map (hlv) ?_)
      (refine gw ?_)
      by_cases h3 : a ≥ v[l].length
      · have e : atF v l a = FW := by
          unfold atF
          rw [if_neg (by omega), List.getD_eq_getElem?_getD, List.getD_eq_getElem?_getD, List.getElem?_eq_getElem hlv]
          simp only [Option.getD_some]
          rw [List.getElem?_eq_none (by rw [Int.toNat_natCast]; exact h3)]; rfl
        rw [e]
        (refine gw ?_; refine IfB.tt (by rw [hmr]; simp; omega) ?_)
        (refine gw ?_; exact RetN.mk ⟨[], rfl, rfl, rfl⟩)
      · have hal : a < v[l].length := by omega
        have e : atF v l a = v[l][a] := by
          unfold atF
          rw [if_neg (by omega), List.getD_eq_getElem?_getD, List.getD_eq_getElem?_getD, List.getElem?_eq_getElem hlv]
          simp only [Option.getD_some]
          rw [Int.toNat_natCast, List.getElem?_eq_getElem hal]; rfl
        rw [e]
        (refine gw ?_; refine IfB.ff (by rw [hmr]; simp; omega) ?_)
        (refine gw ?_; refine idx_map (hlv) ?_)
        (refine gw ?_; refine idx_map (hal) ?_)
        (refine gw ?_; exact RetN.mk ⟨[], rfl, rfl, rfl⟩)
/-- A grid, as it lies where nobody writes. -/
def eTg (s : Int) (v : LV) : AV := .agg [i64 s, .lst ts_uint64 ((v.map fun r => (true, r.map u64)).map fun g => .lst t_uint64 g.2)]
theorem eTg_eq (s : Int) (v : LV) : eTg s v = eT s v := by
  unfold eTg eT lV lR
  rw [List.map_map]; rfl
theorem gnode {v : LV} {l : Nat} (h : l < v.length) {Q : Bool → List AV → Prop} (q : Q true (v[l].map u64)) : GNode (v.map fun r => (true, r.map u64)) l Q := ⟨true, _, by simp [h], q⟩
set_option maxHeartbeats 2000000 in
theorem treePut_told {s : Int} {v : LV} (hv : v.length ≤ 1000) (hr : ∀ r ∈ v, r.length ≤ 100000) (l : Nat) (k : Int) (u : Nat) : Told P T tree_put [gV v] [.agg [i64 s, .ref 0], i64 l, i64 k, u64 u] (.tup []) [gV (putF v l k u)] := by
  have hm : (v.map fun r => (true, r.map u64)).length = v.length := by simp
  refine told_of_ev (fn := tree_put_fn) tabOk mixed (by kernel_rfl) (by kernel_rfl) (by kernel_rfl) (by kernel_rfl) ?_
  by_cases h1 : l < v.length
  · (refine gw ?_; refine IfB.tt (by rw [hm]; simp; omega) ?_)
    by_cases h2 : k < 0
    · have e : putF v l k u = v := by unfold putF; rw [if_pos h2]
      rw [e]
      (refine gw ?_; refine IfB.ff (by simp; omega) ?_)
      (refine gw ?_; exact RetN.mk ⟨[], rfl, rfl, rfl⟩)
    · obtain ⟨a, rfl⟩ : ∃ a : Nat, k = a := ⟨k.toNat, by omega⟩
      have hmr : (v[l].map u64).length = v[l].length := by simp
      (refine gw ?_)
      refine gnode h1 ?_
      (refine gw ?_)
      refine gnode h1 ?_
      by_cases h3 : a < v[l].length
      · have e : (v.map fun r => (true, r.map u64)).set l (true, (v[l].map u64).set a (u64 u)) = (putF v l a u).map fun r => (true, r.map u64) := by
          unfold putF
          rw [if_neg (by omega), Int.toNat_natCast]
          apply List.ext_getElem (by simp)
          intro i h4 h5
          have hi : i < v.length := by simpa using h4
          rw [List.getElem_map, List.getElem_modify]
          by_cases hil : l = i
          · subst hil
            rw [List.getElem_set_self, if_pos rfl, List.map_set]
          · rw [List.getElem_set_ne hil, if_neg hil, List.getElem_map]
        (refine gw ?_; refine IfB.tt (by rw [hmr]; simp; omega) ?_)
        (refine gw ?_)
        refine gnode h1 ?_
        (refine gw ?_)
        refine gnode h1 ?_
        (refine gw ?_)
        refine gnode h1 ?_
        rw [show gV (putF v l a u) = .grid ts_uint64 t_uint64 ((v.map fun r => (true, r.map u64)).set l (true, (v[l].map u64).set a (u64 u))) by unfold gV; rw [← e]]
        (refine gw ?_; exact RetN.mk ⟨[], rfl, rfl, rfl⟩)
      · have e : putF v l a u = v := by
          unfold putF
          rw [if_neg (by omega)]
          apply List.ext_getElem (by simp)
          intro i h4 h5
          rw [List.getElem_modify]
          split
          · rename_i hil; subst hil
            rw [List.set_eq_of_length_le (by omega)]
          · rfl
        rw [e]
        (refine gw ?_; refine IfB.ff (by rw [hmr]; simp; omega) ?_)
        (refine gw ?_; exact RetN.mk ⟨[], rfl, rfl, rfl⟩)
  · have e : putF v l k u = v := by
      unfold putF
      split
      · rfl
      · exact List.modify_eq_self (by omega)
    rw [e]
    (refine gw ?_; refine IfB.ff (by rw [hm]; simp; omega) ?_)
    (refine gw ?_; exact RetN.mk ⟨[], rfl, rfl, rfl⟩)
/-- A word one bit of which is set, or not. -/
def sumW (a m : Nat) (b : Bool) : Nat := wB 64 fun j => if j = m then b else a.testBit j
theorem pow_lt64 {k : Nat} (h : k < 64) : 2 ^ k < 2 ^ 64 := Nat.pow_lt_pow_right (by omega) h
theorem pow_bit {k j : Nat} : (2 ^ k).testBit j = decide (j = k) := by rw [Nat.testBit_two_pow]; exact decide_eq_decide.2 eq_comm
theorem sumW_ops {a m : Nat} (ha : a < 2 ^ 64) (hm : m < 64) : ∃ y : Nat, bitsOp .andNot .u64 (a : Int) ((2 ^ m : Nat) : Int) = (y : Int) ∧ bitsOp .or .u64 (y : Int) ((2 ^ m : Nat) : Int) = ((sumW a m true : Nat) : Int) ∧ y = sumW a m false := by
  have hp := pow_lt64 hm
  have h1 := wB_lt 64 fun j => a.testBit j && !(2 ^ m).testBit j
  refine ⟨_, andn64 ha hp, ?_, ?_⟩
  · rw [or64 h1 hp]
    refine congrArg Int.ofNat ?_
    unfold sumW
    apply Nat.eq_of_testBit_eq
    intro j
    rw [Nat.testBit_or, wB_bit, wB_bit, pow_bit]
    by_cases hj : j = m
    · rw [if_pos hj, decide_eq_true hj, decide_eq_true (show j < 64 by omega)]; simp
    · rw [if_neg hj, decide_eq_false hj]; simp
  · unfold sumW
    refine wB_congr fun j _ => ?_
    rw [pow_bit]
    by_cases hj : j = m
    · rw [if_pos hj, decide_eq_true hj]; simp
    · rw [if_neg hj, decide_eq_false hj]; simp
/-- A level is brought up to date. -/
def sum1 (v : LV) (l i : Nat) : LV :=
  putF v l (i / 64 : Nat) (sumW (atF v l (i / 64 : Nat)) (i % 64) (decide (atF v (l - 1) i = FW)))
def sumsF (v : LV) (l lo : Nat) : Nat → LV
  | 0 => v
  | c + 1 => sum1 (sumsF v l lo c) l (lo + c)
theorem sum1_w {v : LV} (h : IsW v) (l i : Nat) : IsW (sum1 v l i) := putF_w h _ _ (wB_lt _ _)
theorem sumsF_w {v : LV} (h : IsW v) (l lo : Nat) : ∀ c, IsW (sumsF v l lo c)
  | 0 => h
  | c + 1 => sum1_w (sumsF_w h l lo c) _ _
theorem sumsF_len (v : LV) (l lo : Nat) : ∀ c, (sumsF v l lo c).length = v.length
  | 0 => rfl
  | c + 1 => by unfold sumsF sum1; rw [putF_len, sumsF_len]
theorem putF_row {v : LV} {l : Nat} {k : Int} {u N : Nat} (h : ∀ r ∈ v, r.length ≤ N) : ∀ r ∈ putF v l k u, r.length ≤ N := by
  unfold putF
  split
  · exact h
  · intro r hr
    obtain ⟨i, hi, rfl⟩ := List.getElem_of_mem hr
    rw [List.getElem_modify]
    have hil : i < v.length := by simpa using hi
    split
    · rw [List.length_set]; exact h _ (List.getElem_mem hil)
    · exact h _ (List.getElem_mem hil)
theorem sumsF_row {v : LV} {N : Nat} (h : ∀ r ∈ v, r.length ≤ N) (l lo : Nat) : ∀ c, ∀ r ∈ sumsF v l lo c, r.length ≤ N
  | 0 => h
  | c + 1 => by
    unfold sumsF sum1
    exact putF_row (sumsF_row h l lo c)
set_option maxHeartbeats 4000000 in
theorem treeSums_told {s : Int} {v : LV} (hv : v.length ≤ 1000) (hr : ∀ r ∈ v, r.length ≤ 100000) (hw : IsW v) (l lo hi : Nat) (hl : 1 ≤ l ∧ l ≤ 1000) (hlh : lo ≤ hi + 1) (hh : hi ≤ 1000000) : Told P T tree_sums [gV v] [.agg [i64 s, .ref 0], i64 l, i64 lo, i64 hi] (.tup []) [gV (sumsF v l lo (hi + 1 - lo))] := by
  refine told_of_ev (fn := tree_sums_fn) tabOk mixed (by kernel_rfl) (by kernel_rfl) (by kernel_rfl) (by kernel_rfl) ?_
  (refine gw ?_; refine LoopN.mk ⟨[1,3,4,8], fun vs L => ∃ c : Nat, vs = [i64 l, i64 hi, .ptr 1 0 0, i64 (lo + c : Nat)] ∧ L = [gV (sumsF v l lo c), .var (.agg [i64 s, .ref 0])] ∧ lo + c ≤ hi + 1, fun vs L => match vs with | [_, _, _, .int _ i] => hi + 1 - i.toNat | _ => 0, [], [1], rfl, ⟨0, rfl, rfl, by omega⟩, ?_⟩)
  rintro vs L ⟨c, rfl, rfl, hc⟩
  have hw1 := sumsF_w hw l lo c
  have hlen := sumsF_len v l lo c
  have hrow := sumsF_row hr l lo c
  have hsuc : sumsF v l lo (c + 1) = sum1 (sumsF v l lo c) l (lo + c) := rfl
  obtain ⟨x, hxe⟩ : ∃ x, sumsF v l lo c = x := ⟨_, rfl⟩
  rw [hxe] at hw1 hlen hrow hsuc ⊢
  by_cases h1 : lo + c ≤ hi
  · obtain ⟨i, hie⟩ : ∃ i, lo + c = i := ⟨_, rfl⟩
    rw [hie] at hsuc h1 ⊢
    have c1 := treeAt_told (s := s) (v := x) (by omega) hrow l (i / 64 : Nat)
    have c2 := treeAt_told (s := s) (v := x) (by omega) hrow (l - 1) (i : Nat)
    rw [show ((l - 1 : Nat) : Int) = (l : Int) - 1 by omega] at c2
    have hd : ((i : Nat) : Int).tdiv 64 = ((i / 64 : Nat) : Int) := (Int.ofNat_tdiv i 64).symm
    have hmd : ((i : Nat) : Int).tmod 64 = ((i % 64 : Nat) : Int) := by rw [Int.tmod_eq_emod_of_nonneg (by omega)]; omega
    have hm64 : i % 64 < 64 := Nat.mod_lt _ (by omega)
    have hsl := shl1 hm64
    have hpi : ((2 ^ (i % 64) : Nat) : Int) ≤ 18446744073709551615 := Int.ofNat_le.2 (Nat.le_trans (pow_le63 (by omega)).2 (by decide))
    obtain ⟨y, ha, hor, hy⟩ := sumW_ops (atF_lt hw1 l (i / 64 : Nat)) hm64
    have c3 := fun u => treePut_told (s := s) (v := x) (by omega) hrow l (i / 64 : Nat) u
    unfold sum1 at hsuc
    rw [← eTg_eq] at c1 c2
    clear hw1 hrow hr hw
    generalize atF x l (i / 64 : Nat) = a1 at *
    generalize atF x (l - 1) (i : Nat) = a2 at *
    obtain ⟨z, hz⟩ : ∃ z, sumW a1 (i % 64) true = z := ⟨_, rfl⟩
    rw [hz] at hor
    generalize 2 ^ (i % 64) = pw at *
    (refine gw ?_; refine IfB.tt (by simp; omega) ?_)
    (refine gw ?_)
    rw [hmd]
    refine ⟨?_⟩
    rw [hsl, wrapU64 (Int.natCast_nonneg _) hpi]
    (refine gw ?_)
    rw [hd]
    (refine gw ?_; refine Choice.mk ⟨false, Choice.mk ⟨true, _, _, c1, ?_⟩⟩)
    (refine gw ?_)
    rw [ha]
    (refine gw ?_; refine Choice.mk ⟨false, Choice.mk ⟨true, _, _, c2, ?_⟩⟩)
    by_cases hF : a2 = FW
    · rw [decide_eq_true hF, hz] at hsuc
      (refine gw ?_; refine IfB.tt (by rw [hF]; rfl) ?_)
      (refine gw ?_)
      rw [hor]
      (refine gw ?_)
      rw [hd]
      (refine gw ?_; refine Choice.mk ⟨true, Choice.mk ⟨false, _, _, c3 _, ?_⟩⟩)
      (refine gw ?_; refine ⟨[], [1], rfl, ⟨c + 1, by rw [show lo + (c + 1) = i + 1 by omega]; rfl, by rw [hsuc]; rfl, by omega⟩, (by omega : hi + 1 - ((i : Int) + 1).toNat < hi + 1 - (i : Int).toNat)⟩)
    · rw [decide_eq_false hF, ← hy] at hsuc
      have hF' : ((a2 : Nat) : Int) ≠ 18446744073709551615 := fun h => hF (by unfold FW; omega)
      (refine gw ?_; refine IfB.ff (by simpa using hF') ?_)
      (refine gw ?_)
      rw [hd]
      (refine gw ?_; refine Choice.mk ⟨true, Choice.mk ⟨false, _, _, c3 _, ?_⟩⟩)
      (refine gw ?_; refine ⟨[], [1], rfl, ⟨c + 1, by rw [show lo + (c + 1) = i + 1 by omega]; rfl, by rw [hsuc]; rfl, by omega⟩, (by omega : hi + 1 - ((i : Int) + 1).toNat < hi + 1 - (i : Int).toNat)⟩)
  · have e : hi + 1 - lo = c := by omega
    rw [e, hxe]
    (refine gw ?_; refine IfB.ff (by simp; omega) ?_)
    (refine gw ?_; exact RetN.mk ⟨[], rfl, rfl, rfl⟩)
end Go.Ev.W
namespace Go.Ev.W
open Go.Ev Go.Ev.N

/-- Levels, by level and place. -/
def tabV (H : Nat) (len : Nat → Nat) (f : Nat → Nat → Nat) : LV := (List.range H).map fun l => (List.range (len l)).map (f l)
theorem tabV_len (H : Nat) (len : Nat → Nat) (f : Nat → Nat → Nat) : (tabV H len f).length = H := by simp [tabV]
theorem tabV_get {H l : Nat} {len : Nat → Nat} {f : Nat → Nat → Nat} (h : l < (tabV H len f).length) : (tabV H len f)[l] = (List.range (len l)).map (f l) := by simp [tabV]
theorem tabV_at {H l k : Nat} {len : Nat → Nat} {f : Nat → Nat → Nat} (hl : l < H) (hk : k < len l) : atF (tabV H len f) l k = f l k := by
  unfold atF tabV
  rw [if_neg (by omega), List.getD_eq_getElem?_getD, List.getD_eq_getElem?_getD]
  simp [hl, hk]
theorem tabV_congr {H : Nat} {len : Nat → Nat} {f g : Nat → Nat → Nat} (h : ∀ l, l < H → ∀ k, k < len l → f l k = g l k) : tabV H len f = tabV H len g := by
  unfold tabV
  refine List.map_congr_left fun l hl => List.map_congr_left fun k hk => h l (by simpa using hl) k (by simpa using hk)
theorem tabV_put {H l k u : Nat} {len : Nat → Nat} {f : Nat → Nat → Nat} (hl : l < H) (hk : k < len l) : putF (tabV H len f) l k u = tabV H len fun l' k' => if l' = l ∧ k' = k then u else f l' k' := by
  unfold putF
  rw [if_neg (by omega), Int.toNat_natCast]
  apply List.ext_getElem (by simp [tabV])
  intro i h1 h2
  rw [List.getElem_modify, tabV_get]
  have hi : i < H := by simpa [tabV] using h2
  have hi2 : i < (tabV H len f).length := by rw [tabV_len]; exact hi
  by_cases hil : l = i
  · subst hil
    rw [if_pos rfl, tabV_get]
    apply List.ext_getElem (by simp)
    intro j h3 h4
    have hj : j < len l := by simpa using h4
    rw [List.getElem_set]
    simp only [List.getElem_map, List.getElem_range]
    by_cases hjk : k = j
    · subst hjk; simp
    · rw [if_neg hjk, if_neg (by omega)]
  · rw [if_neg hil, tabV_get]
    refine List.map_congr_left fun j _ => ?_
    rw [if_neg (by omega)]
theorem tabV_w {H : Nat} {len : Nat → Nat} {f : Nat → Nat → Nat} (h : ∀ l k, f l k < 2 ^ 64) : IsW (tabV H len f) := by
  intro r hr u hu
  obtain ⟨l, _, rfl⟩ := List.mem_map.1 hr
  obtain ⟨k, _, rfl⟩ := List.mem_map.1 hu
  exact h l k
theorem tabV_row {H N : Nat} {len : Nat → Nat} {f : Nat → Nat → Nat} (h : ∀ l, l < H → len l ≤ N) : ∀ r ∈ tabV H len f, r.length ≤ N := by
  intro r hr
  obtain ⟨l, hl, rfl⟩ := List.mem_map.1 hr
  simpa using h l (by simpa using hl)

/-- How many bits a level has. -/
def szT (n : Nat) : Nat → Nat
  | 0 => n
  | l + 1 => (szT n l - 1) / 64 + 1
/-- A word of some bits, of which those beyond are set. -/
def wdT (n : Nat) (b : Nat → Bool) (k : Nat) : Nat := wB 64 fun j => decide (n ≤ 64 * k + j) || b (64 * k + j)
/-- A level's bits. -/
def btT (n : Nat) (b : Nat → Bool) : Nat → Nat → Bool
  | 0 => b
  | l + 1 => fun k => decide (wdT (szT n l) (btT n b l) k = FW)
def hT (n : Nat) : Nat := if n ≤ 64 then 1 else if n ≤ 4096 then 2 else 3
def fT (n : Nat) (b : Nat → Bool) (l k : Nat) : Nat := wdT (szT n l) (btT n b l) k
def lenT (n l : Nat) : Nat := szT n (l + 1)
def lvT (n : Nat) (b : Nat → Bool) : LV := tabV (hT n) (lenT n) (fT n b)
def eTr (n : Nat) (b : Nat → Bool) : AV := eT n (lvT n b)
theorem wdT_lt (n : Nat) (b : Nat → Bool) (k : Nat) : wdT n b k < 2 ^ 64 := wB_lt _ _
theorem fT_lt (n : Nat) (b : Nat → Bool) (l k : Nat) : fT n b l k < 2 ^ 64 := wB_lt _ _
theorem hT_le (n : Nat) : 1 ≤ hT n ∧ hT n ≤ 3 := by
  unfold hT
  split
  · omega
  · split <;> omega
theorem szT_pos {n : Nat} (h : 1 ≤ n) : ∀ l, 1 ≤ szT n l
  | 0 => h
  | l + 1 => by unfold szT; omega
theorem szT_le {n : Nat} (h : 1 ≤ n) : ∀ l, szT n (l + 1) ≤ szT n l := fun l => by
  have := szT_pos h l
  show (szT n l - 1) / 64 + 1 ≤ szT n l
  omega
theorem szT_le_n {n : Nat} (h : 1 ≤ n) : ∀ l, szT n l ≤ n
  | 0 => Nat.le_refl _
  | l + 1 => Nat.le_trans (szT_le h l) (szT_le_n h l)
/-- The last level has one word, those below more. -/
theorem hT_last {n : Nat} (h : 1 ≤ n) (h2 : n ≤ 65536) : szT n (hT n - 1) ≤ 64 ∧ ∀ l, l + 1 < hT n → 64 < szT n l := by
  unfold hT
  split
  · exact ⟨by assumption, fun l hl => by omega⟩
  · split
    · refine ⟨by show (n - 1) / 64 + 1 ≤ 64; omega, fun l hl => ?_⟩
      have : l = 0 := by omega
      subst this; show 64 < n; omega
    · refine ⟨by show ((n - 1) / 64 + 1 - 1) / 64 + 1 ≤ 64; omega, fun l hl => ?_⟩
      rcases (by omega : l = 0 ∨ l = 1) with rfl | rfl
      · show 64 < n; omega
      · show 64 < (n - 1) / 64 + 1; omega
theorem lenT_le {n : Nat} (h : 1 ≤ n) (h2 : n ≤ 65536) (l : Nat) : 1 ≤ lenT n l ∧ lenT n l ≤ 1024 := by
  have h3 := szT_le_n h l
  show 1 ≤ (szT n l - 1) / 64 + 1 ∧ (szT n l - 1) / 64 + 1 ≤ 1024
  omega
theorem wdT_congr {n : Nat} {b c : Nat → Bool} {k : Nat} (h : ∀ i, 64 * k ≤ i → i < 64 * k + 64 → i < n → b i = c i) : wdT n b k = wdT n c k := by
  unfold wdT
  refine wB_congr fun j hj => ?_
  by_cases h1 : n ≤ 64 * k + j
  · rw [decide_eq_true h1]; simp
  · rw [decide_eq_false h1, h _ (by omega) (by omega) (by omega)]
theorem btT_congr {n : Nat} {b c : Nat → Bool} (h : ∀ i, i < n → b i = c i) : ∀ l i, i < szT n l → btT n b l i = btT n c l i
  | 0, i, hi => h i hi
  | l + 1, i, hi => by
    show decide (wdT (szT n l) (btT n b l) i = FW) = decide (wdT (szT n l) (btT n c l) i = FW)
    rw [wdT_congr fun j _ _ hj => btT_congr h l j hj]
theorem lvT_congr {n : Nat} {b c : Nat → Bool} (h : ∀ i, i < n → b i = c i) : lvT n b = lvT n c :=
  tabV_congr fun l _ k _ => wdT_congr fun j _ _ hj => btT_congr h l j hj
theorem lvT_len (n : Nat) (b : Nat → Bool) : (lvT n b).length = hT n := tabV_len _ _ _

/-- One bit of a word. -/
theorem sumW_wd {n k i : Nat} {b c : Nat → Bool} (hk : k = i / 64) (hi : i < n) (h : ∀ x, x ≠ i → c x = b x) : sumW (wdT n b k) (i % 64) (c i) = wdT n c k := by
  subst hk
  unfold sumW wdT
  refine wB_congr fun j hj => ?_
  rw [wB_bit, decide_eq_true hj, Bool.true_and]
  by_cases h1 : j = i % 64
  · rw [if_pos h1, show 64 * (i / 64) + j = i by omega, decide_eq_false (by omega)]; rfl
  · rw [if_neg h1, h _ (by omega)]
/-- Half of the levels of the new bits, half of the old. -/
def mixT (n : Nat) (b c : Nat → Bool) (k : Nat) : LV := tabV (hT n) (lenT n) fun l i => if l < k then fT n c l i else fT n b l i
theorem sums_mix {n : Nat} (hn : 1 ≤ n) {b c : Nat → Bool} {k lo hi : Nat} (hk : 1 ≤ k) (hkh : k < hT n) (hlo : lo ≤ hi + 1) (hhi : hi < szT n k) (hsame : ∀ i, (i < lo ∨ hi < i) → fT n b (k - 1) i = fT n c (k - 1) i) : sumsF (mixT n b c k) k lo (hi + 1 - lo) = mixT n b c (k + 1) := by
  have step : ∀ d, lo + d ≤ hi + 1 → sumsF (mixT n b c k) k lo d = tabV (hT n) (lenT n) fun l i => if l < k then fT n c l i else if l = k then wdT (szT n k) (fun x => if lo ≤ x ∧ x < lo + d then btT n c k x else btT n b k x) i else fT n b l i := by
    intro d
    induction d with
    | zero =>
      intro _
      show mixT n b c k = _
      unfold mixT
      refine tabV_congr fun l _ i _ => ?_
      by_cases h1 : l < k
      · rw [if_pos h1, if_pos h1]
      · rw [if_neg h1, if_neg h1]
        by_cases h2 : l = k
        · subst h2
          rw [if_pos rfl]
          refine wdT_congr fun x _ _ _ => ?_
          rw [if_neg (by omega)]
        · rw [if_neg h2]
    | succ d ih =>
      intro hd
      have ih := ih (by omega)
      show sum1 (sumsF (mixT n b c k) k lo d) k (lo + d) = _
      rw [ih]
      unfold sum1
      have hik : lo + d < szT n k := by omega
      have hq : (lo + d) / 64 < lenT n k := by
        show (lo + d) / 64 < (szT n k - 1) / 64 + 1
        omega
      have hk1 : lo + d < lenT n (k - 1) := by
        show lo + d < szT n (k - 1 + 1)
        rw [show k - 1 + 1 = k by omega]; exact hik
      rw [tabV_at (by omega) hk1, tabV_at hkh hq, tabV_put hkh hq]
      rw [if_neg (show ¬ k < k by omega), if_pos (show k = k from rfl), if_pos (show k - 1 < k by omega)]
      refine tabV_congr fun l _ i _ => ?_
      by_cases h1 : l < k
      · rw [if_pos h1, if_neg (by omega), if_pos h1]
      · rw [if_neg h1, if_neg h1]
        by_cases h2 : l = k
        · subst h2
          rw [if_pos rfl, if_pos rfl]
          by_cases h3 : i = (lo + d) / 64
          · rw [if_pos ⟨rfl, h3⟩, h3]
            have hbt : decide (fT n c (l - 1) (lo + d) = FW) = btT n c l (lo + d) := by
              obtain ⟨m, rfl⟩ : ∃ m, l = m + 1 := ⟨l - 1, by omega⟩
              rfl
            rw [hbt]
            have := sumW_wd (n := szT n l) (k := (lo + d) / 64) (i := lo + d) (b := fun x => if lo ≤ x ∧ x < lo + d then btT n c l x else btT n b l x) (c := fun x => if lo ≤ x ∧ x < lo + (d + 1) then btT n c l x else btT n b l x) rfl hik (fun x hx => by
              by_cases h4 : lo ≤ x ∧ x < lo + d
              · rw [if_pos h4, if_pos (by omega)]
              · rw [if_neg h4, if_neg (by omega)])
            rw [if_pos (by omega)] at this
            exact this
          · rw [if_neg (by omega)]
            refine wdT_congr fun x hx1 hx2 _ => ?_
            have : x ≠ lo + d := fun e => h3 (by omega)
            by_cases h4 : lo ≤ x ∧ x < lo + d
            · rw [if_pos h4, if_pos (by omega)]
            · rw [if_neg h4, if_neg (by omega)]
        · rw [if_neg h2, if_neg h2, if_neg (by omega)]
  rw [step _ (by omega)]
  unfold mixT
  refine tabV_congr fun l _ i _ => ?_
  by_cases h1 : l < k
  · rw [if_pos h1, if_pos (by omega)]
  · rw [if_neg h1]
    by_cases h2 : l = k
    · subst h2
      rw [if_pos rfl, if_pos (by omega)]
      refine wdT_congr fun x _ _ _ => ?_
      by_cases h4 : lo ≤ x ∧ x < lo + (hi + 1 - lo)
      · rw [if_pos h4]
      · rw [if_neg h4]
        obtain ⟨m, rfl⟩ : ∃ m, l = m + 1 := ⟨l - 1, by omega⟩
        have := hsame x (by omega)
        show decide (wdT (szT n m) (btT n b m) x = FW) = decide (wdT (szT n m) (btT n c m) x = FW)
        have this : wdT (szT n m) (btT n b m) x = wdT (szT n m) (btT n c m) x := this
        rw [this]
    · rw [if_neg h2, if_neg (by omega)]
/-- Words that are the same lie in words above that are. -/
theorem fT_same {n : Nat} {b c : Nat → Bool} {k lo hi : Nat} (h : ∀ i, (i < lo ∨ hi < i) → fT n b k i = fT n c k i) : ∀ i, (i < lo / 64 ∨ hi / 64 < i) → fT n b (k + 1) i = fT n c (k + 1) i := by
  intro i hi'
  refine wdT_congr fun x hx1 hx2 _ => ?_
  have := h x (by omega)
  show decide (wdT (szT n k) (btT n b k) x = FW) = decide (wdT (szT n k) (btT n c k) x = FW)
  have this : wdT (szT n k) (btT n b k) x = wdT (szT n k) (btT n c k) x := this
  rw [this]
theorem mix_all {n : Nat} (b c : Nat → Bool) : mixT n b c (hT n) = lvT n c := tabV_congr fun l hl i _ => by rw [if_pos hl]
theorem mixT_all_row {n : Nat} (hn : 1 ≤ n) (hn2 : n ≤ 65536) (b : Nat → Bool) : ∀ r ∈ lvT n b, r.length ≤ 100000 := tabV_row fun l _ => by have := lenT_le hn hn2 l; omega
end Go.Ev.W
namespace Go.Ev.W
open Go.Ev Go.Ev.N

theorem clone_words (es : List AV) (hl : es.length ≤ 1000000) : Told P T slices_Clone_uint64_uint64_b [] [.lst t_uint64 es] (.ref 0) [.row t_uint64 es] := by
  refine told_of_ev (fn := slices_Clone_uint64_uint64_b_fn) tabOk mixed (by kernel_rfl) (by kernel_rfl) (by kernel_rfl) (by kernel_rfl) ?_
  refine AnyB.mk (fun b hb => ?_)
  refine IfB.mk (fun h1 => ?_) (fun h1 => ?_)
  · obtain rfl := hb h1
    exact RetN.mk ⟨[1], rfl, rfl, rfl⟩
  · refine Room.mk (by first | omega | (simp; omega) | (simp; done)) ?_
    exact RetN.mk ⟨[2], rfl, rfl, rfl⟩
theorem clone_rows (es : List AV) (hl : es.length ≤ 1000000) : Told P T slices_Clone_uint64_uint64 [] [.lst ts_uint64 es] (.ref 0) [.row ts_uint64 es] := by
  refine told_of_ev (fn := slices_Clone_uint64_uint64_fn) tabOk mixed (by kernel_rfl) (by kernel_rfl) (by kernel_rfl) (by kernel_rfl) ?_
  refine AnyB.mk (fun b hb => ?_)
  refine IfB.mk (fun h1 => ?_) (fun h1 => ?_)
  · obtain rfl := hb h1
    exact RetN.mk ⟨[1], rfl, rfl, rfl⟩
  · refine Room.mk (by first | omega | (simp; omega) | (simp; done)) ?_
    exact RetN.mk ⟨[2], rfl, rfl, rfl⟩
/-- Rows of which the first so many are its own. -/
def ownG (v : LV) (k : Nat) : List (Bool × List AV) := ((v.take k).map fun r => (true, r.map u64)) ++ ((v.drop k).map fun r => (false, r.map u64))
theorem ownG_len (v : LV) (k : Nat) : (ownG v k).length = v.length := by simp [ownG]; omega
theorem ownG_at {v : LV} {k : Nat} (h : k < v.length) : (ownG v k)[k]? = some (false, v[k].map u64) := by
  unfold ownG
  rw [List.getElem?_append_right (by simp; omega)]
  simp [Nat.min_eq_left (Nat.le_of_lt h), h]
theorem ownG_set {v : LV} {k : Nat} (h : k < v.length) : (ownG v k).set k (true, v[k].map u64) = ownG v (k + 1) := by
  have hl : ((v.take k).map fun r => (true, r.map u64)).length = k := by simp; omega
  unfold ownG
  rw [List.set_append_right _ _ (by rw [hl]; exact Nat.le_refl _), hl, Nat.sub_self, List.drop_eq_getElem_cons h, List.map_cons, List.set_cons_zero, List.take_succ_eq_append_getElem h, List.map_append, List.append_assoc]
  rfl
theorem cloneG_told (v : LV) (hl : v.length ≤ 1000) : Told P T slices_Clone_uint64_uint64 [] [lV v] (.ref 0) [.grid ts_uint64 t_uint64 (ownG v 0)] := by
  have t := clone_rows (v.map lR) (by simp; omega)
  have t := t.grid 0 (e := ts_uint64) (e' := t_uint64) (fs := v.map fun r => r.map u64) (by
    show some (Blk.row ts_uint64 (v.map lR)) = _
    rw [List.map_map]; rfl) rfl (by decide)
  rw [show (v.map fun r => r.map u64).map (fun x => (false, x)) = ownG v 0 by unfold ownG; rw [List.map_map]; simp] at t
  exact t
set_option maxHeartbeats 2000000 in
theorem treeTwin_told {s : Int} {v : LV} (hv : v.length ≤ 1000) (hr : ∀ r ∈ v, r.length ≤ 100000) : Told P T tree_twin [] [eT s v] (.agg [i64 s, .ref 0]) [gV v] := by
  have c1 := cloneG_told v hv
  have hg0 := ownG_len v
  refine told_of_ev (fn := tree_twin_fn) tabOk mixed (by kernel_rfl) (by kernel_rfl) (by kernel_rfl) (by kernel_rfl) ?_
  (refine gw ?_; refine Choice.mk ⟨false, Choice.mk ⟨false, _, _, c1, ?_⟩⟩)
  (refine gw ?_; refine LoopN.mk ⟨[1,2,10,11,12], fun vs L => ∃ k : Nat, vs = [.ptr 0 0 0, .ptr 1 0 0, .ref 2, i64 (ownG v 0).length, i64 k] ∧ L = [.var (.agg [i64 s, .ref 2]), .var (.agg [i64 0, .und]), .grid ts_uint64 t_uint64 (ownG v k)] ∧ k ≤ v.length, fun vs L => match vs with | [_, _, _, _, .int _ i] => v.length - i.toNat | _ => 0, [], [0,1,3], rfl, ⟨0, rfl, rfl, by omega⟩, ?_⟩)
  rintro vs L ⟨k, rfl, rfl, hk⟩
  have hg := ownG_len v k
  have hg00 := hg0 0
  by_cases h1 : k < v.length
  · have hc2 := clone_words (v[k].map u64) (by have := hr _ (List.getElem_mem h1); simp; omega)
    have hat := ownG_at h1
    have hset := ownG_set h1
    (refine gw ?_; refine IfB.tt (by rw [hg00]; simp; omega) ?_)
    (refine gw ?_)
    refine ⟨_, _, hat, ?_⟩
    (refine gw ?_; refine Choice.mk ⟨false, Choice.mk ⟨false, _, _, hc2, ?_⟩⟩)
    (refine gw ?_)
    refine ⟨_, _, hat, ?_⟩
    (refine gw ?_; refine ⟨[], [0,1,2], rfl, ⟨k + 1, rfl, by rw [← hset]; rfl, h1⟩, (by omega : v.length - ((k : Int) + 1).toNat < v.length - (k : Int).toNat)⟩)
  · have e : k = v.length := by omega
    subst e
    have hend : ownG v v.length = v.map fun r => (true, r.map u64) := by unfold ownG; rw [List.take_length, List.drop_length]; simp
    rw [hend]
    (refine gw ?_; refine IfB.ff (by rw [hg00]; simp) ?_)
    (refine gw ?_)
    exact RetN.mk ⟨[2], rfl, rfl, rfl⟩
end Go.Ev.W
namespace Go.Ev.W
open Go.Ev Go.Ev.N

/-- Some bits set, or not. -/
def setB (b : Nat → Bool) (f m : Nat) (on : Bool) : Nat → Bool := fun x => if f ≤ x ∧ x < f + m then on else b x
/-- The same, as far as so many words. -/
def midB (b : Nat → Bool) (f last w : Nat) (on : Bool) : Nat → Bool := fun x => if f ≤ x ∧ x ≤ last ∧ x < 64 * w then on else b x
theorem mask_wd {n f last k : Nat} {b : Nat → Bool} {on : Bool} (h1 : f ≤ last) (h2 : last < n) (hk : f / 64 ≤ k) (hk2 : k ≤ last / 64) :
    ∃ y : Nat, bitsOp .andNot .u64 ((wdT n (midB b f last k on) k : Nat) : Int) ((maskF ((f - 64 * k : Nat) : Int) ((min (last - 64 * k) 63 - (f - 64 * k) + 1 : Nat) : Int) : Nat) : Int) = (y : Int) ∧
      (on = true → bitsOp .or .u64 (y : Int) ((maskF ((f - 64 * k : Nat) : Int) ((min (last - 64 * k) 63 - (f - 64 * k) + 1 : Nat) : Int) : Nat) : Int) = ((wdT n (midB b f last (k + 1) on) k : Nat) : Int)) ∧ (on = false → y = wdT n (midB b f last (k + 1) on) k) := by
  have hm := maskF_lt ((f - 64 * k : Nat) : Int) ((min (last - 64 * k) 63 - (f - 64 * k) + 1 : Nat) : Int)
  have hb : ∀ j, j < 64 → (maskF ((f - 64 * k : Nat) : Int) ((min (last - 64 * k) 63 - (f - 64 * k) + 1 : Nat) : Int)).testBit j = decide (f ≤ 64 * k + j ∧ 64 * k + j ≤ last) := fun j hj => by
    rw [maskF_bit hj (by omega), ← Bool.decide_and]
    refine decide_eq_decide.2 ?_
    omega
  generalize maskF ((f - 64 * k : Nat) : Int) ((min (last - 64 * k) 63 - (f - 64 * k) + 1 : Nat) : Int) = M at *
  have hw := wdT_lt n (midB b f last k on) k
  have hy := wB_lt 64 fun j => (wdT n (midB b f last k on) k).testBit j && !M.testBit j
  have hwb : ∀ j, j < 64 → (wdT n (midB b f last k on) k).testBit j = (decide (n ≤ 64 * k + j) || b (64 * k + j)) := fun j hj => by
    unfold wdT
    rw [wB_bit, decide_eq_true hj, Bool.true_and]
    congr 1
    unfold midB
    rw [if_neg (by omega)]
  refine ⟨_, andn64 hw hm, fun ho => ?_, fun ho => ?_⟩
  · subst ho
    rw [or64 hy hm]
    refine congrArg Int.ofNat ?_
    apply Nat.eq_of_testBit_eq
    intro j
    rw [Nat.testBit_or, wB_bit]
    by_cases hj : j < 64
    · rw [decide_eq_true hj, Bool.true_and, hwb j hj, hb j hj]
      unfold wdT
      rw [wB_bit, decide_eq_true hj, Bool.true_and]
      unfold midB
      by_cases h3 : f ≤ 64 * k + j ∧ 64 * k + j ≤ last
      · rw [decide_eq_true h3, if_pos (by omega)]; simp
      · rw [decide_eq_false h3, if_neg (by omega)]; simp
    · have hz := Nat.testBit_lt_two_pow (Nat.lt_of_lt_of_le (wdT_lt n (midB b f last (k + 1) true) k) (Nat.pow_le_pow_right (n := 2) (by omega) (show 64 ≤ j by omega)))
      rw [decide_eq_false hj, Nat.testBit_lt_two_pow (Nat.lt_of_lt_of_le hm (Nat.pow_le_pow_right (by omega) (by omega))), hz]; rfl
  · subst ho
    unfold wdT
    refine wB_congr fun j hj => ?_
    have := hwb j hj
    unfold wdT at this
    rw [this, hb j hj]
    unfold midB
    by_cases h3 : f ≤ 64 * k + j ∧ 64 * k + j ≤ last
    · rw [decide_eq_true h3, if_pos (by omega), decide_eq_false (show ¬ n ≤ 64 * k + j by omega)]; simp
    · rw [decide_eq_false h3, if_neg (by omega)]; simp
/-- The tree while its first level is written. -/
def zerT (n : Nat) (b c : Nat → Bool) : LV := tabV (hT n) (lenT n) fun l i => if l = 0 then wdT n c i else fT n b l i
theorem zerT_put {n : Nat} (hn : 1 ≤ n) {b : Nat → Bool} {f last k : Nat} {on : Bool} (hk2 : k ≤ last / 64) (h2 : last < n) : putF (zerT n b (midB b f last k on)) 0 k (wdT n (midB b f last (k + 1) on) k) = zerT n b (midB b f last (k + 1) on) := by
  have hk : k < lenT n 0 := by show k < (n - 1) / 64 + 1; omega
  unfold zerT
  rw [tabV_put (by have := hT_le n; omega) hk]
  refine tabV_congr fun l _ i _ => ?_
  by_cases hl : l = 0
  · subst hl
    rw [if_pos rfl, if_pos rfl]
    by_cases hi : i = k
    · subst hi; rw [if_pos ⟨rfl, rfl⟩]
    · rw [if_neg (by omega)]
      refine wdT_congr fun x _ _ _ => ?_
      unfold midB
      by_cases h3 : f ≤ x ∧ x ≤ last ∧ x < 64 * k
      · rw [if_pos h3, if_pos (by omega)]
      · rw [if_neg h3, if_neg (by omega)]
  · rw [if_neg hl, if_neg (by omega), if_neg hl]
theorem zerT_start {n : Nat} {b : Nat → Bool} {f last : Nat} {on : Bool} : lvT n b = zerT n b (midB b f last (f / 64) on) := by
  refine tabV_congr fun l _ i _ => ?_
  by_cases hl : l = 0
  · subst hl
    rw [if_pos rfl]
    refine wdT_congr fun x _ _ _ => ?_
    unfold midB
    rw [if_neg (by omega)]; rfl
  · rw [if_neg hl]
theorem zerT_end {n : Nat} {b : Nat → Bool} {f m last : Nat} {on : Bool} (hl : last + 1 = f + m ∨ (last + 1 = n ∧ n ≤ f + m)) : zerT n b (midB b f last (last / 64 + 1) on) = mixT n b (setB b f m on) 1 := by
  refine tabV_congr fun l _ i _ => ?_
  by_cases hl0 : l = 0
  · subst hl0
    rw [if_pos rfl, if_pos (by omega)]
    refine wdT_congr fun x _ _ hx => ?_
    show _ = setB b f m on x
    unfold midB setB
    have hx : x < n := hx
    by_cases h3 : f ≤ x ∧ x < f + m
    · rw [if_pos h3, if_pos (by omega)]
    · rw [if_neg h3, if_neg (by omega)]
  · rw [if_neg hl0, if_neg (by omega)]
theorem set_same {n : Nat} {b : Nat → Bool} {f m last : Nat} {on : Bool} (h1 : 1 ≤ m) (hl : last + 1 = f + m ∨ (last + 1 = n ∧ n ≤ f + m)) : ∀ i, (i < f / 64 ∨ last / 64 < i) → fT n b 0 i = fT n (setB b f m on) 0 i := by
  intro i hi
  refine wdT_congr fun x _ _ hx => ?_
  show b x = setB b f m on x
  have hx : x < n := hx
  unfold setB
  rw [if_neg (by omega)]
theorem div_lv {last n : Nat} (h : last < n) (l : Nat) : last / 64 ^ (l + 1) < szT n (l + 1) := by
  have key : ∀ l, last / 64 ^ l < szT n l := by
    intro l
    induction l with
    | zero => simpa [szT] using h
    | succ l ih =>
      show last / 64 ^ (l + 1) < (szT n l - 1) / 64 + 1
      rw [Nat.pow_succ, ← Nat.div_div_eq_div_mul]
      generalize last / 64 ^ l = q at *
      omega
  exact key (l + 1)
end Go.Ev.W
