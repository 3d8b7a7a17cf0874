/- Words and lemmas, part 1, for laws of this seat (a part of their proofs). -/
import Derived.Laws.Bits64
import Derived.Test.YtbhjocgepgpnmaaGreatNm
import Derived.Test.YtbhjocgepgpnmaaGreatEvOpen
import Derived.Test.YtbhjocgepgpnmaaGreatEvLib
import Derived.Test.YtbhjocgepgpnmaaGreatEvGrid
import Derived.Test.YtbhjocgepgpnmaaGreatEvTrim
set_option linter.unusedVariables false
set_option linter.unusedSimpArgs false
namespace Go.Ev
theorem IfB.tt {b : Bool} {P R : Prop} (h : b = true) (p : P) : IfB b P R := ⟨fun _ => p, fun e => (by rw [h] at e; cases e)⟩
theorem IfB.ff {b : Bool} {P R : Prop} (h : b = false) (p : R) : IfB b P R := ⟨fun e => (by rw [h] at e; cases e), fun _ => p⟩
theorem IfB.dec {p : Prop} [Decidable p] {P R : Prop} (t : p → P) (f : ¬ p → R) : IfB (decide p) P R := ⟨fun h => t (of_decide_eq_true h), fun h => f (of_decide_eq_false h)⟩
theorem IfB.eq {a b : Int} {P R : Prop} (t : a = b → P) (f : a ≠ b → R) : IfB (a == b) P R := ⟨fun h => t (by simpa using h), fun h => f (by simpa using h)⟩
theorem IfB.ne {a b : Int} {P R : Prop} (t : a ≠ b → P) (f : a = b → R) : IfB (a != b) P R := ⟨fun h => t (by simpa using h), fun h => f (by simpa using h)⟩
end Go.Ev
namespace Go.Ev.W
open Go.Ev Go.Ev.N
theorem fits {k : IntKind} {n : Int} {Q : Int → Prop} (h : k.wrap n = n) (q : Q n) : Fits k n Q := ⟨by rw [h]; exact q⟩
theorem wrap64 {n : Int} (h1 : -9223372036854775808 ≤ n) (h2 : n ≤ 9223372036854775807) : IntKind.i64.wrap n = n := by rw [IntKind.wrap_i64]; omega
theorem wrapU64 {n : Int} (h1 : 0 ≤ n) (h2 : n ≤ 18446744073709551615) : IntKind.u64.wrap n = n := by rw [IntKind.wrap_u64]; omega
theorem idx_map {α : Type} {f : α → AV} {l : List α} {k : Nat} {Q : AV → Prop} (h : k < l.length) (q : Q (f l[k])) : Idx (l.map f) ((k : Nat) : Int) Q := ⟨f l[k], by omega, by simp [h], q⟩
theorem idx_map' {α : Type} {f : α → AV} {l : List α} {i : Int} {Q : AV → Prop} (k : Nat) (e : i = k) (h : k < l.length) (q : Q (f l[k])) : Idx (l.map f) i Q := by subst e; exact idx_map h q
theorem at_map {α : Type} {f : α → AV} {l : List α} {k : Nat} {Q : AV → Prop} (h : k < l.length) (q : Q (f l[k])) : At (l.map f) k Q := ⟨f l[k], by simp [h], q⟩
abbrev i64 (n : Int) : AV := .int .i64 n
theorem ins_room {α : Type} (es : List α) (x J : α) (i : Nat) (hi : i < es.length) :
    List.take i (List.take (i + 1) (es ++ [J]) ++
      (List.take (min (List.take ((es ++ [J]).length - i) (List.drop i (es ++ [J]))).length ((es ++ [J]).length - (i + 1))) (List.take ((es ++ [J]).length - i) (List.drop i (es ++ [J]))) ++
       List.drop (i + 1 + min (List.take ((es ++ [J]).length - i) (List.drop i (es ++ [J]))).length ((es ++ [J]).length - (i + 1))) (es ++ [J]))) = es.take i ∧
    List.drop (i + 1) (List.take (i + 1) (es ++ [J]) ++
      (List.take (min (List.take ((es ++ [J]).length - i) (List.drop i (es ++ [J]))).length ((es ++ [J]).length - (i + 1))) (List.take ((es ++ [J]).length - i) (List.drop i (es ++ [J]))) ++
       List.drop (i + 1 + min (List.take ((es ++ [J]).length - i) (List.drop i (es ++ [J]))).length ((es ++ [J]).length - (i + 1))) (es ++ [J]))) = es.drop i ∧
    (List.take (i + 1) (es ++ [J]) ++
      (List.take (min (List.take ((es ++ [J]).length - i) (List.drop i (es ++ [J]))).length ((es ++ [J]).length - (i + 1))) (List.take ((es ++ [J]).length - i) (List.drop i (es ++ [J]))) ++
       List.drop (i + 1 + min (List.take ((es ++ [J]).length - i) (List.drop i (es ++ [J]))).length ((es ++ [J]).length - (i + 1))) (es ++ [J]))).length = es.length + 1 := by
  obtain ⟨a, b, rfl, rfl⟩ : ∃ a b, es = a ++ b ∧ i = a.length := ⟨es.take i, es.drop i, (List.take_append_drop ..).symm, by rw [List.length_take]; omega⟩
  cases b with
  | nil => simp at hi
  | cons y b =>
    have e1 : List.drop a.length (a ++ y :: b ++ [J]) = y :: (b ++ [J]) := by rw [List.append_assoc, List.drop_left]; rfl
    have e2 : (a ++ y :: b ++ [J]).length - a.length = b.length + 2 := by first | (simp; done) | (simp; omega)
    have e3 : (a ++ y :: b ++ [J]).length - (a.length + 1) = b.length + 1 := by first | (simp; done) | (simp; omega)
    have e4 : List.take (b.length + 2) (y :: (b ++ [J])) = y :: (b ++ [J]) := List.take_of_length_le (by simp)
    have e5 : (y :: (b ++ [J])).length = b.length + 2 := by simp
    have e6 : List.take (a.length + 1) (a ++ y :: b ++ [J]) = a ++ [y] := by
      rw [List.append_assoc, List.take_append, List.take_of_length_le (by omega), show a.length + 1 - a.length = 1 by omega]; rfl
    have e7 : List.take (b.length + 1) (y :: (b ++ [J])) = y :: b := by
      rw [List.take_succ_cons, List.take_left]
    have e8 : List.drop (a.length + 1 + (b.length + 1)) (a ++ y :: b ++ [J]) = [] := List.drop_eq_nil_of_le (by simp; omega)
    simp only [e1, e2, e3, e4, e5, e6, Nat.min_eq_right (show b.length + 1 ≤ b.length + 2 by omega), e7, e8, List.append_nil]
    refine ⟨?_, ?_, ?_⟩
    · rw [List.append_assoc, List.take_left, List.take_left]
    · rw [List.drop_left]
      rw [show a.length + 1 = (a ++ [y]).length by simp, List.drop_left]
    · simp; omega

end Go.Ev.W
namespace Go.Ev
open Go.Ev.W
/-- What is behind a step. -/
structure Held (B : Prop) : Prop where
  h : B
theorem gw {A B : Prop} (q : B) (h : Held B → A := by (intro q; ((repeat ((conv => whnf); first | (refine Sure.mk (by kernel_rfl) ?_) | (refine IfB.tt rfl ?_) | (refine IfB.ff rfl ?_) | (refine IfB.tt ?_ ?_; (focus (simp <;> fail))) | (refine IfB.ff ?_ ?_; (focus (simp <;> fail))) | (refine fits (wrap64 ?_ ?_) ?_; (focus omega); (focus omega)) | (refine fits (wrapU64 ?_ ?_) ?_; (focus omega); (focus omega)) | (refine Need.mk ?_ ?_; (focus omega)) | (refine InB.mk ?_ ?_ ?_; (focus omega); (focus omega)))); (try (conv => whnf))) ; exact q.h)) : A := h ⟨q⟩
end Go.Ev
namespace Go.Ev.W
open Go.Ev Go.Ev.N

abbrev u8 (n : Nat) : AV := .int .u8 (n : Int)
def lB (l : List Nat) : AV := .lst t_uint8 (l.map u8)
def IsB (l : List Nat) : Prop := ∀ x ∈ l, x < 256
/-- Numbers from which choices are read. -/
structure Pk where
  l : List Nat
  n : Nat
def pkB (p : Pk) : Blk := .var (.agg [lB p.l, i64 p.n])
def Pk.over (p : Pk) : Bool := decide (p.l.length ≤ p.n)
def Pk.num (p : Pk) (m : Nat) : Nat := if p.n < p.l.length ∧ 1 ≤ m then (p.l[p.n]?).getD 0 % m else 0
def Pk.next (p : Pk) (m : Nat) : Pk := if p.n < p.l.length ∧ 1 ≤ m then ⟨p.l, p.n + 1⟩ else p
structure Pk.Ok (p : Pk) : Prop where
  b : IsB p.l
  n : p.n ≤ p.l.length
  l : p.l.length ≤ maxLen
theorem Pk.Ok.next {p : Pk} (h : p.Ok) (m : Nat) : (p.next m).Ok := by
  unfold Pk.next; split
  · exact ⟨h.b, by simp only; omega, h.l⟩
  · exact h
theorem Pk.num_lt (p : Pk) {m : Nat} (h : 1 ≤ m) : p.num m < m := by
  unfold Pk.num; split
  · exact Nat.mod_lt _ h
  · exact h
theorem Pk.num_le (p : Pk) (m : Nat) : p.num m ≤ m := by
  unfold Pk.num; split
  · rename_i h; exact Nat.le_of_lt (Nat.mod_lt _ h.2)
  · omega

end Go.Ev.W
namespace Go.Ev.W
open Go.Ev Go.Ev.N

theorem shp_u8 {n : Nat} {t : Nat} {x : AV} (hk : (T t).k = .int .u8) (h : Shp T (n + 1) t x) : ∃ b : Nat, x = u8 b ∧ b < 256 := by
  unfold Shp at h
  rw [hk] at h
  obtain ⟨a, rfl, ha⟩ := h
  have h1 : IntKind.u8.min ≤ a ∧ a ≤ IntKind.u8.max := by simpa [Lit.wf] using ha
  have e1 : IntKind.u8.min = 0 := by decide
  have e2 : IntKind.u8.max = 255 := by decide
  rw [e1, e2] at h1
  refine ⟨a.toNat, ?_, by omega⟩
  show _ = AV.int .u8 ((a.toNat : Nat) : Int)
  rw [show ((a.toNat : Nat) : Int) = a by omega]
theorem shp_u16 {n : Nat} {t : Nat} {x : AV} (hk : (T t).k = .int .u16) (h : Shp T (n + 1) t x) : ∃ b : Nat, x = .int .u16 (b : Int) ∧ b < 65536 := by
  unfold Shp at h
  rw [hk] at h
  obtain ⟨a, rfl, ha⟩ := h
  have h1 : IntKind.u16.min ≤ a ∧ a ≤ IntKind.u16.max := by simpa [Lit.wf] using ha
  have e1 : IntKind.u16.min = 0 := by decide
  have e2 : IntKind.u16.max = 65535 := by decide
  rw [e1, e2] at h1
  refine ⟨a.toNat, ?_, by omega⟩
  rw [show ((a.toNat : Nat) : Int) = a by omega]
theorem shp_i64 {n : Nat} {t : Nat} {x : AV} (hk : (T t).k = .int .i64) (h : Shp T (n + 1) t x) : ∃ a : Int, x = i64 a ∧ -9223372036854775808 ≤ a ∧ a ≤ 9223372036854775807 := by
  unfold Shp at h
  rw [hk] at h
  obtain ⟨a, rfl, ha⟩ := h
  have h1 : IntKind.i64.min ≤ a ∧ a ≤ IntKind.i64.max := by simpa [Lit.wf] using ha
  have e1 : IntKind.i64.min = -9223372036854775808 := by decide
  have e2 : IntKind.i64.max = 9223372036854775807 := by decide
  rw [e1, e2] at h1
  exact ⟨a, rfl, h1.1, h1.2⟩
theorem shp_bool {n : Nat} {t : Nat} {x : AV} (hk : (T t).k = .bool) (h : Shp T (n + 1) t x) : ∃ b : Bool, x = .bool b := by
  unfold Shp at h
  rw [hk] at h
  exact h
/-- A row, of what its elements are. -/
theorem shp_list {α : Type} (enc : α → AV) (Q : α → Prop) {n t e : Nat} {x : AV} (hk : (T t).k = .slice e) (h : Shp T (n + 1) t x) (he : ∀ y, Shp T n e y → ∃ a, y = enc a ∧ Q a) : ∃ l : List α, x = .lst e (l.map enc) ∧ l.length ≤ maxLen ∧ ∀ a ∈ l, Q a := by
  unfold Shp at h
  rw [hk] at h
  obtain ⟨es, rfl, hl, hy⟩ := h
  have : ∃ l : List α, es = l.map enc ∧ ∀ a ∈ l, Q a := by
    clear hl
    induction es with
    | nil => exact ⟨[], rfl, fun a h => by simp at h⟩
    | cons y es ih =>
      obtain ⟨l, rfl, hb⟩ := ih fun z hz => hy z (by simp [hz])
      obtain ⟨a, rfl, ha⟩ := he y (hy y (by simp))
      exact ⟨a :: l, rfl, fun b hb' => (List.mem_cons.1 hb').elim (fun e => e ▸ ha) (hb b)⟩
  obtain ⟨l, rfl, hq⟩ := this
  exact ⟨l, rfl, by simpa using hl, hq⟩
theorem shp_bytes {n : Nat} {x : AV} (h : Shp T (n + 2) ts_uint8 x) : ∃ l, x = lB l ∧ IsB l ∧ l.length ≤ maxLen := by
  obtain ⟨l, rfl, h1, h2⟩ := shp_list (e := t_uint8) u8 (fun b => b < 256) (by kernel_rfl) h fun y hy => by
    obtain ⟨b, rfl, hb⟩ := shp_u8 (by kernel_rfl) hy
    exact ⟨b, rfl, hb⟩
  exact ⟨l, rfl, h2, h1⟩
end Go.Ev.W
namespace Go.Ev.W
open Go.Ev Go.Ev.N

abbrev u64 (n : Nat) : AV := .int .u64 (n : Int)
/-- A number of so many bits. -/
def wB : Nat → (Nat → Bool) → Nat
  | 0, _ => 0
  | n + 1, f => 2 ^ n * (f n).toNat + wB n f
theorem wB_lt : ∀ (n : Nat) (f : Nat → Bool), wB n f < 2 ^ n
  | 0, _ => by simp [wB]
  | n + 1, f => by
    have := wB_lt n f
    unfold wB
    rw [Nat.pow_succ]
    cases f n <;> simp <;> omega
theorem wB_bit : ∀ (n : Nat) (f : Nat → Bool) (j : Nat), (wB n f).testBit j = (decide (j < n) && f j)
  | 0, f, j => by simp [wB]
  | n + 1, f, j => by
    have hl := wB_lt n f
    have ih := wB_bit n f
    unfold wB
    cases hf : f n with
    | false =>
      simp only [Bool.toNat_false, Nat.mul_zero, Nat.zero_add]
      rw [ih j]
      by_cases hj : j = n
      · subst hj; simp [hf]
      · have : decide (j < n + 1) = decide (j < n) := decide_eq_decide.2 (by omega)
        rw [this]
    | true =>
      simp only [Bool.toNat_true, Nat.mul_one]
      rcases Nat.lt_trichotomy j n with h | h | h
      · rw [Nat.testBit_two_pow_add_gt h, ih j, decide_eq_true h, decide_eq_true (show j < n + 1 by omega)]
      · subst h
        rw [Nat.testBit_two_pow_add_eq, ih j]; simp [hf]
      · have h2 : 2 ^ n + wB n f < 2 ^ j := by
          have : 2 ^ (n + 1) ≤ 2 ^ j := Nat.pow_le_pow_right (by omega) (by omega)
          rw [Nat.pow_succ] at this
          omega
        rw [Nat.testBit_lt_two_pow h2, decide_eq_false (by omega)]; rfl
theorem wB_self {u : Nat} (h : u < 2 ^ 64) : wB 64 u.testBit = u := by
  apply Nat.eq_of_testBit_eq
  intro j
  rw [wB_bit]
  by_cases hj : j < 64
  · rw [decide_eq_true hj, Bool.true_and]
  · rw [decide_eq_false hj, Bool.false_and, Nat.testBit_lt_two_pow (Nat.lt_of_lt_of_le h (Nat.pow_le_pow_right (by omega) (by omega)))]
theorem wB_congr {n : Nat} {f g : Nat → Bool} (h : ∀ j, j < n → f j = g j) : wB n f = wB n g := by
  apply Nat.eq_of_testBit_eq
  intro j
  rw [wB_bit, wB_bit]
  by_cases hj : j < n
  · rw [h j hj]
  · rw [decide_eq_false hj]; rfl
theorem wB_inj {n : Nat} {f g : Nat → Bool} (h : wB n f = wB n g) {j : Nat} (hj : j < n) : f j = g j := by
  have := wB_bit n f j
  rw [h, wB_bit, decide_eq_true hj, Bool.true_and, Bool.true_and] at this
  exact this.symm
theorem full_eq : wB 64 (fun _ => true) = 18446744073709551615 := by decide +kernel
theorem zero_eq : wB 64 (fun _ => false) = 0 := by decide +kernel
theorem wB_full {f : Nat → Bool} : wB 64 f = 18446744073709551615 ↔ ∀ j, j < 64 → f j = true := by
  rw [← full_eq]
  exact ⟨fun h j hj => wB_inj h hj, fun h => wB_congr h⟩
-- operations on words
theorem b64 {x : Nat} (h : x < 2 ^ 64) : BitVec.ofInt 64 (x : Int) = BitVec.ofNat 64 x := BitVec.ofInt_natCast 64 x
theorem and64 {x y : Nat} (hx : x < 2 ^ 64) (hy : y < 2 ^ 64) : bitsOp .and .u64 (x : Int) (y : Int) = ((x &&& y : Nat) : Int) := by
  have h0 : x &&& y < 2 ^ 64 := Nat.and_lt_two_pow (n := 64) x hy
  have e : (BitVec.ofInt 64 (x : Int) &&& BitVec.ofInt 64 (y : Int)).toNat = x &&& y := by
    rw [BitVec.toNat_and, b64 hx, b64 hy, BitVec.toNat_ofNat, BitVec.toNat_ofNat, Nat.mod_eq_of_lt hx, Nat.mod_eq_of_lt hy]
  show IntKind.u64.wrap ((BitVec.ofInt 64 (x : Int) &&& BitVec.ofInt 64 (y : Int)).toNat : Int) = _
  rw [e]
  exact wrapU64 (by omega) (by omega)
theorem or64 {x y : Nat} (hx : x < 2 ^ 64) (hy : y < 2 ^ 64) : bitsOp .or .u64 (x : Int) (y : Int) = ((x ||| y : Nat) : Int) := by
  have h0 : x ||| y < 2 ^ 64 := Nat.or_lt_two_pow hx hy
  have e : (BitVec.ofInt 64 (x : Int) ||| BitVec.ofInt 64 (y : Int)).toNat = x ||| y := by
    rw [BitVec.toNat_or, b64 hx, b64 hy, BitVec.toNat_ofNat, BitVec.toNat_ofNat, Nat.mod_eq_of_lt hx, Nat.mod_eq_of_lt hy]
  show IntKind.u64.wrap ((BitVec.ofInt 64 (x : Int) ||| BitVec.ofInt 64 (y : Int)).toNat : Int) = _
  rw [e]
  exact wrapU64 (by omega) (by omega)
theorem andn64 {x y : Nat} (hx : x < 2 ^ 64) (hy : y < 2 ^ 64) : bitsOp .andNot .u64 (x : Int) (y : Int) = ((wB 64 fun j => x.testBit j && !y.testBit j : Nat) : Int) := by
  have h0 := wB_lt 64 fun j => x.testBit j && !y.testBit j
  have e : (BitVec.ofInt 64 (x : Int) &&& ~~~(BitVec.ofInt 64 (y : Int))).toNat = wB 64 fun j => x.testBit j && !y.testBit j := by
    apply Nat.eq_of_testBit_eq
    intro j
    rw [wB_bit, b64 hx, b64 hy, BitVec.testBit_toNat, BitVec.getLsbD_and, BitVec.getLsbD_not, BitVec.getLsbD_ofNat, BitVec.getLsbD_ofNat]
    by_cases hj : j < 64 <;> simp [hj]
  show IntKind.u64.wrap ((BitVec.ofInt 64 (x : Int) &&& ~~~(BitVec.ofInt 64 (y : Int))).toNat : Int) = _
  rw [e]
  exact wrapU64 (by omega) (by omega)
theorem not64 {x : Nat} (hx : x < 2 ^ 64) : bitsOp .xor .u64 18446744073709551615 (x : Int) = ((wB 64 fun j => !x.testBit j : Nat) : Int) := by
  have h0 := wB_lt 64 fun j => !x.testBit j
  have e : (BitVec.ofInt 64 (18446744073709551615 : Int) ^^^ BitVec.ofInt 64 (x : Int)).toNat = wB 64 fun j => !x.testBit j := by
    apply Nat.eq_of_testBit_eq
    intro j
    have hm : BitVec.ofInt 64 (18446744073709551615 : Int) = BitVec.allOnes 64 := by decide
    rw [wB_bit, b64 hx, hm, BitVec.testBit_toNat, BitVec.getLsbD_xor, BitVec.getLsbD_allOnes, BitVec.getLsbD_ofNat]
    by_cases hj : j < 64 <;> simp [hj]
  show IntKind.u64.wrap ((BitVec.ofInt 64 (18446744073709551615 : Int) ^^^ BitVec.ofInt 64 (x : Int)).toNat : Int) = _
  rw [e]
  exact wrapU64 (by omega) (by omega)
/-- The lowest bit that is set; 64: none. -/
def lowW (f : Nat → Bool) : Nat := (List.range 64).findIdx f
theorem lowW_eq {f : Nat → Bool} {n : Nat} (hn : n < 64) (h1 : f n = true) (h2 : ∀ j, j < n → f j = false) : lowW f = n := by
  unfold lowW
  rw [List.findIdx_eq (by simpa using hn)]
  exact ⟨by simpa using h1, fun j hj => by simpa using h2 j hj⟩
theorem lowW_none {f : Nat → Bool} (h : ∀ j, j < 64 → f j = false) : lowW f = 64 := by
  unfold lowW
  have : (List.range 64).findIdx f = (List.range 64).length := List.findIdx_eq_length.2 fun x hx => by simpa using h x (by simpa using hx)
  rw [this]; simp
theorem lowW_spec (f : Nat → Bool) : (lowW f = 64 ∧ ∀ j, j < 64 → f j = false) ∨ (lowW f < 64 ∧ f (lowW f) = true ∧ ∀ j, j < lowW f → f j = false) := by
  by_cases h : ∃ j, j < 64 ∧ f j = true
  · right
    have hlt : (List.range 64).findIdx f < (List.range 64).length := List.findIdx_lt_length_of_exists (by obtain ⟨j, h1, h2⟩ := h; exact ⟨j, by simpa using h1, h2⟩)
    have h64 : lowW f < 64 := by simpa [lowW] using hlt
    refine ⟨h64, ?_, fun j hj => ?_⟩
    · have := List.findIdx_getElem (p := f) (xs := List.range 64) (w := hlt)
      simpa [lowW] using this
    · have := List.not_of_lt_findIdx (p := f) (xs := List.range 64) (i := j) hj
      simpa using this
  · left
    have h : ∀ j, j < 64 → f j = false := fun j hj => by
      cases hf : f j with
      | false => rfl
      | true => exact absurd ⟨j, hj, hf⟩ h
    exact ⟨lowW_none h, h⟩
theorem low_eq {u n : Nat} (hn : n < 64) (h1 : u % 2 ^ n = 0) (h2 : (u / 2 ^ n) % 2 = 1) : lowW u.testBit = n := by
  refine lowW_eq hn ?_ fun j hj => ?_
  · rw [Nat.testBit_eq_decide_div_mod_eq, h2]; rfl
  · obtain ⟨q, hq⟩ := Nat.dvd_of_mod_eq_zero h1
    rw [Nat.testBit_eq_decide_div_mod_eq, hq, show n = j + (1 + (n - j - 1)) by omega, Nat.pow_add, Nat.pow_add, Nat.mul_assoc, Nat.mul_div_cancel_left _ (Nat.two_pow_pos j), Nat.pow_one, Nat.mul_assoc]
    simp
structure LowI (u0 k u n : Nat) : Prop where
  eq : u = u0 / 2 ^ n
  z : u0 % 2 ^ n = 0
  m : u % 2 ^ k ≠ 0
  le : n + k ≤ 64
theorem LowI.step {u0 k u n : Nat} (h : LowI u0 (k + k) u n) : LowI u0 k (if u % 2 ^ k = 0 then u / 2 ^ k else u) (if u % 2 ^ k = 0 then n + k else n) := by
  obtain ⟨h1, h2, h3, h4⟩ := h
  split
  · rename_i hz
    obtain ⟨q, hq⟩ := Nat.dvd_of_mod_eq_zero hz
    obtain ⟨p, hp⟩ := Nat.dvd_of_mod_eq_zero h2
    have hpu : p = u := by rw [h1, hp, Nat.mul_div_cancel_left _ (Nat.two_pow_pos n)]
    refine ⟨?_, ?_, ?_, by omega⟩
    · rw [h1, Nat.div_div_eq_div_mul, ← Nat.pow_add]
    · rw [hp, hpu, hq, ← Nat.mul_assoc, ← Nat.pow_add]
      exact Nat.mul_mod_right _ _
    · intro h
      rw [hq, Nat.mul_div_cancel_left _ (Nat.two_pow_pos k)] at h
      obtain ⟨r, hr⟩ := Nat.dvd_of_mod_eq_zero h
      apply h3
      rw [hq, hr, ← Nat.mul_assoc, ← Nat.pow_add]
      exact Nat.mul_mod_right _ _
  · rename_i hz
    exact ⟨h1, h2, hz, by omega⟩
theorem shl1 {k : Nat} (h : k < 64) : (1 : Int) * 2 ^ min ((k : Nat) : Int).toNat IntKind.u64.bits = ((2 ^ k : Nat) : Int) := by
  rw [Int.toNat_natCast, show min k IntKind.u64.bits = k from Nat.min_eq_left (by show k ≤ 64; omega), Int.one_mul]
  simp
theorem shr64 {u k : Nat} (h : k < 64) : ((u : Nat) : Int).fdiv (2 ^ min ((k : Nat) : Int).toNat IntKind.u64.bits) = ((u / 2 ^ k : Nat) : Int) := by
  rw [Int.toNat_natCast, show min k IntKind.u64.bits = k from Nat.min_eq_left (by show k ≤ 64; omega)]
  have : (2 : Int) ^ k = ((2 ^ k : Nat) : Int) := by simp
  rw [this, Int.fdiv_eq_ediv_of_nonneg _ (Int.natCast_nonneg _)]
  exact (Int.natCast_ediv u (2 ^ k)).symm
theorem pow_le63 {k : Nat} (h : k ≤ 63) : 1 ≤ 2 ^ k ∧ 2 ^ k ≤ 9223372036854775808 := ⟨Nat.two_pow_pos k, Nat.pow_le_pow_right (n := 2) (by omega) h⟩
set_option maxHeartbeats 4000000 in
theorem lowOne_told {u0 : Nat} (h0 : u0 < 2 ^ 64) : Told P T word_LowOne [] [u64 u0] (i64 (lowW u0.testBit : Nat)) [] := by
  refine told_of_ev (fn := word_LowOne_fn) tabOk mixed (by kernel_rfl) (by kernel_rfl) (by kernel_rfl) (by kernel_rfl) ?_
  by_cases hz : u0 = 0
  · subst hz
    rw [lowW_none fun j _ => by simp]
    (refine gw ?_; exact RetN.mk ⟨[], rfl, rfl, rfl⟩)
  · (refine gw ?_; refine IfB.ff (by simp; omega) ?_)
    (refine gw ?_; refine LoopN.mk ⟨[0,2,3], fun vs L => ∃ (i u n : Nat), vs = [u64 u, i64 n, u64 (if i = 0 then 0 else 2 ^ (i - 1) : Nat)] ∧ L = [] ∧ i ≤ 6 ∧ LowI u0 (2 ^ i) u n, fun vs L => match vs with | [_, _, .int _ i] => i.toNat | _ => 0, [], [], rfl, ⟨6, u0, 0, rfl, rfl, by omega, ⟨by simp, by simp [Nat.mod_one], by rw [show (2 : Nat) ^ 6 = 64 by decide, Nat.mod_eq_of_lt h0]; exact hz, by decide⟩⟩, ?_⟩)
    rintro vs L ⟨i, u, n, rfl, rfl, hi, hI⟩
    rcases Nat.eq_zero_or_pos i with hi0 | hi0
    · subst hi0
      obtain ⟨e1, e2, e3, e4⟩ := hI
      have hl := low_eq (u := u0) (n := n) (by simp at e4; omega) e2 (by rw [← e1]; simp at e3; omega)
      rw [hl]
      (refine gw ?_; exact RetN.mk ⟨[], rfl, rfl, rfl⟩)
    · obtain ⟨k, hk⟩ : ∃ k, 2 ^ (i - 1) = k := ⟨_, rfl⟩
      have hk2 : 2 ^ i = k + k := by
        rw [← hk]
        conv => lhs; rw [show i = (i - 1) + 1 by omega, Nat.pow_succ]
        omega
      have hk32 : k ≤ 32 ∧ 1 ≤ k := by rw [← hk]; exact ⟨Nat.le_trans (Nat.pow_le_pow_right (by omega) (show i - 1 ≤ 5 by omega)) (by decide), Nat.two_pow_pos _⟩
      rw [hk2] at hI
      rw [if_neg (by omega), hk]
      have hst := hI.step
      have hul : u < 2 ^ 64 := by rw [hI.eq]; exact Nat.lt_of_le_of_lt (Nat.div_le_self _ _) h0
      have hp := pow_le63 (k := k) (by omega)
      have hsl := shl1 (k := k) (by omega)
      have hand : bitsOp .and .u64 ((u : Nat) : Int) (((2 ^ k : Nat) : Int) - 1) = ((u % 2 ^ k : Nat) : Int) := by
        rw [show ((2 ^ k : Nat) : Int) - 1 = ((2 ^ k - 1 : Nat) : Int) by omega, and64 hul (by omega), Nat.and_two_pow_sub_one_eq_mod]
      have hnx : (((k : Nat) : Int)).fdiv (2 ^ min (1 : Int).toNat IntKind.u64.bits) = ((if i - 1 = 0 then 0 else 2 ^ (i - 1 - 1) : Nat) : Int) := by
        have := shr64 (u := k) (k := 1) (by omega)
        rw [show ((1 : Nat) : Int) = (1 : Int) from rfl] at this
        rw [this, ← hk]
        split
        · rename_i h; rw [h]
        · rename_i h
          conv => lhs; rw [show i - 1 = (i - 1 - 1) + 1 by omega, Nat.pow_succ]
          simp
      have hhalf : (if i - 1 = 0 then 0 else 2 ^ (i - 1 - 1) : Nat) < k := by
        rw [← hk]
        split
        · rename_i h; rw [h]; decide
        · rename_i h; exact Nat.pow_lt_pow_right (by omega) (by omega)
      have hn64 := hI.le
      (refine gw ?_; refine IfB.tt (by simp; omega) ?_)
      (refine gw ?_)
      rw [hsl, hand]
      obtain ⟨hf, hhf⟩ : ∃ hf, (if i - 1 = 0 then 0 else 2 ^ (i - 1 - 1) : Nat) = hf := ⟨_, rfl⟩
      rw [hhf] at hnx hhalf
      obtain ⟨um, hum⟩ : ∃ um, u % 2 ^ k = um := ⟨_, rfl⟩
      rw [hum] at hst ⊢
      by_cases hm : um = 0
      · rw [if_pos hm, if_pos hm] at hst
        have hsr := shr64 (u := u) (k := k) (by omega)
        (refine gw ?_; refine IfB.tt (by rw [hm]; rfl) ?_)
        (refine gw ?_)
        rw [hsr]
        (refine gw ?_)
        rw [hnx]
        (refine gw ?_; refine ⟨[], [], rfl, ⟨i - 1, u / 2 ^ k, n + k, by rw [hhf]; rfl, rfl, by omega, by rw [hk]; exact hst⟩, (by omega : ((hf : Nat) : Int).toNat < ((k : Nat) : Int).toNat)⟩)
      · rw [if_neg hm, if_neg hm] at hst
        (refine gw ?_; refine IfB.ff (by simp; omega) ?_)
        (refine gw ?_)
        rw [hnx]
        (refine gw ?_; refine ⟨[], [], rfl, ⟨i - 1, u, n, by rw [hhf]; rfl, rfl, by omega, by rw [hk]; exact hst⟩, (by omega : ((hf : Nat) : Int).toNat < ((k : Nat) : Int).toNat)⟩)
theorem lowZero_told {u : Nat} (h : u < 2 ^ 64) : Told P T word_LowZero [] [u64 u] (i64 (lowW fun j => !u.testBit j : Nat)) [] := by
  have c1 := lowOne_told (wB_lt 64 fun j => !u.testBit j)
  have e : lowW (wB 64 fun j => !u.testBit j).testBit = lowW fun j => !u.testBit j := by
    have h1 : ∀ j, j < 64 → (wB 64 fun j => !u.testBit j).testBit j = !u.testBit j := fun j hj => by rw [wB_bit, decide_eq_true hj, Bool.true_and]
    rcases lowW_spec fun j => !u.testBit j with ⟨e1, e2⟩ | ⟨e1, e2, e3⟩
    · rw [e1]; exact lowW_none fun j hj => by rw [h1 j hj]; exact e2 j hj
    · exact lowW_eq e1 (by rw [h1 _ e1]; exact e2) fun j hj => by rw [h1 j (by omega)]; exact e3 j hj
  rw [e] at c1
  have hx : bitsOp .xor .u64 (if IntKind.u64.signed = true then -1 else IntKind.u64.max) ((u : Nat) : Int) = ((wB 64 fun j => !u.testBit j : Nat) : Int) := not64 h
  refine told_of_ev (fn := word_LowZero_fn) tabOk mixed (by kernel_rfl) (by kernel_rfl) (by kernel_rfl) (by kernel_rfl) ?_
  (refine gw ?_)
  rw [hx]
  (refine gw ?_; refine Choice.mk ⟨false, Choice.mk ⟨true, _, _, c1, ?_⟩⟩)
  (refine gw ?_; exact RetN.mk ⟨[], rfl, rfl, rfl⟩)
/-- Some bits of a word from one on. -/
def maskF (i n : Int) : Nat := if i < 0 ∨ n ≤ 0 ∨ i ≥ 64 then 0 else wB 64 fun j => decide (i ≤ j) && decide ((j : Int) < i + n)
theorem maskF_lt (i n : Int) : maskF i n < 2 ^ 64 := by
  unfold maskF; split
  · decide
  · exact wB_lt _ _
theorem maskF_bit {i n : Int} {j : Nat} (hj : j < 64) (hi : 0 ≤ i) : (maskF i n).testBit j = (decide (i ≤ j) && decide ((j : Int) < i + n)) := by
  unfold maskF
  split
  · rename_i h
    rw [Nat.zero_testBit]
    by_cases h1 : i ≤ (j : Int)
    · rw [decide_eq_false (show ¬ ((j : Int) < i + n) by omega), Bool.and_false]
    · rw [decide_eq_false h1]; rfl
  · rw [wB_bit, decide_eq_true hj, Bool.true_and]
theorem shl64 {u k : Nat} (h : k < 64) : IntKind.u64.wrap (((u : Nat) : Int) * 2 ^ min ((k : Nat) : Int).toNat IntKind.u64.bits) = ((u * 2 ^ k % 2 ^ 64 : Nat) : Int) := by
  rw [Int.toNat_natCast, show min k IntKind.u64.bits = k from Nat.min_eq_left (by show k ≤ 64; omega), IntKind.wrap_u64]
  have : ((u : Nat) : Int) * 2 ^ k = ((u * 2 ^ k : Nat) : Int) := by simp
  rw [this]
  exact (Int.natCast_emod (u * 2 ^ k) (2 ^ 64)).symm
theorem mask_word {i n : Nat} (hi : i < 64) (hn : 1 ≤ n) : (if n < 64 then 2 ^ n - 1 else 2 ^ 64 - 1) * 2 ^ i % 2 ^ 64 = maskF i n := by
  apply Nat.eq_of_testBit_eq
  intro j
  rw [Nat.testBit_mod_two_pow, Nat.testBit_mul_two_pow]
  have h0 : (if n < 64 then 2 ^ n - 1 else 2 ^ 64 - 1 : Nat) = 2 ^ (if n < 64 then n else 64) - 1 := by split <;> rfl
  rw [h0, Nat.testBit_two_pow_sub_one]
  by_cases hj : j < 64
  · rw [maskF_bit hj (by omega), decide_eq_true hj, Bool.true_and]
    by_cases hij : i ≤ j
    · rw [decide_eq_true (show j ≥ i from hij), decide_eq_true (show (i : Int) ≤ (j : Int) by omega), Bool.true_and, Bool.true_and]
      refine decide_eq_decide.2 ?_
      split <;> omega
    · rw [decide_eq_false (show ¬ j ≥ i from hij), decide_eq_false (show ¬ (i : Int) ≤ (j : Int) by omega)]; rfl
  · rw [decide_eq_false hj, Nat.testBit_lt_two_pow (Nat.lt_of_lt_of_le (maskF_lt _ _) (Nat.pow_le_pow_right (by omega) (by omega)))]; rfl
set_option maxHeartbeats 2000000 in
theorem mask_told (i n : Int) (hi : i ≤ 1000000) (hn : -1000000000000 ≤ n ∧ n ≤ 1000000000000) : Told P T word_Mask [] [i64 i, i64 n] (u64 (maskF i n)) [] := by
  refine told_of_ev (fn := word_Mask_fn) tabOk mixed (by kernel_rfl) (by kernel_rfl) (by kernel_rfl) (by kernel_rfl) ?_
  by_cases h1 : i < 0
  · rw [show maskF i n = 0 by unfold maskF; rw [if_pos (.inl h1)]]
    (refine gw ?_; refine IfB.tt (by simpa using h1) ?_)
    (refine gw ?_; exact RetN.mk ⟨[], rfl, rfl, rfl⟩)
  · (refine gw ?_; refine IfB.ff (by simpa using h1) ?_)
    by_cases h2 : n ≤ 0
    · rw [show maskF i n = 0 by unfold maskF; rw [if_pos (.inr (.inl h2))]]
      (refine gw ?_; refine IfB.tt (by simpa using h2) ?_)
      (refine gw ?_; exact RetN.mk ⟨[], rfl, rfl, rfl⟩)
    · (refine gw ?_; refine IfB.ff (by simpa using h2) ?_)
      by_cases h3 : i ≥ 64
      · rw [show maskF i n = 0 by unfold maskF; rw [if_pos (.inr (.inr h3))]]
        (refine gw ?_; refine IfB.tt (by simpa using h3) ?_)
        (refine gw ?_; exact RetN.mk ⟨[], rfl, rfl, rfl⟩)
      · (refine gw ?_; refine IfB.ff (by simpa using h3) ?_)
        obtain ⟨a, rfl⟩ : ∃ a : Nat, i = a := ⟨i.toNat, by omega⟩
        obtain ⟨b, rfl⟩ : ∃ b : Nat, n = b := ⟨n.toNat, by omega⟩
        have hm := mask_word (i := a) (n := b) (by omega) (by omega)
        by_cases h4 : b < 64
        · have hs1 := shl1 (k := b) (by omega)
          have hp := pow_le63 (k := b) (by omega)
          have hs2 := shl64 (u := 2 ^ b - 1) (k := a) (by omega)
          rw [if_pos h4] at hm
          rw [hm] at hs2
          (refine gw ?_; refine IfB.tt (by simp; omega) ?_)
          (refine gw ?_)
          rw [hs1, show ((2 ^ b : Nat) : Int) - 1 = ((2 ^ b - 1 : Nat) : Int) by omega]
          refine ⟨?_⟩
          rw [hs2]
          (refine gw ?_; exact RetN.mk ⟨[], rfl, rfl, rfl⟩)
        · have hs2 := shl64 (u := 2 ^ 64 - 1) (k := a) (by omega)
          rw [if_neg h4] at hm
          rw [hm] at hs2
          have hs2 : IntKind.u64.wrap (18446744073709551615 * 2 ^ min ((a : Nat) : Int).toNat IntKind.u64.bits) = _ := hs2
          (refine gw ?_; refine IfB.ff (by simp; omega) ?_)
          (refine gw ?_)
          refine ⟨?_⟩
          rw [hs2]
          (refine gw ?_; exact RetN.mk ⟨[], rfl, rfl, rfl⟩)
end Go.Ev.W
namespace Go.Ev.W
open Go.Ev Go.Ev.N

def FW : Nat := 18446744073709551615
/-- Levels of words. -/
abbrev LV := List (List Nat)
def IsW (v : LV) : Prop := ∀ r ∈ v, ∀ u ∈ r, u < 2 ^ 64
def lR (r : List Nat) : AV := .lst t_uint64 (r.map u64)
def lV (v : LV) : AV := .lst ts_uint64 (v.map lR)
def eT (s : Int) (v : LV) : AV := .agg [i64 s, lV v]
def gV (v : LV) : Blk := .grid ts_uint64 t_uint64 (v.map fun r => (true, r.map u64))
/-- A word; one that is not there is full. -/
def atF (v : LV) (l : Nat) (k : Int) : Nat := if k < 0 then FW else (v.getD l []).getD k.toNat FW
def putF (v : LV) (l : Nat) (k : Int) (u : Nat) : LV := if k < 0 then v else v.modify l fun r => r.set k.toNat u
theorem atF_lt {v : LV} (h : IsW v) (l : Nat) (k : Int) : atF v l k < 2 ^ 64 := by
  unfold atF
  split
  · decide
  · rw [List.getD_eq_getElem?_getD, List.getD_eq_getElem?_getD]
    cases hl : v[l]? with
    | none => simp [FW]
    | some r =>
      simp only [Option.getD_some]
      cases hk : r[k.toNat]? with
      | none => simp [FW]
      | some u => exact h r (List.mem_of_getElem? hl) u (List.mem_of_getElem? hk)
theorem putF_w {v : LV} (h : IsW v) (l : Nat) (k : Int) {u : Nat} (hu : u < 2 ^ 64) : IsW (putF v l k u) := by
  unfold putF
  split
  · exact h
  · intro r hr x hx
    obtain ⟨i, hi, rfl⟩ := List.getElem_of_mem hr
    rw [List.getElem_modify] at hx
    have hil : i < v.length := by simpa using hi
    split at hx
    · rcases List.mem_or_eq_of_mem_set hx with hx | rfl
      · exact h _ (List.getElem_mem hil) x hx
      · exact hu
    · exact h _ (List.getElem_mem hil) x hx
theorem putF_len (v : LV) (l : Nat) (k : Int) (u : Nat) : (putF v l k u).length = v.length := by unfold putF; split <;> simp
theorem treeAt_told {s : Int} {v : LV} (hv : v.length ≤ 1000) (hr : ∀ r ∈ v, r.length ≤ 100000) (l : Nat) (k : Int) : Told P T tree_at [] [eT s v, i64 l, i64 k] (u64 (atF v l k)) [] := by
  have hm : (v.map lR).length = v.length := by simp
  refine told_of_ev (fn := tree_at_fn) tabOk mixed (by kernel_rfl) (by kernel_rfl) (by kernel_rfl) (by kernel_rfl) ?_
  by_cases h1 : l ≥ v.length
  · have e : atF v l k = FW := by
      unfold atF
      split
      · rfl
      · rw [List.getD_eq_getElem?_getD, List.getD_eq_getElem?_getD, List.getElem?_eq_none (l := v) (by omega)]; simp
    rw [e]
    (refine gw ?_; refine IfB.tt (by rw [hm]; simp; omega) ?_)
    (refine gw ?_; exact RetN.mk ⟨[], rfl, rfl, rfl⟩)
  · (refine gw ?_; refine IfB.ff (by rw [hm]; simp; omega) ?_)
    by_cases h2 : k < 0
    · have e : atF v l k = FW := by unfold atF; rw [if_pos h2]
      rw [e]
      (refine gw ?_; refine IfB.tt (by simpa using h2) ?_)
      (refine gw ?_; exact RetN.mk ⟨[], rfl, rfl, rfl⟩)
    · obtain ⟨a, rfl⟩ : ∃ a : Nat, k = a := ⟨k.toNat, by omega⟩
      have hlv : l < v.length := by omega
      have hmr : (v[l].map u64).length = v[l].length := by simp
      (refine gw ?_; refine idx_map (hlv) ?_)
      (refine gw ?_)
      by_cases h3 : a ≥ v[l].length
      · have e : atF v l a = FW := by
          unfold atF
          rw [if_neg (by omega), List.getD_eq_getElem?_getD, List.getD_eq_getElem?_getD, List.getElem?_eq_getElem hlv]
          simp only [Option.getD_some]
          rw [List.getElem?_eq_none (by rw [Int.toNat_natCast]; exact h3)]; rfl
        rw [e]
        (refine gw ?_; refine IfB.tt (by rw [hmr]; simp; omega) ?_)
        (refine gw ?_; exact RetN.mk ⟨[], rfl, rfl, rfl⟩)
      · have hal : a < v[l].length := by omega
        have e : atF v l a = v[l][a] := by
          unfold atF
          rw [if_neg (by omega), List.getD_eq_getElem?_getD, List.getD_eq_getElem?_getD, List.getElem?_eq_getElem hlv]
          simp only [Option.getD_some]
          rw [Int.toNat_natCast, List.getElem?_eq_getElem hal]; rfl
        rw [e]
        (refine gw ?_; refine IfB.ff (by rw [hmr]; simp; omega) ?_)
        (refine gw ?_; refine idx_map (hlv) ?_)
        (refine gw ?_; refine idx_map (hal) ?_)
        (refine gw ?_; exact RetN.mk ⟨[], rfl, rfl, rfl⟩)
/-- A grid, as it lies where nobody writes. -/
def eTg (s : Int) (v : LV) : AV := .agg [i64 s, .lst ts_uint64 ((v.map fun r => (true, r.map u64)).map fun g => .lst t_uint64 g.2)]
theorem eTg_eq (s : Int) (v : LV) : eTg s v = eT s v := by
  unfold eTg eT lV lR
  rw [List.map_map]; rfl
theorem gnode {v : LV} {l : Nat} (h : l < v.length) {Q : Bool → List AV → Prop} (q : Q true (v[l].map u64)) : GNode (v.map fun r => (true, r.map u64)) l Q := ⟨true, _, by simp [h], q⟩
set_option maxHeartbeats 2000000 in
theorem treePut_told {s : Int} {v : LV} (hv : v.length ≤ 1000) (hr : ∀ r ∈ v, r.length ≤ 100000) (l : Nat) (k : Int) (u : Nat) : Told P T tree_put [gV v] [.agg [i64 s, .ref 0], i64 l, i64 k, u64 u] (.tup []) [gV (putF v l k u)] := by
  have hm : (v.map fun r => (true, r.map u64)).length = v.length := by simp
  refine told_of_ev (fn := tree_put_fn) tabOk mixed (by kernel_rfl) (by kernel_rfl) (by kernel_rfl) (by kernel_rfl) ?_
  by_cases h1 : l < v.length
  · (refine gw ?_; refine IfB.tt (by rw [hm]; simp; omega) ?_)
    by_cases h2 : k < 0
    · have e : putF v l k u = v := by unfold putF; rw [if_pos h2]
      rw [e]
      (refine gw ?_; refine IfB.ff (by simp; omega) ?_)
      (refine gw ?_; exact RetN.mk ⟨[], rfl, rfl, rfl⟩)
    · obtain ⟨a, rfl⟩ : ∃ a : Nat, k = a := ⟨k.toNat, by omega⟩
      have hmr : (v[l].map u64).length = v[l].length := by simp
      (refine gw ?_)
      refine gnode h1 ?_
      (refine gw ?_)
      refine gnode h1 ?_
      by_cases h3 : a < v[l].length
      · have e : (v.map fun r => (true, r.map u64)).set l (true, (v[l].map u64).set a (u64 u)) = (putF v l a u).map fun r => (true, r.map u64) := by
          unfold putF
          rw [if_neg (by omega), Int.toNat_natCast]
          apply List.ext_getElem (by simp)
          intro i h4 h5
          have hi : i < v.length := by simpa using h4
          rw [List.getElem_map, List.getElem_modify]
          by_cases hil : l = i
          · subst hil
            rw [List.getElem_set_self, if_pos rfl, List.map_set]
          · rw [List.getElem_set_ne hil, if_neg hil, List.getElem_map]
        (refine gw ?_; refine IfB.tt (by rw [hmr]; simp; omega) ?_)
        (refine gw ?_)
        refine gnode h1 ?_
        (refine gw ?_)
        refine gnode h1 ?_
        (refine gw ?_)
        refine gnode h1 ?_
        rw [show gV (putF v l a u) = .grid ts_uint64 t_uint64 ((v.map fun r => (true, r.map u64)).set l (true, (v[l].map u64).set a (u64 u))) by unfold gV; rw [← e]]
        (refine gw ?_; exact RetN.mk ⟨[], rfl, rfl, rfl⟩)
      · have e : putF v l a u = v := by
          unfold putF
          rw [if_neg (by omega)]
          apply List.ext_getElem (by simp)
          intro i h4 h5
          rw [List.getElem_modify]
          split
          · rename_i hil; subst hil
            rw [List.set_eq_of_length_le (by omega)]
          · rfl
        rw [e]
        (refine gw ?_; refine IfB.ff (by rw [hmr]; simp; omega) ?_)
        (refine gw ?_; exact RetN.mk ⟨[], rfl, rfl, rfl⟩)
  · have e : putF v l k u = v := by
      unfold putF
      split
      · rfl
      · exact List.modify_eq_self (by omega)
    rw [e]
    (refine gw ?_; refine IfB.ff (by rw [hm]; simp; omega) ?_)
    (refine gw ?_; exact RetN.mk ⟨[], rfl, rfl, rfl⟩)
/-- A word one bit of which is set, or not. -/
def sumW (a m : Nat) (b : Bool) : Nat := wB 64 fun j => if j = m then b else a.testBit j
theorem pow_lt64 {k : Nat} (h : k < 64) : 2 ^ k < 2 ^ 64 := Nat.pow_lt_pow_right (by omega) h
theorem pow_bit {k j : Nat} : (2 ^ k).testBit j = decide (j = k) := by rw [Nat.testBit_two_pow]; exact decide_eq_decide.2 eq_comm
theorem sumW_ops {a m : Nat} (ha : a < 2 ^ 64) (hm : m < 64) : ∃ y : Nat, bitsOp .andNot .u64 (a : Int) ((2 ^ m : Nat) : Int) = (y : Int) ∧ bitsOp .or .u64 (y : Int) ((2 ^ m : Nat) : Int) = ((sumW a m true : Nat) : Int) ∧ y = sumW a m false := by
  have hp := pow_lt64 hm
  have h1 := wB_lt 64 fun j => a.testBit j && !(2 ^ m).testBit j
  refine ⟨_, andn64 ha hp, ?_, ?_⟩
  · rw [or64 h1 hp]
    refine congrArg Int.ofNat ?_
    unfold sumW
    apply Nat.eq_of_testBit_eq
    intro j
    rw [Nat.testBit_or, wB_bit, wB_bit, pow_bit]
    by_cases hj : j = m
    · rw [if_pos hj, decide_eq_true hj, decide_eq_true (show j < 64 by omega)]; simp
    · rw [if_neg hj, decide_eq_false hj]; simp
  · unfold sumW
    refine wB_congr fun j _ => ?_
    rw [pow_bit]
    by_cases hj : j = m
    · rw [if_pos hj, decide_eq_true hj]; simp
    · rw [if_neg hj, decide_eq_false hj]; simp
/-- A level is brought up to date. -/
def sum1 (v : LV) (l i : Nat) : LV :=
  putF v l (i / 64 : Nat) (sumW (atF v l (i / 64 : Nat)) (i % 64) (decide (atF v (l - 1) i = FW)))
def sumsF (v : LV) (l lo : Nat) : Nat → LV
  | 0 => v
  | c + 1 => sum1 (sumsF v l lo c) l (lo + c)
theorem sum1_w {v : LV} (h : IsW v) (l i : Nat) : IsW (sum1 v l i) := putF_w h _ _ (wB_lt _ _)
theorem sumsF_w {v : LV} (h : IsW v) (l lo : Nat) : ∀ c, IsW (sumsF v l lo c)
  | 0 => h
  | c + 1 => sum1_w (sumsF_w h l lo c) _ _
theorem sumsF_len (v : LV) (l lo : Nat) : ∀ c, (sumsF v l lo c).length = v.length
  | 0 => rfl
  | c + 1 => by unfold sumsF sum1; rw [putF_len, sumsF_len]
theorem putF_row {v : LV} {l : Nat} {k : Int} {u N : Nat} (h : ∀ r ∈ v, r.length ≤ N) : ∀ r ∈ putF v l k u, r.length ≤ N := by
  unfold putF
  split
  · exact h
  · intro r hr
    obtain ⟨i, hi, rfl⟩ := List.getElem_of_mem hr
    rw [List.getElem_modify]
    have hil : i < v.length := by simpa using hi
    split
    · rw [List.length_set]; exact h _ (List.getElem_mem hil)
    · exact h _ (List.getElem_mem hil)
theorem sumsF_row {v : LV} {N : Nat} (h : ∀ r ∈ v, r.length ≤ N) (l lo : Nat) : ∀ c, ∀ r ∈ sumsF v l lo c, r.length ≤ N
  | 0 => h
  | c + 1 => by
    unfold sumsF sum1
    exact putF_row (sumsF_row h l lo c)
set_option maxHeartbeats 4000000 in
theorem treeSums_told {s : Int} {v : LV} (hv : v.length ≤ 1000) (hr : ∀ r ∈ v, r.length ≤ 100000) (hw : IsW v) (l lo hi : Nat) (hl : 1 ≤ l ∧ l ≤ 1000) (hlh : lo ≤ hi + 1) (hh : hi ≤ 1000000) : Told P T tree_sums [gV v] [.agg [i64 s, .ref 0], i64 l, i64 lo, i64 hi] (.tup []) [gV (sumsF v l lo (hi + 1 - lo))] := by
  refine told_of_ev (fn := tree_sums_fn) tabOk mixed (by kernel_rfl) (by kernel_rfl) (by kernel_rfl) (by kernel_rfl) ?_
  (refine gw ?_; refine LoopN.mk ⟨[1,3,4,8], fun vs L => ∃ c : Nat, vs = [i64 l, i64 hi, .ptr 1 0 0, i64 (lo + c : Nat)] ∧ L = [gV (sumsF v l lo c), .var (.agg [i64 s, .ref 0])] ∧ lo + c ≤ hi + 1, fun vs L => match vs with | [_, _, _, .int _ i] => hi + 1 - i.toNat | _ => 0, [], [1], rfl, ⟨0, rfl, rfl, by omega⟩, ?_⟩)
  rintro vs L ⟨c, rfl, rfl, hc⟩
  have hw1 := sumsF_w hw l lo c
  have hlen := sumsF_len v l lo c
  have hrow := sumsF_row hr l lo c
  have hsuc : sumsF v l lo (c + 1) = sum1 (sumsF v l lo c) l (lo + c) := rfl
  obtain ⟨x, hxe⟩ : ∃ x, sumsF v l lo c = x := ⟨_, rfl⟩
  rw [hxe] at hw1 hlen hrow hsuc ⊢
  by_cases h1 : lo + c ≤ hi
  · obtain ⟨i, hie⟩ : ∃ i, lo + c = i := ⟨_, rfl⟩
    rw [hie] at hsuc h1 ⊢
    have c1 := treeAt_told (s := s) (v := x) (by omega) hrow l (i / 64 : Nat)
    have c2 := treeAt_told (s := s) (v := x) (by omega) hrow (l - 1) (i : Nat)
    rw [show ((l - 1 : Nat) : Int) = (l : Int) - 1 by omega] at c2
    have hd : ((i : Nat) : Int).tdiv 64 = ((i / 64 : Nat) : Int) := (Int.ofNat_tdiv i 64).symm
    have hmd : ((i : Nat) : Int).tmod 64 = ((i % 64 : Nat) : Int) := by rw [Int.tmod_eq_emod_of_nonneg (by omega)]; omega
    have hm64 : i % 64 < 64 := Nat.mod_lt _ (by omega)
    have hsl := shl1 hm64
    have hpi : ((2 ^ (i % 64) : Nat) : Int) ≤ 18446744073709551615 := Int.ofNat_le.2 (Nat.le_trans (pow_le63 (by omega)).2 (by decide))
    obtain ⟨y, ha, hor, hy⟩ := sumW_ops (atF_lt hw1 l (i / 64 : Nat)) hm64
    have c3 := fun u => treePut_told (s := s) (v := x) (by omega) hrow l (i / 64 : Nat) u
    unfold sum1 at hsuc
    rw [← eTg_eq] at c1 c2
    clear hw1 hrow hr hw
    generalize atF x l (i / 64 : Nat) = a1 at *
    generalize atF x (l - 1) (i : Nat) = a2 at *
    obtain ⟨z, hz⟩ : ∃ z, sumW a1 (i % 64) true = z := ⟨_, rfl⟩
    rw [hz] at hor
    generalize 2 ^ (i % 64) = pw at *
    (refine gw ?_; refine IfB.tt (by simp; omega) ?_)
    (refine gw ?_)
    rw [hmd]
    refine ⟨?_⟩
    rw [hsl, wrapU64 (Int.natCast_nonneg _) hpi]
    (refine gw ?_)
    rw [hd]
    (refine gw ?_; refine Choice.mk ⟨false, Choice.mk ⟨true, _, _, c1, ?_⟩⟩)
    (refine gw ?_)
    rw [ha]
    (refine gw ?_; refine Choice.mk ⟨false, Choice.mk ⟨true, _, _, c2, ?_⟩⟩)
    by_cases hF : a2 = FW
    · rw [decide_eq_true hF, hz] at hsuc
      (refine gw ?_; refine IfB.tt (by rw [hF]; rfl) ?_)
      (refine gw ?_)
      rw [hor]
      (refine gw ?_)
      rw [hd]
      (refine gw ?_; refine Choice.mk ⟨true, Choice.mk ⟨false, _, _, c3 _, ?_⟩⟩)
      (refine gw ?_; refine ⟨[], [1], rfl, ⟨c + 1, by rw [show lo + (c + 1) = i + 1 by omega]; rfl, by rw [hsuc]; rfl, by omega⟩, (by omega : hi + 1 - ((i : Int) + 1).toNat < hi + 1 - (i : Int).toNat)⟩)
    · rw [decide_eq_false hF, ← hy] at hsuc
      have hF' : ((a2 : Nat) : Int) ≠ 18446744073709551615 := fun h => hF (by unfold FW; omega)
      (refine gw ?_; refine IfB.ff (by simpa using hF') ?_)
      (refine gw ?_)
      rw [hd]
      (refine gw ?_; refine Choice.mk ⟨true, Choice.mk ⟨false, _, _, c3 _, ?_⟩⟩)
      (refine gw ?_; refine ⟨[], [1], rfl, ⟨c + 1, by rw [show lo + (c + 1) = i + 1 by omega]; rfl, by rw [hsuc]; rfl, by omega⟩, (by omega : hi + 1 - ((i : Int) + 1).toNat < hi + 1 - (i : Int).toNat)⟩)
  · have e : hi + 1 - lo = c := by omega
    rw [e, hxe]
    (refine gw ?_; refine IfB.ff (by simp; omega) ?_)
    (refine gw ?_; exact RetN.mk ⟨[], rfl, rfl, rfl⟩)
end Go.Ev.W
namespace Go.Ev.W
open Go.Ev Go.Ev.N

/-- Levels, by level and place. -/
def tabV (H : Nat) (len : Nat → Nat) (f : Nat → Nat → Nat) : LV := (List.range H).map fun l => (List.range (len l)).map (f l)
theorem tabV_len (H : Nat) (len : Nat → Nat) (f : Nat → Nat → Nat) : (tabV H len f).length = H := by simp [tabV]
theorem tabV_get {H l : Nat} {len : Nat → Nat} {f : Nat → Nat → Nat} (h : l < (tabV H len f).length) : (tabV H len f)[l] = (List.range (len l)).map (f l) := by simp [tabV]
theorem tabV_at {H l k : Nat} {len : Nat → Nat} {f : Nat → Nat → Nat} (hl : l < H) (hk : k < len l) : atF (tabV H len f) l k = f l k := by
  unfold atF tabV
  rw [if_neg (by omega), List.getD_eq_getElem?_getD, List.getD_eq_getElem?_getD]
  simp [hl, hk]
theorem tabV_at_no {H l k : Nat} {len : Nat → Nat} {f : Nat → Nat → Nat} (h : H ≤ l ∨ len l ≤ k) : atF (tabV H len f) l k = FW := by
  unfold atF tabV
  rw [if_neg (by omega), List.getD_eq_getElem?_getD, List.getD_eq_getElem?_getD]
  by_cases hl : l < H
  · have hk : len l ≤ k := by omega
    simp [hl]
    rw [List.getElem?_eq_none (by simp; omega)]; simp
  · rw [List.getElem?_eq_none (l := (List.range H).map fun l => (List.range (len l)).map (f l)) (by simp; omega)]; simp
theorem tabV_congr {H : Nat} {len : Nat → Nat} {f g : Nat → Nat → Nat} (h : ∀ l, l < H → ∀ k, k < len l → f l k = g l k) : tabV H len f = tabV H len g := by
  unfold tabV
  refine List.map_congr_left fun l hl => List.map_congr_left fun k hk => h l (by simpa using hl) k (by simpa using hk)
theorem tabV_put {H l k u : Nat} {len : Nat → Nat} {f : Nat → Nat → Nat} (hl : l < H) (hk : k < len l) : putF (tabV H len f) l k u = tabV H len fun l' k' => if l' = l ∧ k' = k then u else f l' k' := by
  unfold putF
  rw [if_neg (by omega), Int.toNat_natCast]
  apply List.ext_getElem (by simp [tabV])
  intro i h1 h2
  rw [List.getElem_modify, tabV_get]
  have hi : i < H := by simpa [tabV] using h2
  have hi2 : i < (tabV H len f).length := by rw [tabV_len]; exact hi
  by_cases hil : l = i
  · subst hil
    rw [if_pos rfl, tabV_get]
    apply List.ext_getElem (by simp)
    intro j h3 h4
    have hj : j < len l := by simpa using h4
    rw [List.getElem_set]
    simp only [List.getElem_map, List.getElem_range]
    by_cases hjk : k = j
    · subst hjk; simp
    · rw [if_neg hjk, if_neg (by omega)]
  · rw [if_neg hil, tabV_get]
    refine List.map_congr_left fun j _ => ?_
    rw [if_neg (by omega)]
theorem tabV_w {H : Nat} {len : Nat → Nat} {f : Nat → Nat → Nat} (h : ∀ l k, f l k < 2 ^ 64) : IsW (tabV H len f) := by
  intro r hr u hu
  obtain ⟨l, _, rfl⟩ := List.mem_map.1 hr
  obtain ⟨k, _, rfl⟩ := List.mem_map.1 hu
  exact h l k
theorem tabV_row {H N : Nat} {len : Nat → Nat} {f : Nat → Nat → Nat} (h : ∀ l, l < H → len l ≤ N) : ∀ r ∈ tabV H len f, r.length ≤ N := by
  intro r hr
  obtain ⟨l, hl, rfl⟩ := List.mem_map.1 hr
  simpa using h l (by simpa using hl)

/-- How many bits a level has. -/
def szT (n : Nat) : Nat → Nat
  | 0 => n
  | l + 1 => (szT n l - 1) / 64 + 1
/-- A word of some bits, of which those beyond are set. -/
def wdT (n : Nat) (b : Nat → Bool) (k : Nat) : Nat := wB 64 fun j => decide (n ≤ 64 * k + j) || b (64 * k + j)
/-- A level's bits. -/
def btT (n : Nat) (b : Nat → Bool) : Nat → Nat → Bool
  | 0 => b
  | l + 1 => fun k => decide (wdT (szT n l) (btT n b l) k = FW)
def hT (n : Nat) : Nat := if n ≤ 64 then 1 else if n ≤ 4096 then 2 else 3
def fT (n : Nat) (b : Nat → Bool) (l k : Nat) : Nat := wdT (szT n l) (btT n b l) k
def lenT (n l : Nat) : Nat := szT n (l + 1)
def lvT (n : Nat) (b : Nat → Bool) : LV := tabV (hT n) (lenT n) (fT n b)
def eTr (n : Nat) (b : Nat → Bool) : AV := eT n (lvT n b)
theorem wdT_lt (n : Nat) (b : Nat → Bool) (k : Nat) : wdT n b k < 2 ^ 64 := wB_lt _ _
theorem fT_lt (n : Nat) (b : Nat → Bool) (l k : Nat) : fT n b l k < 2 ^ 64 := wB_lt _ _
theorem hT_le (n : Nat) : 1 ≤ hT n ∧ hT n ≤ 3 := by
  unfold hT
  split
  · omega
  · split <;> omega
theorem szT_pos {n : Nat} (h : 1 ≤ n) : ∀ l, 1 ≤ szT n l
  | 0 => h
  | l + 1 => by unfold szT; omega
theorem szT_le {n : Nat} (h : 1 ≤ n) : ∀ l, szT n (l + 1) ≤ szT n l := fun l => by
  have := szT_pos h l
  show (szT n l - 1) / 64 + 1 ≤ szT n l
  omega
theorem szT_le_n {n : Nat} (h : 1 ≤ n) : ∀ l, szT n l ≤ n
  | 0 => Nat.le_refl _
  | l + 1 => Nat.le_trans (szT_le h l) (szT_le_n h l)
/-- The last level has one word, those below more. -/
theorem hT_last {n : Nat} (h : 1 ≤ n) (h2 : n ≤ 65536) : szT n (hT n - 1) ≤ 64 ∧ ∀ l, l + 1 < hT n → 64 < szT n l := by
  unfold hT
  split
  · exact ⟨by assumption, fun l hl => by omega⟩
  · split
    · refine ⟨by show (n - 1) / 64 + 1 ≤ 64; omega, fun l hl => ?_⟩
      have : l = 0 := by omega
      subst this; show 64 < n; omega
    · refine ⟨by show ((n - 1) / 64 + 1 - 1) / 64 + 1 ≤ 64; omega, fun l hl => ?_⟩
      rcases (by omega : l = 0 ∨ l = 1) with rfl | rfl
      · show 64 < n; omega
      · show 64 < (n - 1) / 64 + 1; omega
theorem lenT_last {n : Nat} (h : 1 ≤ n) (h2 : n ≤ 65536) : lenT n (hT n - 1) = 1 := by
  have h1 := (hT_last h h2).1
  have h3 := szT_pos h (hT n - 1)
  show (szT n (hT n - 1) - 1) / 64 + 1 = 1
  omega
theorem lenT_le {n : Nat} (h : 1 ≤ n) (h2 : n ≤ 65536) (l : Nat) : 1 ≤ lenT n l ∧ lenT n l ≤ 1024 := by
  have h3 := szT_le_n h l
  show 1 ≤ (szT n l - 1) / 64 + 1 ∧ (szT n l - 1) / 64 + 1 ≤ 1024
  omega
theorem wdT_congr {n : Nat} {b c : Nat → Bool} {k : Nat} (h : ∀ i, 64 * k ≤ i → i < 64 * k + 64 → i < n → b i = c i) : wdT n b k = wdT n c k := by
  unfold wdT
  refine wB_congr fun j hj => ?_
  by_cases h1 : n ≤ 64 * k + j
  · rw [decide_eq_true h1]; simp
  · rw [decide_eq_false h1, h _ (by omega) (by omega) (by omega)]
theorem btT_congr {n : Nat} {b c : Nat → Bool} (h : ∀ i, i < n → b i = c i) : ∀ l i, i < szT n l → btT n b l i = btT n c l i
  | 0, i, hi => h i hi
  | l + 1, i, hi => by
    show decide (wdT (szT n l) (btT n b l) i = FW) = decide (wdT (szT n l) (btT n c l) i = FW)
    rw [wdT_congr fun j _ _ hj => btT_congr h l j hj]
theorem lvT_congr {n : Nat} {b c : Nat → Bool} (h : ∀ i, i < n → b i = c i) : lvT n b = lvT n c :=
  tabV_congr fun l _ k _ => wdT_congr fun j _ _ hj => btT_congr h l j hj
theorem lvT_w (n : Nat) (b : Nat → Bool) : IsW (lvT n b) := tabV_w fun l k => fT_lt n b l k
theorem lvT_len (n : Nat) (b : Nat → Bool) : (lvT n b).length = hT n := tabV_len _ _ _

/-- One bit of a word. -/
theorem sumW_wd {n k i : Nat} {b c : Nat → Bool} (hk : k = i / 64) (hi : i < n) (h : ∀ x, x ≠ i → c x = b x) : sumW (wdT n b k) (i % 64) (c i) = wdT n c k := by
  subst hk
  unfold sumW wdT
  refine wB_congr fun j hj => ?_
  rw [wB_bit, decide_eq_true hj, Bool.true_and]
  by_cases h1 : j = i % 64
  · rw [if_pos h1, show 64 * (i / 64) + j = i by omega, decide_eq_false (by omega)]; rfl
  · rw [if_neg h1, h _ (by omega)]
/-- Half of the levels of the new bits, half of the old. -/
def mixT (n : Nat) (b c : Nat → Bool) (k : Nat) : LV := tabV (hT n) (lenT n) fun l i => if l < k then fT n c l i else fT n b l i
theorem sums_mix {n : Nat} (hn : 1 ≤ n) {b c : Nat → Bool} {k lo hi : Nat} (hk : 1 ≤ k) (hkh : k < hT n) (hlo : lo ≤ hi + 1) (hhi : hi < szT n k) (hsame : ∀ i, (i < lo ∨ hi < i) → fT n b (k - 1) i = fT n c (k - 1) i) : sumsF (mixT n b c k) k lo (hi + 1 - lo) = mixT n b c (k + 1) := by
  have step : ∀ d, lo + d ≤ hi + 1 → sumsF (mixT n b c k) k lo d = tabV (hT n) (lenT n) fun l i => if l < k then fT n c l i else if l = k then wdT (szT n k) (fun x => if lo ≤ x ∧ x < lo + d then btT n c k x else btT n b k x) i else fT n b l i := by
    intro d
    induction d with
    | zero =>
      intro _
      show mixT n b c k = _
      unfold mixT
      refine tabV_congr fun l _ i _ => ?_
      by_cases h1 : l < k
      · rw [if_pos h1, if_pos h1]
      · rw [if_neg h1, if_neg h1]
        by_cases h2 : l = k
        · subst h2
          rw [if_pos rfl]
          refine wdT_congr fun x _ _ _ => ?_
          rw [if_neg (by omega)]
        · rw [if_neg h2]
    | succ d ih =>
      intro hd
      have ih := ih (by omega)
      show sum1 (sumsF (mixT n b c k) k lo d) k (lo + d) = _
      rw [ih]
      unfold sum1
      have hik : lo + d < szT n k := by omega
      have hq : (lo + d) / 64 < lenT n k := by
        show (lo + d) / 64 < (szT n k - 1) / 64 + 1
        omega
      have hk1 : lo + d < lenT n (k - 1) := by
        show lo + d < szT n (k - 1 + 1)
        rw [show k - 1 + 1 = k by omega]; exact hik
      rw [tabV_at (by omega) hk1, tabV_at hkh hq, tabV_put hkh hq]
      rw [if_neg (show ¬ k < k by omega), if_pos (show k = k from rfl), if_pos (show k - 1 < k by omega)]
      refine tabV_congr fun l _ i _ => ?_
      by_cases h1 : l < k
      · rw [if_pos h1, if_neg (by omega), if_pos h1]
      · rw [if_neg h1, if_neg h1]
        by_cases h2 : l = k
        · subst h2
          rw [if_pos rfl, if_pos rfl]
          by_cases h3 : i = (lo + d) / 64
          · rw [if_pos ⟨rfl, h3⟩, h3]
            have hbt : decide (fT n c (l - 1) (lo + d) = FW) = btT n c l (lo + d) := by
              obtain ⟨m, rfl⟩ : ∃ m, l = m + 1 := ⟨l - 1, by omega⟩
              rfl
            rw [hbt]
            have := sumW_wd (n := szT n l) (k := (lo + d) / 64) (i := lo + d) (b := fun x => if lo ≤ x ∧ x < lo + d then btT n c l x else btT n b l x) (c := fun x => if lo ≤ x ∧ x < lo + (d + 1) then btT n c l x else btT n b l x) rfl hik (fun x hx => by
              by_cases h4 : lo ≤ x ∧ x < lo + d
              · rw [if_pos h4, if_pos (by omega)]
              · rw [if_neg h4, if_neg (by omega)])
            rw [if_pos (by omega)] at this
            exact this
          · rw [if_neg (by omega)]
            refine wdT_congr fun x hx1 hx2 _ => ?_
            have : x ≠ lo + d := fun e => h3 (by omega)
            by_cases h4 : lo ≤ x ∧ x < lo + d
            · rw [if_pos h4, if_pos (by omega)]
            · rw [if_neg h4, if_neg (by omega)]
        · rw [if_neg h2, if_neg h2, if_neg (by omega)]
  rw [step _ (by omega)]
  unfold mixT
  refine tabV_congr fun l _ i _ => ?_
  by_cases h1 : l < k
  · rw [if_pos h1, if_pos (by omega)]
  · rw [if_neg h1]
    by_cases h2 : l = k
    · subst h2
      rw [if_pos rfl, if_pos (by omega)]
      refine wdT_congr fun x _ _ _ => ?_
      by_cases h4 : lo ≤ x ∧ x < lo + (hi + 1 - lo)
      · rw [if_pos h4]
      · rw [if_neg h4]
        obtain ⟨m, rfl⟩ : ∃ m, l = m + 1 := ⟨l - 1, by omega⟩
        have := hsame x (by omega)
        show decide (wdT (szT n m) (btT n b m) x = FW) = decide (wdT (szT n m) (btT n c m) x = FW)
        have this : wdT (szT n m) (btT n b m) x = wdT (szT n m) (btT n c m) x := this
        rw [this]
    · rw [if_neg h2, if_neg (by omega)]
/-- Words that are the same lie in words above that are. -/
theorem fT_same {n : Nat} {b c : Nat → Bool} {k lo hi : Nat} (h : ∀ i, (i < lo ∨ hi < i) → fT n b k i = fT n c k i) : ∀ i, (i < lo / 64 ∨ hi / 64 < i) → fT n b (k + 1) i = fT n c (k + 1) i := by
  intro i hi'
  refine wdT_congr fun x hx1 hx2 _ => ?_
  have := h x (by omega)
  show decide (wdT (szT n k) (btT n b k) x = FW) = decide (wdT (szT n k) (btT n c k) x = FW)
  have this : wdT (szT n k) (btT n b k) x = wdT (szT n k) (btT n c k) x := this
  rw [this]
theorem mix_all {n : Nat} (b c : Nat → Bool) : mixT n b c (hT n) = lvT n c := tabV_congr fun l hl i _ => by rw [if_pos hl]
theorem mix_none {n : Nat} (b c : Nat → Bool) : mixT n b c 0 = lvT n b := tabV_congr fun l hl i _ => by rw [if_neg (by omega)]
theorem mixT_all_row {n : Nat} (hn : 1 ≤ n) (hn2 : n ≤ 65536) (b : Nat → Bool) : ∀ r ∈ lvT n b, r.length ≤ 100000 := tabV_row fun l _ => by have := lenT_le hn hn2 l; omega
end Go.Ev.W
namespace Go.Ev.W
open Go.Ev Go.Ev.N

theorem clone_words (es : List AV) (hl : es.length ≤ 1000000) : Told P T slices_Clone_uint64_uint64_b [] [.lst t_uint64 es] (.ref 0) [.row t_uint64 es] := by
  refine told_of_ev (fn := slices_Clone_uint64_uint64_b_fn) tabOk mixed (by kernel_rfl) (by kernel_rfl) (by kernel_rfl) (by kernel_rfl) ?_
  refine AnyB.mk (fun b hb => ?_)
  refine IfB.mk (fun h1 => ?_) (fun h1 => ?_)
  · obtain rfl := hb h1
    exact RetN.mk ⟨[1], rfl, rfl, rfl⟩
  · refine Room.mk (by first | omega | (simp; omega) | (simp; done)) ?_
    exact RetN.mk ⟨[2], rfl, rfl, rfl⟩
theorem clone_rows (es : List AV) (hl : es.length ≤ 1000000) : Told P T slices_Clone_uint64_uint64 [] [.lst ts_uint64 es] (.ref 0) [.row ts_uint64 es] := by
  refine told_of_ev (fn := slices_Clone_uint64_uint64_fn) tabOk mixed (by kernel_rfl) (by kernel_rfl) (by kernel_rfl) (by kernel_rfl) ?_
  refine AnyB.mk (fun b hb => ?_)
  refine IfB.mk (fun h1 => ?_) (fun h1 => ?_)
  · obtain rfl := hb h1
    exact RetN.mk ⟨[1], rfl, rfl, rfl⟩
  · refine Room.mk (by first | omega | (simp; omega) | (simp; done)) ?_
    exact RetN.mk ⟨[2], rfl, rfl, rfl⟩
/-- Rows of which the first so many are its own. -/
def ownG (v : LV) (k : Nat) : List (Bool × List AV) := ((v.take k).map fun r => (true, r.map u64)) ++ ((v.drop k).map fun r => (false, r.map u64))
theorem ownG_len (v : LV) (k : Nat) : (ownG v k).length = v.length := by simp [ownG]; omega
theorem ownG_at {v : LV} {k : Nat} (h : k < v.length) : (ownG v k)[k]? = some (false, v[k].map u64) := by
  unfold ownG
  rw [List.getElem?_append_right (by simp; omega)]
  simp [Nat.min_eq_left (Nat.le_of_lt h), h]
theorem ownG_set {v : LV} {k : Nat} (h : k < v.length) : (ownG v k).set k (true, v[k].map u64) = ownG v (k + 1) := by
  have hl : ((v.take k).map fun r => (true, r.map u64)).length = k := by simp; omega
  unfold ownG
  rw [List.set_append_right _ _ (by rw [hl]; exact Nat.le_refl _), hl, Nat.sub_self, List.drop_eq_getElem_cons h, List.map_cons, List.set_cons_zero, List.take_succ_eq_append_getElem h, List.map_append, List.append_assoc]
  rfl
theorem cloneG_told (v : LV) (hl : v.length ≤ 1000) : Told P T slices_Clone_uint64_uint64 [] [lV v] (.ref 0) [.grid ts_uint64 t_uint64 (ownG v 0)] := by
  have t := clone_rows (v.map lR) (by simp; omega)
  have t := t.grid 0 (e := ts_uint64) (e' := t_uint64) (fs := v.map fun r => r.map u64) (by
    show some (Blk.row ts_uint64 (v.map lR)) = _
    rw [List.map_map]; rfl) rfl (by decide)
  rw [show (v.map fun r => r.map u64).map (fun x => (false, x)) = ownG v 0 by unfold ownG; rw [List.map_map]; simp] at t
  exact t
set_option maxHeartbeats 2000000 in
theorem treeTwin_told {s : Int} {v : LV} (hv : v.length ≤ 1000) (hr : ∀ r ∈ v, r.length ≤ 100000) : Told P T tree_twin [] [eT s v] (.agg [i64 s, .ref 0]) [gV v] := by
  have c1 := cloneG_told v hv
  have hg0 := ownG_len v
  refine told_of_ev (fn := tree_twin_fn) tabOk mixed (by kernel_rfl) (by kernel_rfl) (by kernel_rfl) (by kernel_rfl) ?_
  (refine gw ?_; refine Choice.mk ⟨false, Choice.mk ⟨false, _, _, c1, ?_⟩⟩)
  (refine gw ?_; refine LoopN.mk ⟨[1,2,10,11,12], fun vs L => ∃ k : Nat, vs = [.ptr 0 0 0, .ptr 1 0 0, .ref 2, i64 (ownG v 0).length, i64 k] ∧ L = [.var (.agg [i64 s, .ref 2]), .var (.agg [i64 0, .und]), .grid ts_uint64 t_uint64 (ownG v k)] ∧ k ≤ v.length, fun vs L => match vs with | [_, _, _, _, .int _ i] => v.length - i.toNat | _ => 0, [], [0,1,3], rfl, ⟨0, rfl, rfl, by omega⟩, ?_⟩)
  rintro vs L ⟨k, rfl, rfl, hk⟩
  have hg := ownG_len v k
  have hg00 := hg0 0
  by_cases h1 : k < v.length
  · have hc2 := clone_words (v[k].map u64) (by have := hr _ (List.getElem_mem h1); simp; omega)
    have hat := ownG_at h1
    have hset := ownG_set h1
    (refine gw ?_; refine IfB.tt (by rw [hg00]; simp; omega) ?_)
    (refine gw ?_)
    refine ⟨_, _, hat, ?_⟩
    (refine gw ?_; refine Choice.mk ⟨false, Choice.mk ⟨false, _, _, hc2, ?_⟩⟩)
    (refine gw ?_)
    refine ⟨_, _, hat, ?_⟩
    (refine gw ?_; refine ⟨[], [0,1,2], rfl, ⟨k + 1, rfl, by rw [← hset]; rfl, h1⟩, (by omega : v.length - ((k : Int) + 1).toNat < v.length - (k : Int).toNat)⟩)
  · have e : k = v.length := by omega
    subst e
    have hend : ownG v v.length = v.map fun r => (true, r.map u64) := by unfold ownG; rw [List.take_length, List.drop_length]; simp
    rw [hend]
    (refine gw ?_; refine IfB.ff (by rw [hg00]; simp) ?_)
    (refine gw ?_)
    exact RetN.mk ⟨[2], rfl, rfl, rfl⟩
end Go.Ev.W
namespace Go.Ev.W
open Go.Ev Go.Ev.N

/-- Some bits set, or not. -/
def setB (b : Nat → Bool) (f m : Nat) (on : Bool) : Nat → Bool := fun x => if f ≤ x ∧ x < f + m then on else b x
/-- The same, as far as so many words. -/
def midB (b : Nat → Bool) (f last w : Nat) (on : Bool) : Nat → Bool := fun x => if f ≤ x ∧ x ≤ last ∧ x < 64 * w then on else b x
theorem mask_wd {n f last k : Nat} {b : Nat → Bool} {on : Bool} (h1 : f ≤ last) (h2 : last < n) (hk : f / 64 ≤ k) (hk2 : k ≤ last / 64) :
    ∃ y : Nat, bitsOp .andNot .u64 ((wdT n (midB b f last k on) k : Nat) : Int) ((maskF ((f - 64 * k : Nat) : Int) ((min (last - 64 * k) 63 - (f - 64 * k) + 1 : Nat) : Int) : Nat) : Int) = (y : Int) ∧
      (on = true → bitsOp .or .u64 (y : Int) ((maskF ((f - 64 * k : Nat) : Int) ((min (last - 64 * k) 63 - (f - 64 * k) + 1 : Nat) : Int) : Nat) : Int) = ((wdT n (midB b f last (k + 1) on) k : Nat) : Int)) ∧ (on = false → y = wdT n (midB b f last (k + 1) on) k) := by
  have hm := maskF_lt ((f - 64 * k : Nat) : Int) ((min (last - 64 * k) 63 - (f - 64 * k) + 1 : Nat) : Int)
  have hb : ∀ j, j < 64 → (maskF ((f - 64 * k : Nat) : Int) ((min (last - 64 * k) 63 - (f - 64 * k) + 1 : Nat) : Int)).testBit j = decide (f ≤ 64 * k + j ∧ 64 * k + j ≤ last) := fun j hj => by
    rw [maskF_bit hj (by omega), ← Bool.decide_and]
    refine decide_eq_decide.2 ?_
    omega
  generalize maskF ((f - 64 * k : Nat) : Int) ((min (last - 64 * k) 63 - (f - 64 * k) + 1 : Nat) : Int) = M at *
  have hw := wdT_lt n (midB b f last k on) k
  have hy := wB_lt 64 fun j => (wdT n (midB b f last k on) k).testBit j && !M.testBit j
  have hwb : ∀ j, j < 64 → (wdT n (midB b f last k on) k).testBit j = (decide (n ≤ 64 * k + j) || b (64 * k + j)) := fun j hj => by
    unfold wdT
    rw [wB_bit, decide_eq_true hj, Bool.true_and]
    congr 1
    unfold midB
    rw [if_neg (by omega)]
  refine ⟨_, andn64 hw hm, fun ho => ?_, fun ho => ?_⟩
  · subst ho
    rw [or64 hy hm]
    refine congrArg Int.ofNat ?_
    apply Nat.eq_of_testBit_eq
    intro j
    rw [Nat.testBit_or, wB_bit]
    by_cases hj : j < 64
    · rw [decide_eq_true hj, Bool.true_and, hwb j hj, hb j hj]
      unfold wdT
      rw [wB_bit, decide_eq_true hj, Bool.true_and]
      unfold midB
      by_cases h3 : f ≤ 64 * k + j ∧ 64 * k + j ≤ last
      · rw [decide_eq_true h3, if_pos (by omega)]; simp
      · rw [decide_eq_false h3, if_neg (by omega)]; simp
    · have hz := Nat.testBit_lt_two_pow (Nat.lt_of_lt_of_le (wdT_lt n (midB b f last (k + 1) true) k) (Nat.pow_le_pow_right (n := 2) (by omega) (show 64 ≤ j by omega)))
      rw [decide_eq_false hj, Nat.testBit_lt_two_pow (Nat.lt_of_lt_of_le hm (Nat.pow_le_pow_right (by omega) (by omega))), hz]; rfl
  · subst ho
    unfold wdT
    refine wB_congr fun j hj => ?_
    have := hwb j hj
    unfold wdT at this
    rw [this, hb j hj]
    unfold midB
    by_cases h3 : f ≤ 64 * k + j ∧ 64 * k + j ≤ last
    · rw [decide_eq_true h3, if_pos (by omega), decide_eq_false (show ¬ n ≤ 64 * k + j by omega)]; simp
    · rw [decide_eq_false h3, if_neg (by omega)]; simp
/-- The tree while its first level is written. -/
def zerT (n : Nat) (b c : Nat → Bool) : LV := tabV (hT n) (lenT n) fun l i => if l = 0 then wdT n c i else fT n b l i
theorem zerT_put {n : Nat} (hn : 1 ≤ n) {b : Nat → Bool} {f last k : Nat} {on : Bool} (hk2 : k ≤ last / 64) (h2 : last < n) : putF (zerT n b (midB b f last k on)) 0 k (wdT n (midB b f last (k + 1) on) k) = zerT n b (midB b f last (k + 1) on) := by
  have hk : k < lenT n 0 := by show k < (n - 1) / 64 + 1; omega
  unfold zerT
  rw [tabV_put (by have := hT_le n; omega) hk]
  refine tabV_congr fun l _ i _ => ?_
  by_cases hl : l = 0
  · subst hl
    rw [if_pos rfl, if_pos rfl]
    by_cases hi : i = k
    · subst hi; rw [if_pos ⟨rfl, rfl⟩]
    · rw [if_neg (by omega)]
      refine wdT_congr fun x _ _ _ => ?_
      unfold midB
      by_cases h3 : f ≤ x ∧ x ≤ last ∧ x < 64 * k
      · rw [if_pos h3, if_pos (by omega)]
      · rw [if_neg h3, if_neg (by omega)]
  · rw [if_neg hl, if_neg (by omega), if_neg hl]
theorem zerT_start {n : Nat} {b : Nat → Bool} {f last : Nat} {on : Bool} : lvT n b = zerT n b (midB b f last (f / 64) on) := by
  refine tabV_congr fun l _ i _ => ?_
  by_cases hl : l = 0
  · subst hl
    rw [if_pos rfl]
    refine wdT_congr fun x _ _ _ => ?_
    unfold midB
    rw [if_neg (by omega)]; rfl
  · rw [if_neg hl]
theorem zerT_end {n : Nat} {b : Nat → Bool} {f m last : Nat} {on : Bool} (hl : last + 1 = f + m ∨ (last + 1 = n ∧ n ≤ f + m)) : zerT n b (midB b f last (last / 64 + 1) on) = mixT n b (setB b f m on) 1 := by
  refine tabV_congr fun l _ i _ => ?_
  by_cases hl0 : l = 0
  · subst hl0
    rw [if_pos rfl, if_pos (by omega)]
    refine wdT_congr fun x _ _ hx => ?_
    show _ = setB b f m on x
    unfold midB setB
    have hx : x < n := hx
    by_cases h3 : f ≤ x ∧ x < f + m
    · rw [if_pos h3, if_pos (by omega)]
    · rw [if_neg h3, if_neg (by omega)]
  · rw [if_neg hl0, if_neg (by omega)]
theorem set_same {n : Nat} {b : Nat → Bool} {f m last : Nat} {on : Bool} (h1 : 1 ≤ m) (hl : last + 1 = f + m ∨ (last + 1 = n ∧ n ≤ f + m)) : ∀ i, (i < f / 64 ∨ last / 64 < i) → fT n b 0 i = fT n (setB b f m on) 0 i := by
  intro i hi
  refine wdT_congr fun x _ _ hx => ?_
  show b x = setB b f m on x
  have hx : x < n := hx
  unfold setB
  rw [if_neg (by omega)]
theorem div_lv {last n : Nat} (h : last < n) (l : Nat) : last / 64 ^ (l + 1) < szT n (l + 1) := by
  have key : ∀ l, last / 64 ^ l < szT n l := by
    intro l
    induction l with
    | zero => simpa [szT] using h
    | succ l ih =>
      show last / 64 ^ (l + 1) < (szT n l - 1) / 64 + 1
      rw [Nat.pow_succ, ← Nat.div_div_eq_div_mul]
      generalize last / 64 ^ l = q at *
      omega
  exact key (l + 1)
end Go.Ev.W
namespace Go.Ev.W
open Go.Ev Go.Ev.N

def setZ (b : Nat → Bool) (f m : Int) (on : Bool) : Nat → Bool := fun x => if 0 ≤ f ∧ f ≤ x ∧ (x : Int) < f + m then on else b x
theorem tabV_gn {H l : Nat} {len : Nat → Nat} {f : Nat → Nat → Nat} (h : l < H) {Q : Bool → List AV → Prop} (q : Q true (((List.range (len l)).map (f l)).map u64)) : GNode ((tabV H len f).map fun r => (true, r.map u64)) l Q := by
  have hl : l < (tabV H len f).length := by rw [tabV_len]; exact h
  refine gnode hl ?_
  rw [tabV_get]; exact q
theorem set_eq (b : Nat → Bool) {a mm : Nat} {m : Int} {on : Bool} (h : m = mm) (x : Nat) : setB b a mm on x = setZ b a m on x := by
  subst h
  unfold setB setZ
  by_cases hq : a ≤ x ∧ x < a + mm
  · rw [if_pos hq, if_pos (by omega)]
  · rw [if_neg hq, if_neg (by omega)]
theorem mix_len (n : Nat) (b c : Nat → Bool) (k : Nat) : (mixT n b c k).length = hT n := tabV_len _ _ _
theorem mix_row {n : Nat} (hn : 1 ≤ n) (hn2 : n ≤ 65536) (b c : Nat → Bool) (k : Nat) : ∀ r ∈ mixT n b c k, r.length ≤ 100000 := tabV_row fun l _ => by have := lenT_le hn hn2 l; omega
theorem mix_w (n : Nat) (b c : Nat → Bool) (k : Nat) : IsW (mixT n b c k) := tabV_w fun l k' => by split <;> exact fT_lt _ _ _ _
theorem pow_div64 (a c : Nat) : ((a / 64 ^ (c + 1) : Nat) : Int).tdiv 64 = ((a / 64 ^ (c + 2) : Nat) : Int) := by
  rw [Nat.pow_succ 64 (c + 1), ← Nat.div_div_eq_div_mul]
  exact (Int.ofNat_tdiv _ 64).symm
set_option maxHeartbeats 4000000 in
theorem treeSet_told {n : Nat} (hn : 1 ≤ n) (hn2 : n ≤ 65536) (b : Nat → Bool) (f m : Int) (hf : -9223372036854775808 ≤ f ∧ f ≤ 9223372036854775807) (on : Bool) : Told P T tree_Set [] [eTr n b, i64 f, i64 m, .bool on] (eTr n (setZ b f m on)) [] := by
  have hh := hT_le n
  have hlen := lvT_len n b
  have hrow : ∀ r ∈ lvT n b, r.length ≤ 100000 := tabV_row fun l _ => by have := lenT_le hn hn2 l; omega
  have c1 := treeTwin_told (s := n) (v := lvT n b) (by omega) hrow
  have c1 : Told P T tree_twin [] [eTr n b] _ _ := c1
  have hgl : ((lvT n b).map fun r => (true, r.map u64)).length = hT n := by simp [hlen]
  have same : (f < 0 ∨ m < 1 ∨ f ≥ n) → eTr n (setZ b f m on) = eTg n (lvT n b) := fun h => by
    unfold eTr
    rw [eTg_eq, lvT_congr (b := setZ b f m on) (c := b) fun x hx => by unfold setZ; rw [if_neg (by omega)]]
  refine told_of_ev (fn := tree_Set_fn) tabOk mixed (by kernel_rfl) (by kernel_rfl) (by kernel_rfl) (by kernel_rfl) ?_
  (refine gw ?_; refine Choice.mk ⟨false, Choice.mk ⟨false, _, _, c1, ?_⟩⟩)
  by_cases h1 : f < 0
  · rw [same (.inl h1)]
    (refine gw ?_; refine IfB.tt (by simpa using h1) ?_)
    (refine gw ?_; exact RetN.fz ⟨[true], [], rfl, rfl, rfl⟩)
  · (refine gw ?_; refine IfB.ff (by simpa using h1) ?_)
    by_cases h2 : m < 1
    · rw [same (.inr (.inl h2))]
      (refine gw ?_; refine IfB.tt (by simpa using h2) ?_)
      (refine gw ?_; exact RetN.fz ⟨[true], [], rfl, rfl, rfl⟩)
    · (refine gw ?_; refine IfB.ff (by simpa using h2) ?_)
      by_cases h3 : f ≥ n
      · rw [same (.inr (.inr h3))]
        (refine gw ?_; refine IfB.tt (by simpa using h3) ?_)
        (refine gw ?_; exact RetN.fz ⟨[true], [], rfl, rfl, rfl⟩)
      · obtain ⟨a, rfl⟩ : ∃ a : Nat, f = a := ⟨f.toNat, by omega⟩
        obtain ⟨last, hlast⟩ : ∃ last : Nat, ((a : Nat) : Int) + (if (n : Int) - a < m then (n : Int) - a else m) - 1 = last := ⟨((a : Nat) + (if (n : Int) - a < m then (n : Int) - a else m) - 1).toNat, by split <;> omega⟩
        have hlt : a ≤ last ∧ last < n := by split at hlast <;> omega
        have hld : ((last : Nat) : Int).tdiv 64 = ((last / 64 : Nat) : Int) := (Int.ofNat_tdiv last 64).symm
        have had : ((a : Nat) : Int).tdiv 64 = ((a / 64 : Nat) : Int) := (Int.ofNat_tdiv a 64).symm
        (refine gw ?_; refine IfB.ff (by simpa using h3) ?_)
        (refine gw ?_; refine IfB.ff (by rw [hgl]; simp; omega) ?_)
        (refine gw ?_)
        rw [hlast, had]
        (refine gw ?_; refine LoopN.mk ⟨[1,3,4,8,9,10], fun vs L => ∃ k : Nat, vs = [i64 a, .bool on, .ptr 0 0 0, .ptr 1 0 0, i64 last, i64 k] ∧ L = [.var (.agg [i64 n, .ref 2]), .var (.agg [i64 0, .und]), gV (zerT n b (midB b a last k on))] ∧ a / 64 ≤ k ∧ k ≤ last / 64 + 1, fun vs L => match vs with | [_, _, _, _, _, .int _ i] => last / 64 + 1 - i.toNat | _ => 0, [], [0,1,3], rfl, ⟨a / 64, rfl, by rw [← zerT_start]; rfl, by omega, by omega⟩, ?_⟩)
        rintro vs L ⟨k, rfl, rfl, hk1, hk2⟩
        have hl0 : (((List.range (lenT n 0)).map fun i => if (0 : Nat) = 0 then wdT n (midB b a last k on) i else fT n b 0 i).map u64).length = lenT n 0 := by simp
        have hln : lenT n 0 = (n - 1) / 64 + 1 := rfl
        have hmin : (if ((lenT n 0 : Nat) : Int) - 1 < ((last / 64 : Nat) : Int) then ((lenT n 0 : Nat) : Int) - 1 else ((last / 64 : Nat) : Int)) = ((last / 64 : Nat) : Int) := by rw [if_neg (by omega)]
        have hzl : ((zerT n b (midB b a last k on)).map fun r => (true, r.map u64)).length = hT n := by simp [zerT, tabV_len]
        (refine gw ?_)
        refine tabV_gn (l := 0) (by omega) ?_
        (refine gw ?_)
        refine tabV_gn (l := 0) (by omega) ?_
        (refine gw ?_)
        rw [hl0, hld]
        (refine gw ?_)
        rw [hmin]
        by_cases hkl : k ≤ last / 64
        · have hzr : ∀ r ∈ zerT n b (midB b a last k on), r.length ≤ 100000 := tabV_row fun l _ => by have := lenT_le hn hn2 l; omega
          have hzn : (zerT n b (midB b a last k on)).length ≤ 1000 := by simp [zerT, tabV_len]; omega
          have hat : atF (zerT n b (midB b a last k on)) 0 (k : Nat) = wdT n (midB b a last k on) k := by
            unfold zerT
            rw [tabV_at (by omega) (by rw [hln]; omega), if_pos rfl]
          have c2 := treeAt_told (s := n) hzn hzr 0 (k : Nat)
          rw [hat, ← eTg_eq] at c2
          have c3 := fun u => treePut_told (s := n) hzn hzr 0 (k : Nat) u
          have hput := zerT_put hn (b := b) (f := a) (on := on) hkl hlt.2
          obtain ⟨y, hy1, hy2, hy3⟩ := mask_wd (b := b) (on := on) hlt.1 hlt.2 hk1 hkl
          have hfst : (if (a : Int) - (k : Int) * 64 < 0 then (0 : Int) else (a : Int) - (k : Int) * 64) = ((a - 64 * k : Nat) : Int) := by split <;> omega
          have hmn : (if (63 : Int) < (last : Int) - (k : Int) * 64 then (63 : Int) else (last : Int) - (k : Int) * 64) - ((a - 64 * k : Nat) : Int) + 1 = ((min (last - 64 * k) 63 - (a - 64 * k) + 1 : Nat) : Int) := by split <;> omega
          have c4 : Told P T word_Mask [] _ _ _ := mask_told ((a - 64 * k : Nat) : Int) ((min (last - 64 * k) 63 - (a - 64 * k) + 1 : Nat) : Int) (by omega) (by omega)
          generalize maskF ((a - 64 * k : Nat) : Int) ((min (last - 64 * k) 63 - (a - 64 * k) + 1 : Nat) : Int) = M at hy1 hy2 c4
          generalize wdT n (midB b a last k on) k = w0 at hy1 hy2 hy3 c2 hat
          generalize wdT n (midB b a last (k + 1) on) k = w1 at hy2 hy3 hput
          (refine gw ?_; refine IfB.tt (by simp; omega) ?_)
          (refine gw ?_)
          rw [hfst]
          (refine gw ?_)
          rw [hmn]
          (refine gw ?_; refine Choice.mk ⟨false, Choice.mk ⟨true, _, _, c4, ?_⟩⟩)
          (refine gw ?_; refine Choice.mk ⟨false, Choice.mk ⟨true, _, _, c2, ?_⟩⟩)
          (refine gw ?_)
          rw [hy1]
          by_cases ho : on = true
          · (refine gw ?_; refine IfB.tt (by simpa using ho) ?_)
            (refine gw ?_)
            rw [hy2 ho]
            (refine gw ?_; refine Choice.mk ⟨true, Choice.mk ⟨false, _, _, c3 _, ?_⟩⟩)
            (refine gw ?_; refine ⟨[], [0,1,2], rfl, ⟨k + 1, rfl, by rw [← hput]; rfl, by omega, by omega⟩, (by omega : last / 64 + 1 - ((k : Int) + 1).toNat < last / 64 + 1 - (k : Int).toNat)⟩)
          · (refine gw ?_; refine IfB.ff (by simpa using ho) ?_)
            rw [hy3 (by simpa using ho)]
            (refine gw ?_; refine Choice.mk ⟨true, Choice.mk ⟨false, _, _, c3 _, ?_⟩⟩)
            (refine gw ?_; refine ⟨[], [0,1,2], rfl, ⟨k + 1, rfl, by rw [← hput]; rfl, by omega, by omega⟩, (by omega : last / 64 + 1 - ((k : Int) + 1).toNat < last / 64 + 1 - (k : Int).toNat)⟩)
        · (refine gw ?_; refine IfB.ff (by simp; omega) ?_)
          (refine gw ?_)
          refine tabV_gn (l := 0) (by omega) ?_
          (refine gw ?_)
          refine tabV_gn (l := 0) (by omega) ?_
          (refine gw ?_)
          rw [hl0, had, hld]
          (refine gw ?_)
          rw [hmin]
          have hke : k = last / 64 + 1 := by omega
          obtain ⟨mm, hme⟩ : ∃ mm : Nat, m = mm := ⟨m.toNat, by omega⟩
          have hlm : last + 1 = a + mm ∨ (last + 1 = n ∧ n ≤ a + mm) := by split at hlast <;> omega
          have hend : eTg n (lvT n (setB b a mm on)) = eTr n (setZ b a m on) := by
            unfold eTr
            rw [eTg_eq, lvT_congr (b := setB b a mm on) (c := setZ b a m on) fun x hx => set_eq b hme x]
          rw [hke, zerT_end hlm]
          (refine gw ?_; refine LoopN.mk ⟨[4,8,14,15,16], fun vs L => ∃ c : Nat, vs = [.ptr 0 0 0, .ptr 1 0 0, i64 (a / 64 ^ (c + 1) : Nat), i64 (last / 64 ^ (c + 1) : Nat), i64 (c + 1 : Nat)] ∧ L = [.var (.agg [i64 n, .ref 2]), .var (.agg [i64 0, .und]), gV (mixT n b (setB b a mm on) (c + 1))] ∧ c + 1 ≤ hT n ∧ (∀ i, (i < a / 64 ^ (c + 1) ∨ last / 64 ^ (c + 1) < i) → fT n b c i = fT n (setB b a mm on) c i), fun vs L => match vs with | [_, _, _, _, .int _ i] => hT n - i.toNat | _ => 0, [], [0,1,2], rfl, ⟨0, by rw [Nat.pow_one]; rfl, rfl, by omega, by rw [Nat.pow_one]; exact set_same (by omega) hlm⟩, ?_⟩)
          rintro vs L ⟨c, rfl, rfl, hc, hsame⟩
          have hml : ((mixT n b (setB b a mm on) (c + 1)).map fun r => (true, r.map u64)).length = hT n := by rw [List.length_map]; exact mix_len _ _ _ _
          have hda := pow_div64 a c
          have hdl := pow_div64 last c
          have hle : a / 64 ^ (c + 1) ≤ last / 64 ^ (c + 1) := Nat.div_le_div_right hlt.1
          have hsm : last / 64 ^ (c + 1) < szT n (c + 1) := div_lv hlt.2 c
          have hsz := szT_le_n hn (c + 1)
          have hd1 : a / 64 ^ (c + 1 + 1) ≤ a := Nat.div_le_self _ _
          have hd2 : last / 64 ^ (c + 1 + 1) ≤ last := Nat.div_le_self _ _
          have hd3 : a / 64 ^ (c + 1 + 1) ≤ last / 64 ^ (c + 1 + 1) := Nat.div_le_div_right hlt.1
          have hd4 : a / 64 ^ (c + 1) ≤ a := Nat.div_le_self _ _
          have hd5 : last / 64 ^ (c + 1) ≤ last := Nat.div_le_self _ _
          by_cases hcc : c + 1 < hT n
          · have c5 := treeSums_told (s := n) (by rw [mix_len]; omega) (mix_row hn hn2 b (setB b a mm on) (c + 1)) (mix_w _ _ _ _) (c + 1) (a / 64 ^ (c + 1)) (last / 64 ^ (c + 1)) (by omega) (by omega) (by omega)
            rw [sums_mix hn (by omega) hcc (by omega) hsm hsame] at c5
            have hsame2 := fT_same hsame
            rw [Nat.div_div_eq_div_mul, Nat.div_div_eq_div_mul, ← Nat.pow_succ] at hsame2
            generalize setB b a mm on = cb at *
            generalize hA : a / 64 ^ (c + 1) = A at *
            generalize hB : a / 64 ^ (c + 1 + 1) = A' at *
            generalize hC : last / 64 ^ (c + 1) = B at *
            generalize hD : last / 64 ^ (c + 1 + 1) = B' at *
            (refine gw ?_; refine IfB.tt (by rw [hml]; simp; omega) ?_)
            (refine gw ?_; refine Choice.mk ⟨true, Choice.mk ⟨false, _, _, c5, ?_⟩⟩)
            (refine gw ?_)
            rw [hda]
            (refine gw ?_)
            rw [hdl]
            (refine gw ?_)
            (refine gw ?_; refine ⟨[], [0,1,2], rfl, ⟨c + 1, by rw [hB, hD]; rfl, rfl, by omega, by rw [hB, hD]; exact hsame2⟩, (by omega : hT n - ((c + 1 : Nat) + 1 : Int).toNat < hT n - ((c + 1 : Nat) : Int).toNat)⟩)
          · have e : c + 1 = hT n := by omega
            (refine gw ?_; refine IfB.ff (by rw [hml]; simp; omega) ?_)
            rw [e, mix_all, ← hend]
            (refine gw ?_; exact RetN.fz ⟨[true], [], rfl, rfl, rfl⟩)
end Go.Ev.W
namespace Go.Ev.W
open Go.Ev Go.Ev.N

def offB : Nat → Bool := fun _ => false
theorem off_full {m k : Nat} (h : 64 * k + 64 ≤ m) : wdT m offB k = 0 := by
  unfold wdT
  apply Nat.eq_of_testBit_eq
  intro j
  rw [wB_bit, Nat.zero_testBit]
  by_cases hj : j < 64
  · rw [decide_eq_false (show ¬ m ≤ 64 * k + j by omega)]; simp [offB]
  · rw [decide_eq_false hj]; rfl
theorem off_last {m k : Nat} (h : 64 * k < m) (h2 : m < 64 * k + 64) : wdT m offB k = maskF ((m % 64 : Nat) : Int) 64 := by
  have hm := maskF_lt ((m % 64 : Nat) : Int) 64
  unfold wdT
  apply Nat.eq_of_testBit_eq
  intro j
  rw [wB_bit]
  by_cases hj : j < 64
  · rw [maskF_bit hj (by omega), decide_eq_true hj, Bool.true_and, ← Bool.decide_and]
    show (decide (m ≤ 64 * k + j) || false) = _
    rw [Bool.or_false]
    refine decide_eq_decide.2 ?_
    omega
  · rw [decide_eq_false hj, Nat.testBit_lt_two_pow (Nat.lt_of_lt_of_le hm (Nat.pow_le_pow_right (by omega) (by omega)))]; rfl
def rowT (m : Nat) (b : Nat → Bool) : List Nat := (List.range ((m - 1) / 64 + 1)).map (wdT m b)
theorem rowT_len (m : Nat) (b : Nat → Bool) : (rowT m b).length = (m - 1) / 64 + 1 := by simp [rowT]
theorem rowT_get {m i : Nat} {b : Nat → Bool} (h : i < (rowT m b).length) : (rowT m b)[i] = wdT m b i := by simp [rowT]
theorem level_told {m : Nat} (h1 : 1 ≤ m) (h2 : m ≤ 65536) : Told P T tree_level [] [i64 m] (.ref 0) [.row t_uint64 ((rowT m offB).map u64)] := by
  have hd : ((m : Nat) : Int) - 1 = ((m - 1 : Nat) : Int) := by omega
  have hdd : ((m - 1 : Nat) : Int).tdiv 64 = (((m - 1) / 64 : Nat) : Int) := (Int.ofNat_tdiv (m - 1) 64).symm
  have hmd : ((m : Nat) : Int).tmod 64 = ((m % 64 : Nat) : Int) := by rw [Int.tmod_eq_emod_of_nonneg (by omega)]; omega
  refine told_of_ev (fn := tree_level_fn) tabOk mixed (by kernel_rfl) (by kernel_rfl) (by kernel_rfl) (by kernel_rfl) ?_
  (refine gw ?_)
  rw [hd, hdd]
  (refine gw ?_)
  rw [show (((m - 1) / 64 : Nat) : Int) + 1 = (((m - 1) / 64 + 1 : Nat) : Int) by omega, Int.toNat_natCast]
  refine Room.mk (by omega) ?_
  have hz : List.replicate ((m - 1) / 64 + 1) (zeroE T t_uint64) = ((List.replicate ((m - 1) / 64 + 1) 0).map u64) := by rw [List.map_replicate]; rfl
  rw [hz]
  have hzl : ((List.replicate ((m - 1) / 64 + 1) 0).map u64).length = (m - 1) / 64 + 1 := by simp
  (refine gw ?_)
  rw [hmd]
  by_cases h3 : 0 < m % 64
  · have c1 := mask_told ((m % 64 : Nat) : Int) 64 (by omega) (by omega)
    have c1 : Told P T word_Mask [] _ _ _ := c1
    have hs : (List.replicate ((m - 1) / 64 + 1) 0).set ((m - 1) / 64) (maskF ((m % 64 : Nat) : Int) 64) = rowT m offB := by
      apply List.ext_getElem (by simp [rowT_len])
      intro i h4 h5
      have hi : i < (m - 1) / 64 + 1 := by simpa using h4
      rw [rowT_get, List.getElem_set]
      split
      · rename_i he; subst he; rw [off_last (by omega) (by omega)]
      · rw [List.getElem_replicate, off_full (by omega)]
    rw [← hs]
    generalize maskF ((m % 64 : Nat) : Int) 64 = M at *
    (refine gw ?_; refine IfB.tt (by simp; omega) ?_)
    (refine gw ?_)
    rw [hzl]
    (refine gw ?_; refine Choice.mk ⟨false, Choice.mk ⟨false, _, _, c1, ?_⟩⟩)
    (refine gw ?_)
    have hs2 : ((List.replicate ((m - 1) / 64 + 1) 0).map u64).set ((((m - 1) / 64 + 1 : Nat) : Int) - 1).toNat (u64 M) = ((List.replicate ((m - 1) / 64 + 1) 0).set ((m - 1) / 64) M).map u64 := by
      rw [show ((((m - 1) / 64 + 1 : Nat) : Int) - 1).toNat = (m - 1) / 64 by omega, List.map_set]
    rw [← hs2]
    exact RetN.mk ⟨[1], rfl, rfl, rfl⟩
  · have hs : List.replicate ((m - 1) / 64 + 1) 0 = rowT m offB := by
      apply List.ext_getElem (by simp [rowT_len])
      intro i h4 h5
      have hi : i < (m - 1) / 64 + 1 := by simpa using h4
      rw [rowT_get, List.getElem_replicate, off_full (by omega)]
    rw [← hs]
    (refine gw ?_; refine IfB.ff (by simp; omega) ?_)
    (refine gw ?_; exact RetN.mk ⟨[1], rfl, rfl, rfl⟩)
end Go.Ev.W
namespace Go.Ev.W
open Go.Ev Go.Ev.N

/-- The first levels of a tree. -/
def upT (n : Nat) (b : Nat → Bool) (l : Nat) : LV := (lvT n b).take l
theorem off_bt {n : Nat} (hn : 1 ≤ n) : ∀ (l i : Nat), i < szT n l → btT n offB l i = false := by
  intro l
  induction l with
  | zero => intro i _; rfl
  | succ l ih =>
    intro i hi
    have hi : i < (szT n l - 1) / 64 + 1 := hi
    show decide (wdT (szT n l) (btT n offB l) i = FW) = false
    refine decide_eq_false fun h => ?_
    have hz := szT_pos hn l
    have := congrArg (fun u => Nat.testBit u 0) h
    unfold wdT at this
    simp only [wB_bit] at this
    rw [ih _ (by omega), decide_eq_false (show ¬ szT n l ≤ 64 * i + 0 by omega)] at this
    revert this; decide
theorem upT_len {n l : Nat} (b : Nat → Bool) (h : l ≤ hT n) : (upT n b l).length = l := by
  unfold upT
  rw [List.length_take, lvT_len]; omega
theorem upT_suc {n l : Nat} (hn : 1 ≤ n) (h : l < hT n) : upT n offB (l + 1) = upT n offB l ++ [rowT (szT n l) offB] := by
  have hl : l < (lvT n offB).length := by rw [lvT_len]; exact h
  unfold upT
  rw [List.take_succ_eq_append_getElem hl]
  congr 2
  rw [show (lvT n offB)[l] = (List.range (lenT n l)).map (fT n offB l) from tabV_get hl]
  refine List.map_congr_left fun i _ => wdT_congr fun x _ _ hx => off_bt hn l x hx
theorem newNo_told {m : Int} (h : m < 1 ∨ 65536 < m) : Told P T tree_New [] [i64 m] (.agg [i64 0, .lst ts_uint64 []]) [] := by
  refine told_of_ev (fn := tree_New_fn) tabOk mixed (by kernel_rfl) (by kernel_rfl) (by kernel_rfl) (by kernel_rfl) ?_
  by_cases h1 : m < 1
  · (refine gw ?_; refine IfB.tt (by simpa using h1) ?_)
    (refine gw ?_; exact RetN.fz ⟨[true], [], rfl, rfl, rfl⟩)
  · (refine gw ?_; refine IfB.ff (by simpa using h1) ?_)
    (refine gw ?_; refine IfB.tt (by simp; omega) ?_)
    (refine gw ?_; exact RetN.fz ⟨[true], [], rfl, rfl, rfl⟩)
set_option maxHeartbeats 2000000 in
theorem new_told {n : Nat} (hn : 1 ≤ n) (hn2 : n ≤ 65536) : Told P T tree_New [] [i64 n] (.agg [i64 n, .ref 0]) [gV (lvT n offB)] := by
  have hl1 := hT_last hn hn2
  refine told_of_ev (fn := tree_New_fn) tabOk mixed (by kernel_rfl) (by kernel_rfl) (by kernel_rfl) (by kernel_rfl) ?_
  (refine gw ?_; refine IfB.ff (by simp; omega) ?_)
  (refine gw ?_; refine IfB.ff (by simp; omega) ?_)
  (refine gw ?_; refine LoopN.mk ⟨[2,3], fun vs L => ∃ l : Nat, vs = [.ptr 0 0 0, i64 (szT n l)] ∧ ((l = 0 ∧ L = [.var (.agg [i64 n, .ref 1]), .row ts_uint64 []]) ∨ (1 ≤ l ∧ L = [.var (.agg [i64 n, .ref 1]), gV (upT n offB l)])) ∧ l < hT n, fun vs L => match vs with | [_, .int _ i] => i.toNat | _ => 0, [], [0,1], rfl, ⟨0, rfl, .inl ⟨rfl, rfl⟩, by have := hT_le n; omega⟩, ?_⟩)
  rintro vs L ⟨l, rfl, hL, hl⟩
  have c1 := level_told (m := szT n l) (szT_pos hn l) (by have := szT_le_n hn l; omega)
  have hus := upT_suc hn hl
  have hu2 : ((upT n offB l).map fun r => (true, r.map u64)) ++ [(true, (rowT (szT n l) offB).map u64)] = (upT n offB (l + 1)).map (fun r => (true, r.map u64)) := by rw [hus, List.map_append]; rfl
  have hul := upT_len offB (Nat.le_of_lt hl)
  have hend : szT n l ≤ 64 → l + 1 = hT n := fun h => by
    by_cases e : l + 1 < hT n
    · have := hl1.2 l e; omega
    · omega
  have hgo : ¬ szT n l ≤ 64 → l + 1 < hT n := fun h => by
    by_cases e : l + 1 = hT n
    · have := hl1.1; rw [← e] at this; exact absurd this h
    · omega
  have hall : upT n offB (hT n) = lvT n offB := by unfold upT; rw [← lvT_len n offB, List.take_length]
  have hszb := szT_le_n hn l
  have hszc := szT_le_n hn (l + 1)
  have hsz : ((szT n l : Nat) : Int) - 1 = ((szT n l - 1 : Nat) : Int) := by have := szT_pos hn l; omega
  have hsd : ((szT n l - 1 : Nat) : Int).tdiv 64 = (((szT n l - 1) / 64 : Nat) : Int) := (Int.ofNat_tdiv _ 64).symm
  have hsu : (((szT n l - 1) / 64 : Nat) : Int) + 1 = ((szT n (l + 1) : Nat) : Int) := rfl
  rcases hL with ⟨rfl, rfl⟩ | ⟨h1, rfl⟩
  · (refine gw ?_; refine Choice.mk ⟨false, Choice.mk ⟨false, _, _, c1, ?_⟩⟩)
    (refine gw ?_)
    refine Choice.mk ⟨true, ?_⟩
    (refine gw ?_)
    refine Room.mk (by simp) ?_
    have hu1 : [(true, (rowT (szT n 0) offB).map u64)] = (upT n offB (0 + 1)).map (fun r => (true, r.map u64)) := hu2
    by_cases h5 : szT n 0 ≤ 64
    · rw [← hall, ← hend h5]
      (refine gw ?_; refine IfB.tt (by simp; omega) ?_)
      (refine gw ?_)
      rw [hu1]
      exact RetN.mk ⟨[4], rfl, rfl, rfl⟩
    · have hg := hgo h5
      have hlt : szT n (0 + 1) < szT n 0 := by show (szT n 0 - 1) / 64 + 1 < szT n 0; omega
      (refine gw ?_; refine IfB.ff (by simp; omega) ?_)
      (refine gw ?_)
      rw [hsz]
      (refine gw ?_)
      rw [hsd]
      (refine gw ?_)
      rw [hsu]
      rw [hu1]
      (refine gw ?_; refine ⟨[], [0,4], rfl, ⟨0 + 1, rfl, .inr ⟨by omega, rfl⟩, hg⟩, (by omega : (szT n (0 + 1) : Int).toNat < (szT n 0 : Int).toNat)⟩)
  · (refine gw ?_; refine Choice.mk ⟨false, Choice.mk ⟨false, _, _, c1, ?_⟩⟩)
    (refine gw ?_)
    refine Choice.mk ⟨true, ?_⟩
    (refine gw ?_)
    refine Room.mk (by have := hT_le n; simp; omega) ?_
    by_cases h5 : szT n l ≤ 64
    · rw [← hall, ← hend h5]
      (refine gw ?_; refine IfB.tt (by simp; omega) ?_)
      (refine gw ?_)
      rw [hu2]
      exact RetN.mk ⟨[4], rfl, rfl, rfl⟩
    · have hg := hgo h5
      have hlt : szT n (l + 1) < szT n l := by show (szT n l - 1) / 64 + 1 < szT n l; omega
      (refine gw ?_; refine IfB.ff (by simp; omega) ?_)
      (refine gw ?_)
      rw [hsz]
      (refine gw ?_)
      rw [hsd]
      (refine gw ?_)
      rw [hsu]
      rw [hu2]
      (refine gw ?_; refine ⟨[], [0,4], rfl, ⟨l + 1, rfl, .inr ⟨by omega, rfl⟩, hg⟩, (by omega : (szT n (l + 1) : Int).toNat < (szT n l : Int).toNat)⟩)
theorem take_suc_eq {α : Type} {a b : List α} {i : Nat} (ha : i < a.length) (hb : i < b.length) (h : a.take i = b.take i) (he : a[i] = b[i]) : a.take (i + 1) = b.take (i + 1) := by
  rw [List.take_succ_eq_append_getElem ha, List.take_succ_eq_append_getElem hb, h, he]
end Go.Ev.W
namespace Go.Ev.W
open Go.Ev Go.Ev.N

theorem sz_div {n : Nat} {x : Nat} (h : x < n) : ∀ l, x / 64 ^ l < szT n l := by
  intro l
  induction l with
  | zero => simpa [szT] using h
  | succ l ih =>
    show x / 64 ^ (l + 1) < (szT n l - 1) / 64 + 1
    rw [Nat.pow_succ, ← Nat.div_div_eq_div_mul]
    generalize x / 64 ^ l = q at *
    omega
theorem fT_bit {n : Nat} {b : Nat → Bool} {l k j : Nat} (hj : j < 64) : (fT n b l k).testBit j = (decide (szT n l ≤ 64 * k + j) || btT n b l (64 * k + j)) := by
  unfold fT wdT
  rw [wB_bit, decide_eq_true hj, Bool.true_and]
theorem FW_bit {j : Nat} (hj : j < 64) : FW.testBit j = true := by
  have h : FW = 2 ^ 64 - 1 := by decide
  rw [h, Nat.testBit_two_pow_sub_one]; simpa using hj
/-- A bit that is set tells that all below it are. -/
theorem bt_full {n : Nat} {b : Nat → Bool} : ∀ (k j : Nat), btT n b k j = true → ∀ x, x / 64 ^ k = j → x < n → b x = true := by
  intro k
  induction k with
  | zero => intro j h x hx _; rw [Nat.pow_zero, Nat.div_one] at hx; subst hx; exact h
  | succ k ih =>
    intro j h x hx hn
    have h : decide (fT n b k j = FW) = true := h
    have h := of_decide_eq_true h
    rw [Nat.pow_succ, ← Nat.div_div_eq_div_mul] at hx
    have hs := sz_div hn k
    refine ih (x / 64 ^ k) ?_ x rfl hn
    generalize x / 64 ^ k = q at *
    have hb : (fT n b k j).testBit (q - 64 * j) = FW.testBit (q - 64 * j) := congrArg (fun u => Nat.testBit u (q - 64 * j)) h
    rw [fT_bit (by omega), FW_bit (by omega), show 64 * j + (q - 64 * j) = q by omega, decide_eq_false (by omega), Bool.false_or] at hb
    exact hb
/-- A bit that is not set has one below it that is not. -/
theorem bt_zero {n : Nat} {b : Nat → Bool} {k j : Nat} (h : btT n b (k + 1) j = false) : ∃ z, z < 64 ∧ lowW (fun i => !(fT n b k j).testBit i) = z ∧ 64 * j + z < szT n k ∧ btT n b k (64 * j + z) = false ∧ ∀ i, i < z → btT n b k (64 * j + i) = true ∨ szT n k ≤ 64 * j + i := by
  have h : decide (fT n b k j = FW) = false := h
  have h := of_decide_eq_false h
  rcases lowW_spec (fun i => !(fT n b k j).testBit i) with ⟨_, h2⟩ | ⟨h1, h2, h3⟩
  · refine absurd ?_ h
    apply Nat.eq_of_testBit_eq
    intro i
    by_cases hi : i < 64
    · rw [FW_bit hi]; simpa using h2 i hi
    · rw [Nat.testBit_lt_two_pow (Nat.lt_of_lt_of_le (fT_lt n b k j) (Nat.pow_le_pow_right (n := 2) (by omega) (show 64 ≤ i by omega))), Nat.testBit_lt_two_pow (Nat.lt_of_lt_of_le (show FW < 2 ^ 64 by decide) (Nat.pow_le_pow_right (n := 2) (by omega) (show 64 ≤ i by omega)))]
  · refine ⟨_, h1, rfl, ?_, ?_, fun i hi => ?_⟩
    · rw [fT_bit h1] at h2
      generalize lowW _ = z at *
      cases hd : decide (szT n k ≤ 64 * j + z) with
      | true => rw [hd] at h2; simp at h2
      | false => have := of_decide_eq_false hd; omega
    · rw [fT_bit h1] at h2
      generalize lowW _ = z at *
      simpa using (by simpa using h2 : _ ∧ _).2
    · have h4 := h3 i hi
      rw [fT_bit (by omega)] at h4
      generalize lowW _ = z at *
      by_cases h5 : szT n k ≤ 64 * j + i
      · exact .inr h5
      · rw [decide_eq_false h5] at h4; left; simpa using h4
end Go.Ev.W
namespace Go.Ev.W
open Go.Ev Go.Ev.N

/-- The first bit that is not set. -/
def firZ (n : Nat) (b : Nat → Bool) (f : Nat) : Option Nat := (List.range n).find? fun i => decide (f ≤ i) && !b i
def eFir : Option Nat → AV
  | some i => .tup [i64 i, .bool true]
  | none => .tup [i64 0, .bool false]
theorem firZ_none {n f : Nat} {b : Nat → Bool} (h : ∀ x, f ≤ x → x < n → b x = true) : firZ n b f = none := by
  unfold firZ
  rw [List.find?_eq_none]
  intro x hx
  have hx : x < n := by simpa using hx
  by_cases hf : f ≤ x
  · simp [h x hf hx]
  · simp [hf]
theorem firZ_some {n f i : Nat} {b : Nat → Bool} (hi : i < n) (hf : f ≤ i) (hb : b i = false) (h : ∀ x, f ≤ x → x < i → b x = true) : firZ n b f = some i := by
  unfold firZ
  rw [List.find?_range_eq_some]
  refine ⟨by simp [hf, hb], by simpa using hi, fun j hj => ?_⟩
  by_cases hf : f ≤ j
  · simp [h j hf hj]
  · simp [hf]
/-- Where the search stands. -/
structure Up (n : Nat) (b : Nat → Bool) (f k i : Nat) : Prop where
  z : k = 0 → f ≤ i
  p : 1 ≤ k → f / 64 ^ k < i
  a : ∀ x, f ≤ x → x / 64 ^ k < i → x < n → b x = true
theorem Up.go {n : Nat} {b : Nat → Bool} {f k i j : Nat} (h : Up n b f k i) (hij : i ≤ j) (hb : ∀ p, i ≤ p → p < j → p < szT n k → btT n b k p = true) : Up n b f k j :=
  ⟨fun e => by have := h.z e; omega, fun e => by have := h.p e; omega, fun x h1 h2 h3 => by
    by_cases h4 : x / 64 ^ k < i
    · exact h.a x h1 h4 h3
    · exact bt_full k _ (hb _ (by omega) h2 (sz_div h3 k)) x rfl h3⟩
theorem Up.up {n : Nat} {b : Nat → Bool} {f k q : Nat} (h : Up n b f k (64 * (q + 1))) (hf : f / 64 ^ k < 64 * (q + 1)) : Up n b f (k + 1) (q + 1) :=
  ⟨fun e => by omega, fun _ => by rw [Nat.pow_succ, ← Nat.div_div_eq_div_mul]; omega, fun x h1 h2 h3 => by
    rw [Nat.pow_succ, ← Nat.div_div_eq_div_mul] at h2
    exact h.a x h1 (by omega) h3⟩
theorem Up.down {n : Nat} {b : Nat → Bool} {f k i : Nat} (h : Up n b f (k + 1) i) : Up n b f k (64 * i) := by
  have hp := h.p (by omega)
  rw [Nat.pow_succ, ← Nat.div_div_eq_div_mul] at hp
  refine ⟨fun e => by subst e; rw [Nat.pow_zero, Nat.div_one] at hp; omega, fun _ => by omega, fun x h1 h2 h3 => h.a x h1 ?_ h3⟩
  rw [Nat.pow_succ, ← Nat.div_div_eq_div_mul]
  omega
/-- The word, looked at. -/
theorem word_low {n : Nat} {b : Nat → Bool} {f k i : Nat} (h : Up n b f k i) :
    (lowW (fun j => !(fT n b k (i / 64) ||| maskF 0 ((i % 64 : Nat) : Int)).testBit j) = 64 ∧ Up n b f (k + 1) (i / 64 + 1)) ∨
    ∃ z, z < 64 ∧ lowW (fun j => !(fT n b k (i / 64) ||| maskF 0 ((i % 64 : Nat) : Int)).testBit j) = z ∧ Up n b f k (64 * (i / 64) + z) ∧ 64 * (i / 64) + z < szT n k ∧ btT n b k (64 * (i / 64) + z) = false := by
  have hbit : ∀ j, j < 64 → (fT n b k (i / 64) ||| maskF 0 ((i % 64 : Nat) : Int)).testBit j = ((decide (szT n k ≤ 64 * (i / 64) + j) || btT n b k (64 * (i / 64) + j)) || decide (j < i % 64)) := fun j hj => by
    rw [Nat.testBit_or, fT_bit hj, maskF_bit hj (by omega), decide_eq_true (show (0 : Int) ≤ (j : Int) by omega), Bool.true_and]
    congr 1
    exact decide_eq_decide.2 (by omega)
  generalize fT n b k (i / 64) ||| maskF 0 ((i % 64 : Nat) : Int) = w at *
  have hrun : ∀ e, e ≤ 64 → (∀ j, j < e → w.testBit j = true) → ∀ p, i ≤ p → p < 64 * (i / 64) + e → p < szT n k → btT n b k p = true := fun e he hw p h1 h2 h3 => by
    have h4 := hw (p - 64 * (i / 64)) (by omega)
    rw [hbit _ (by omega), show 64 * (i / 64) + (p - 64 * (i / 64)) = p by omega, decide_eq_false (show ¬ szT n k ≤ p by omega), decide_eq_false (show ¬ p - 64 * (i / 64) < i % 64 by omega)] at h4
    simpa using h4
  rcases lowW_spec (fun j => !w.testBit j) with ⟨h1, h2⟩ | ⟨h1, h2, h3⟩
  · left
    refine ⟨h1, ?_⟩
    have g := h.go (j := 64 * (i / 64 + 1)) (by omega) fun p h3 h4 h5 => hrun 64 (by omega) (fun j hj => by simpa using h2 j hj) p h3 (by omega) h5
    refine g.up ?_
    by_cases hk : k = 0
    · have := h.z hk; subst hk; rw [Nat.pow_zero, Nat.div_one]; omega
    · have := h.p (by omega); omega
  · right
    generalize lowW (fun j => !w.testBit j) = z at *
    have h2 : w.testBit z = false := by simpa using h2
    rw [hbit z h1] at h2
    simp only [Bool.or_eq_false_iff, decide_eq_false_iff_not] at h2
    obtain ⟨⟨h4, h5⟩, h6⟩ := h2
    exact ⟨z, h1, rfl, h.go (by omega) fun p h7 h8 h9 => hrun z (by omega) (fun j hj => by simpa using h3 j hj) p h7 h8 h9, by omega, h5⟩
end Go.Ev.W
namespace Go.Ev.W
open Go.Ev Go.Ev.N

def firI (n : Nat) (b : Nat → Bool) (f : Int) : Option Nat := if f < 0 ∨ f ≥ n then none else firZ n b f.toNat
theorem at_eTr {n : Nat} (hn : 1 ≤ n) (hn2 : n ≤ 65536) (b : Nat → Bool) {l k : Nat} (hl : l < hT n) (hk : k < lenT n l) : Told P T tree_at [] [eTr n b, i64 l, i64 k] (u64 (fT n b l k)) [] := by
  have hh := hT_le n
  have c := treeAt_told (s := n) (v := lvT n b) (by rw [lvT_len]; omega) (mixT_all_row hn hn2 b) l (k : Nat)
  rw [show atF (lvT n b) l (k : Nat) = fT n b l k from tabV_at hl hk] at c
  exact c
theorem or_low {w m : Nat} (h : w < 2 ^ 64) (h2 : m < 2 ^ 64) : w ||| m < 2 ^ 64 := Nat.or_lt_two_pow h h2
set_option maxHeartbeats 4000000 in
theorem treeFirst_told {n : Nat} (hn : 1 ≤ n) (hn2 : n ≤ 65536) (b : Nat → Bool) (f : Int) (hf : -9223372036854775808 ≤ f ∧ f ≤ 9223372036854775807) : Told P T tree_FirstZero [] [eTr n b, i64 f] (eFir (firI n b f)) [] := by
  have hh := hT_le n
  have hvl : ((lvT n b).map lR).length = hT n := by simp [lvT_len]
  have hlast := hT_last hn hn2
  refine told_of_ev (fn := tree_FirstZero_fn) tabOk mixed (by kernel_rfl) (by kernel_rfl) (by kernel_rfl) (by kernel_rfl) ?_
  by_cases h1 : f < 0
  · rw [show firI n b f = none by unfold firI; rw [if_pos (.inl h1)]]
    (refine gw ?_; refine IfB.tt (by simpa using h1) ?_)
    (refine gw ?_; exact RetN.mk ⟨[], rfl, rfl, rfl⟩)
  · (refine gw ?_; refine IfB.ff (by simpa using h1) ?_)
    by_cases h2 : f ≥ n
    · rw [show firI n b f = none by unfold firI; rw [if_pos (.inr h2)]]
      (refine gw ?_; refine IfB.tt (by simpa using h2) ?_)
      (refine gw ?_; exact RetN.mk ⟨[], rfl, rfl, rfl⟩)
    · obtain ⟨a, rfl⟩ : ∃ a : Nat, f = a := ⟨f.toNat, by omega⟩
      rw [show firI n b a = firZ n b a by unfold firI; rw [if_neg (by omega)]; rfl]
      (refine gw ?_; refine IfB.ff (by simpa using h2) ?_)
      (refine gw ?_; refine LoopN.mk ⟨[2,6,7], fun vs L => ∃ k i : Nat, vs = [.ptr 0 0 0, i64 k, i64 i] ∧ L = [.var (eTr n b)] ∧ k ≤ hT n ∧ i ≤ 65537 ∧ Up n b a k i ∧ (1 ≤ k → 1 ≤ i), fun vs L => match vs with | [_, .int _ i, _] => hT n - i.toNat | _ => 0, [], [0], rfl, ⟨0, a, rfl, rfl, by omega, by omega, ⟨fun _ => Nat.le_refl _, fun e => by omega, fun x e1 e2 => by rw [Nat.pow_zero, Nat.div_one] at e2; omega⟩, fun e => by omega⟩, ?_⟩)
      rintro vs L ⟨k, i, rfl, rfl, hk, hi, hup, hpi⟩
      by_cases h3 : k < hT n
      · have hkv : k < (lvT n b).length := by rw [lvT_len]; exact h3
        have hrl : ((lvT n b)[k].map u64).length = lenT n k := by
          rw [show (lvT n b)[k] = (List.range (lenT n k)).map (fT n b k) from tabV_get hkv]; simp
        have hdi : ((i : Nat) : Int).tdiv 64 = ((i / 64 : Nat) : Int) := (Int.ofNat_tdiv i 64).symm
        have hmi : ((i : Nat) : Int).tmod 64 = ((i % 64 : Nat) : Int) := by rw [Int.tmod_eq_emod_of_nonneg (by omega)]; omega
        have hlk : lenT n k = (szT n k - 1) / 64 + 1 := rfl
        have hszk := szT_pos hn k
        have hszn := szT_le_n hn k
        (refine gw ?_; refine IfB.ff (by rw [hvl]; simp; omega) ?_)
        (refine gw ?_)
        rw [hdi]
        (refine gw ?_; refine idx_map (hkv) ?_)
        by_cases h4 : i / 64 ≥ lenT n k
        · rw [firZ_none fun x e1 e2 => hup.a x e1 (by have := sz_div e2 k; omega) e2]
          (refine gw ?_; refine IfB.tt (by rw [hrl]; simp; omega) ?_)
          (refine gw ?_; exact RetN.mk ⟨[], rfl, rfl, rfl⟩)
        · have c1 := at_eTr hn hn2 b h3 (k := i / 64) (by omega)
          have c2 := mask_told 0 ((i % 64 : Nat) : Int) (by omega) (by omega)
          have c2 : Told P T word_Mask [] _ _ _ := c2
          have hor := or64 (fT_lt n b k (i / 64)) (maskF_lt 0 ((i % 64 : Nat) : Int))
          have c3 := lowZero_told (or_low (fT_lt n b k (i / 64)) (maskF_lt 0 ((i % 64 : Nat) : Int)))
          have hwl := word_low hup
          generalize fT n b k (i / 64) ||| maskF 0 ((i % 64 : Nat) : Int) = w at hor c3 hwl
          generalize fT n b k (i / 64) = w1 at c1 hor
          generalize maskF 0 ((i % 64 : Nat) : Int) = w2 at c2 hor
          (refine gw ?_; refine IfB.ff (by rw [hrl]; simp; omega) ?_)
          (refine gw ?_)
          rw [hdi]
          (refine gw ?_; refine Choice.mk ⟨false, Choice.mk ⟨false, _, _, c1, ?_⟩⟩)
          (refine gw ?_)
          rw [hmi]
          (refine gw ?_; refine Choice.mk ⟨false, Choice.mk ⟨false, _, _, c2, ?_⟩⟩)
          (refine gw ?_)
          rw [hor]
          (refine gw ?_; refine Choice.mk ⟨false, Choice.mk ⟨false, _, _, c3, ?_⟩⟩)
          rcases hwl with ⟨e1, e2⟩ | ⟨z, e1, e2, e3, e4, e5⟩
          · rw [e1]
            (refine gw ?_; refine ⟨[], [0], rfl, ⟨k + 1, i / 64 + 1, by rw [show ((i / 64 + 1 : Nat) : Int) = ((i : Nat) : Int).tdiv 64 + 1 by omega]; rfl, rfl, by omega, by omega, e2, by omega⟩, (by omega : hT n - ((k : Int) + 1).toNat < hT n - (k : Int).toNat)⟩)
          · rw [e2]
            (refine gw ?_; refine IfB.tt (by simp; omega) ?_)
            (refine gw ?_)
            rw [hdi]
            (refine gw ?_; refine LoopN.mk ⟨[2,6,7], fun vs L => ∃ k i : Nat, vs = [.ptr 0 0 0, i64 k, i64 i] ∧ L = [.var (eTr n b)] ∧ k < hT n ∧ i < szT n k ∧ Up n b a k i ∧ btT n b k i = false, fun vs L => match vs with | [_, .int _ i, _] => i.toNat | _ => 0, [], [0], rfl, ⟨k, 64 * (i / 64) + z, by rw [show ((64 * (i / 64) + z : Nat) : Int) = ((i / 64 : Nat) : Int) * 64 + z by omega]; rfl, rfl, h3, e4, e3, e5⟩, ?_⟩)
            rintro vs L ⟨k, i, rfl, rfl, hk, hi, hup, hz⟩
            have hszn := szT_le_n hn k
            cases k with
            | zero =>
              have hi : i < n := hi
              have hz : b i = false := hz
              rw [firZ_some hi (hup.z rfl) hz fun x e1 e2 => hup.a x e1 (by rw [Nat.pow_zero, Nat.div_one]; exact e2) (by omega)]
              (refine gw ?_)
              refine RetN.mk ⟨[], rfl, ?_, rfl⟩
              show AV.tup [i64 i, .bool (decide ((i : Int) < n))] = AV.tup [i64 i, .bool true]
              rw [decide_eq_true (by omega)]
            | succ k =>
              have c1 := at_eTr hn hn2 b (l := k) (k := i) (by omega) hi
              have c3 := lowZero_told (fT_lt n b k i)
              obtain ⟨z, e1, e2, e3, e4, e5⟩ := bt_zero hz
              have hd := hup.down.go (j := 64 * i + z) (by omega) fun p q1 q2 q3 => by
                have := e5 (p - 64 * i) (by omega)
                rw [show 64 * i + (p - 64 * i) = p by omega] at this
                rcases this with h | h
                · exact h
                · omega
              have hszk := szT_le_n hn k
              generalize fT n b k i = w at *
              (refine gw ?_)
              rw [show ((k + 1 : Nat) : Int) - 1 = (k : Int) by omega]
              (refine gw ?_; refine Choice.mk ⟨false, Choice.mk ⟨false, _, _, c1, ?_⟩⟩)
              (refine gw ?_; refine Choice.mk ⟨false, Choice.mk ⟨false, _, _, c3, ?_⟩⟩)
              rw [e2]
              (refine gw ?_; refine ⟨[], [0], rfl, ⟨k, 64 * i + z, by rw [show ((64 * i + z : Nat) : Int) = (i : Int) * 64 + z by omega, show (k : Int) = ((k + 1 : Nat) : Int) - 1 by omega]; rfl, rfl, by omega, e3, hd, e4⟩, (by omega : (((k + 1 : Nat) : Int) - 1).toNat < ((k + 1 : Nat) : Int).toNat)⟩)
      · have hkT : k = hT n := by omega
        have h1T : szT n k = 1 := by
          rw [hkT, show hT n = hT n - 1 + 1 by omega]
          show (szT n (hT n - 1) - 1) / 64 + 1 = 1
          have := hlast.1
          omega
        rw [firZ_none fun x e1 e2 => hup.a x e1 (by have := sz_div e2 k; omega) e2]
        (refine gw ?_; refine IfB.tt (by rw [hvl]; simp; omega) ?_)
        (refine gw ?_; exact RetN.mk ⟨[], rfl, rfl, rfl⟩)
end Go.Ev.W
namespace Go.Ev.W
open Go.Ev Go.Ev.N

def hasT (n : Nat) (b : Nat → Bool) (f : Int) : Bool := decide (0 ≤ f ∧ f < n) && b f.toNat
theorem bit_and {w k : Nat} (hw : w < 2 ^ 64) : (bitsOp .and .u64 ((w / 2 ^ k : Nat) : Int) 1 == 1) = decide (w / 2 ^ k % 2 = 1) := by
  have h := and64 (x := w / 2 ^ k) (y := 1) (Nat.lt_of_le_of_lt (Nat.div_le_self _ _) hw) (by decide)
  rw [show (1 : Int) = ((1 : Nat) : Int) from rfl, h, Nat.and_one_is_mod]
  generalize w / 2 ^ k % 2 = q
  by_cases hq : q = 1
  · subst hq; rfl
  · rw [decide_eq_false hq]
    have : ((q : Nat) : Int) ≠ ((1 : Nat) : Int) := by omega
    simpa using this
theorem treeHas_told {n : Nat} (hn : 1 ≤ n) (hn2 : n ≤ 65536) (b : Nat → Bool) (f : Int) (hf : -9223372036854775808 ≤ f ∧ f ≤ 9223372036854775807) : Told P T tree_Has [] [eTr n b, i64 f] (.bool (hasT n b f)) [] := by
  have hh := hT_le n
  by_cases h1 : 0 ≤ f
  · obtain ⟨a, rfl⟩ : ∃ a : Nat, f = a := ⟨f.toNat, by omega⟩
    by_cases h2 : a < n
    · have hdi : ((a : Nat) : Int).tdiv 64 = ((a / 64 : Nat) : Int) := (Int.ofNat_tdiv a 64).symm
      have hmi : ((a : Nat) : Int).tmod 64 = ((a % 64 : Nat) : Int) := by rw [Int.tmod_eq_emod_of_nonneg (by omega)]; omega
      have c1 := at_eTr hn hn2 b (l := 0) (k := a / 64) (by omega) (by show a / 64 < (n - 1) / 64 + 1; omega)
      have hb : (fT n b 0 (a / 64)).testBit (a % 64) = hasT n b a := by
        rw [fT_bit (by omega), show 64 * (a / 64) + a % 64 = a by omega, decide_eq_false (show ¬ szT n 0 ≤ a by show ¬ n ≤ a; omega)]
        unfold hasT
        rw [decide_eq_true (by omega)]; rfl
      have hw := fT_lt n b 0 (a / 64)
      generalize fT n b 0 (a / 64) = w at c1 hb hw
      have hsr := shr64 (u := w) (k := a % 64) (by omega)
      have hu : IntKind.u64.wrap (a : Int) = (a : Int) := wrapU64 (by omega) (by omega)
      refine told_of_ev (fn := tree_Has_fn) tabOk mixed (by kernel_rfl) (by kernel_rfl) (by kernel_rfl) (by kernel_rfl) ?_
      (refine gw ?_; refine IfB.tt (by simp; omega) ?_)
      (refine gw ?_)
      rw [hdi]
      (refine gw ?_; refine Choice.mk ⟨false, Choice.mk ⟨false, _, _, c1, ?_⟩⟩)
      (refine gw ?_)
      rw [hmi]
      (refine gw ?_)
      refine RetN.mk ⟨[], rfl, ?_, rfl⟩
      show AV.bool (bitsOp .and .u64 (((w : Nat) : Int).fdiv (2 ^ min ((a % 64 : Nat) : Int).toNat IntKind.u64.bits)) 1 == 1) = AV.bool (hasT n b a)
      rw [hsr, ← hb, bit_and hw, Nat.testBit_eq_decide_div_mod_eq]
    · have e : hasT n b a = false := by unfold hasT; rw [decide_eq_false (by omega)]; rfl
      rw [e]
      refine told_of_ev (fn := tree_Has_fn) tabOk mixed (by kernel_rfl) (by kernel_rfl) (by kernel_rfl) (by kernel_rfl) ?_
      (refine gw ?_; refine IfB.ff (by simp; omega) ?_)
      (refine gw ?_)
      exact RetN.mk ⟨[], rfl, rfl, rfl⟩
  · have e : hasT n b f = false := by unfold hasT; rw [decide_eq_false (by omega)]; rfl
    rw [e]
    refine told_of_ev (fn := tree_Has_fn) tabOk mixed (by kernel_rfl) (by kernel_rfl) (by kernel_rfl) (by kernel_rfl) ?_
    (refine gw ?_; refine IfB.ff (by simp; omega) ?_)
    (refine gw ?_; exact RetN.mk ⟨[], rfl, rfl, rfl⟩)
end Go.Ev.W
namespace Go.Ev.W
open Go.Ev Go.Ev.N

set_option maxHeartbeats 2000000 in
theorem newR_told {n : Nat} (hn : 1 ≤ n) (hn2 : n ≤ 65536) : Told P T tree_New [] [i64 n] (eTr n offB) [] := by
  rw [show eTr n offB = eTg n (lvT n offB) by unfold eTr; rw [eTg_eq]]
  have hl1 := hT_last hn hn2
  refine told_of_ev (fn := tree_New_fn) tabOk mixed (by kernel_rfl) (by kernel_rfl) (by kernel_rfl) (by kernel_rfl) ?_
  (refine gw ?_; refine IfB.ff (by simp; omega) ?_)
  (refine gw ?_; refine IfB.ff (by simp; omega) ?_)
  (refine gw ?_; refine LoopN.mk ⟨[2,3], fun vs L => ∃ l : Nat, vs = [.ptr 0 0 0, i64 (szT n l)] ∧ ((l = 0 ∧ L = [.var (.agg [i64 n, .ref 1]), .row ts_uint64 []]) ∨ (1 ≤ l ∧ L = [.var (.agg [i64 n, .ref 1]), gV (upT n offB l)])) ∧ l < hT n, fun vs L => match vs with | [_, .int _ i] => i.toNat | _ => 0, [], [0,1], rfl, ⟨0, rfl, .inl ⟨rfl, rfl⟩, by have := hT_le n; omega⟩, ?_⟩)
  rintro vs L ⟨l, rfl, hL, hl⟩
  have c1 := level_told (m := szT n l) (szT_pos hn l) (by have := szT_le_n hn l; omega)
  have hus := upT_suc hn hl
  have hu2 : ((upT n offB l).map fun r => (true, r.map u64)) ++ [(true, (rowT (szT n l) offB).map u64)] = (upT n offB (l + 1)).map (fun r => (true, r.map u64)) := by rw [hus, List.map_append]; rfl
  have hul := upT_len offB (Nat.le_of_lt hl)
  have hend : szT n l ≤ 64 → l + 1 = hT n := fun h => by
    by_cases e : l + 1 < hT n
    · have := hl1.2 l e; omega
    · omega
  have hgo : ¬ szT n l ≤ 64 → l + 1 < hT n := fun h => by
    by_cases e : l + 1 = hT n
    · have := hl1.1; rw [← e] at this; exact absurd this h
    · omega
  have hall : upT n offB (hT n) = lvT n offB := by unfold upT; rw [← lvT_len n offB, List.take_length]
  have hszb := szT_le_n hn l
  have hszc := szT_le_n hn (l + 1)
  have hsz : ((szT n l : Nat) : Int) - 1 = ((szT n l - 1 : Nat) : Int) := by have := szT_pos hn l; omega
  have hsd : ((szT n l - 1 : Nat) : Int).tdiv 64 = (((szT n l - 1) / 64 : Nat) : Int) := (Int.ofNat_tdiv _ 64).symm
  have hsu : (((szT n l - 1) / 64 : Nat) : Int) + 1 = ((szT n (l + 1) : Nat) : Int) := rfl
  rcases hL with ⟨rfl, rfl⟩ | ⟨h1, rfl⟩
  · (refine gw ?_; refine Choice.mk ⟨false, Choice.mk ⟨false, _, _, c1, ?_⟩⟩)
    (refine gw ?_)
    refine Choice.mk ⟨true, ?_⟩
    (refine gw ?_)
    refine Room.mk (by simp) ?_
    have hu1 : [(true, (rowT (szT n 0) offB).map u64)] = (upT n offB (0 + 1)).map (fun r => (true, r.map u64)) := hu2
    by_cases h5 : szT n 0 ≤ 64
    · rw [← hall, ← hend h5]
      (refine gw ?_; refine IfB.tt (by simp; omega) ?_)
      (refine gw ?_)
      rw [hu1]
      exact RetN.fz ⟨[true], [], rfl, rfl, rfl⟩
    · have hg := hgo h5
      have hlt : szT n (0 + 1) < szT n 0 := by show (szT n 0 - 1) / 64 + 1 < szT n 0; omega
      (refine gw ?_; refine IfB.ff (by simp; omega) ?_)
      (refine gw ?_)
      rw [hsz]
      (refine gw ?_)
      rw [hsd]
      (refine gw ?_)
      rw [hsu]
      rw [hu1]
      (refine gw ?_; refine ⟨[], [0,4], rfl, ⟨0 + 1, rfl, .inr ⟨by omega, rfl⟩, hg⟩, (by omega : (szT n (0 + 1) : Int).toNat < (szT n 0 : Int).toNat)⟩)
  · (refine gw ?_; refine Choice.mk ⟨false, Choice.mk ⟨false, _, _, c1, ?_⟩⟩)
    (refine gw ?_)
    refine Choice.mk ⟨true, ?_⟩
    (refine gw ?_)
    refine Room.mk (by have := hT_le n; simp; omega) ?_
    by_cases h5 : szT n l ≤ 64
    · rw [← hall, ← hend h5]
      (refine gw ?_; refine IfB.tt (by simp; omega) ?_)
      (refine gw ?_)
      rw [hu2]
      exact RetN.fz ⟨[true], [], rfl, rfl, rfl⟩
    · have hg := hgo h5
      have hlt : szT n (l + 1) < szT n l := by show (szT n l - 1) / 64 + 1 < szT n l; omega
      (refine gw ?_; refine IfB.ff (by simp; omega) ?_)
      (refine gw ?_)
      rw [hsz]
      (refine gw ?_)
      rw [hsd]
      (refine gw ?_)
      rw [hsu]
      rw [hu2]
      (refine gw ?_; refine ⟨[], [0,4], rfl, ⟨l + 1, rfl, .inr ⟨by omega, rfl⟩, hg⟩, (by omega : (szT n (l + 1) : Int).toNat < (szT n l : Int).toNat)⟩)
end Go.Ev.W
namespace Go.Ev.W
open Go.Ev Go.Ev.N

theorem hasT_nat {n : Nat} {b : Nat → Bool} {x : Nat} (h : x < n) : hasT n b x = b x := by unfold hasT; rw [decide_eq_true (by omega)]; rfl
theorem firI_spec {n : Nat} {b : Nat → Bool} {f : Nat} (hf : f < n) : (firI n b f = none ∧ ∀ x, f ≤ x → x < n → b x = true) ∨ ∃ i, firI n b f = some i ∧ f ≤ i ∧ i < n ∧ b i = false ∧ ∀ x, f ≤ x → x < i → b x = true := by
  have key : ∀ c, c ≤ n → f ≤ c → (∀ x, f ≤ x → x < c → b x = true) ∨ ∃ i, f ≤ i ∧ i < c ∧ b i = false ∧ ∀ x, f ≤ x → x < i → b x = true := by
    intro c
    induction c with
    | zero => intro _ _; exact .inl fun x _ h => by omega
    | succ c ih =>
      intro h1 h2
      by_cases hc : f ≤ c
      · rcases ih (by omega) hc with h | ⟨i, i1, i2, i3, i4⟩
        · cases hb : b c with
          | true =>
            refine .inl fun x e1 e2 => ?_
            by_cases e : x = c
            · rw [e]; exact hb
            · exact h x e1 (by omega)
          | false => exact .inr ⟨c, hc, by omega, hb, h⟩
        · exact .inr ⟨i, i1, by omega, i3, i4⟩
      · exact .inl fun x e1 e2 => by omega
  have hu : firI n b f = firZ n b f := by
    unfold firI
    rw [if_neg (by omega), Int.toNat_natCast]
  rw [hu]
  rcases key n (Nat.le_refl _) (by omega) with h | ⟨i, i1, i2, i3, i4⟩
  · exact .inl ⟨firZ_none h, h⟩
  · exact .inr ⟨i, firZ_some i2 i1 i3 i4, i1, i2, i3, i4⟩
end Go.Ev.W
namespace Go.Ev.W
open Go.Ev Go.Ev.N

/-- Bits of a level above: of two, is one set? -/
def upB (b : Nat → Bool) : Nat → Nat → Bool
  | 0 => b
  | k + 1 => fun i => upB b k (2 * i) || upB b k (2 * i + 1)
theorem upB_true {b : Nat → Bool} : ∀ {k i : Nat}, upB b k i = true ↔ ∃ x, x / 2 ^ k = i ∧ b x = true
  | 0, i => ⟨fun h => ⟨i, by simp, h⟩, fun ⟨x, h1, h2⟩ => by
      have : x = i := by simpa using h1
      rw [← this]; exact h2⟩
  | k + 1, i => by
    have ih := @upB_true b k
    show (upB b k (2 * i) || upB b k (2 * i + 1)) = true ↔ _
    rw [Bool.or_eq_true, ih, ih]
    have hdd : ∀ x, x / 2 ^ (k + 1) = x / 2 ^ k / 2 := fun x => by rw [Nat.pow_succ, Nat.div_div_eq_div_mul]
    constructor
    · rintro (⟨x, h1, h2⟩ | ⟨x, h1, h2⟩)
      · exact ⟨x, by rw [hdd, h1]; omega, h2⟩
      · exact ⟨x, by rw [hdd, h1]; omega, h2⟩
    · rintro ⟨x, h1, h2⟩
      rw [hdd] at h1
      generalize hq : x / 2 ^ k = q at *
      by_cases e : q = 2 * i
      · exact .inl ⟨x, by rw [hq, e], h2⟩
      · exact .inr ⟨x, by rw [hq]; omega, h2⟩
theorem upB_congr {b c : Nat → Bool} {k i : Nat} (h : ∀ x, x / 2 ^ k = i → b x = c x) : upB b k i = upB c k i := by
  apply Bool.eq_iff_iff.2
  rw [upB_true, upB_true]
  exact ⟨fun ⟨x, h1, h2⟩ => ⟨x, h1, by rw [← h x h1]; exact h2⟩, fun ⟨x, h1, h2⟩ => ⟨x, h1, by rw [h x h1]; exact h2⟩⟩
theorem upB_false {b : Nat → Bool} {k i : Nat} (h : ∀ x, x / 2 ^ k = i → b x = false) : upB b k i = false := by
  cases e : upB b k i with
  | false => rfl
  | true =>
    obtain ⟨x, h1, h2⟩ := upB_true.1 e
    rw [h x h1] at h2; exact absurd h2 (by decide)
theorem sz_half (g k : Nat) : g / 2 ^ (k + 1) = g / 2 ^ k / 2 := by rw [Nat.pow_succ, Nat.div_div_eq_div_mul]
/-- Places of so many granules and classes. -/
structure SlOk (g c : Nat) : Prop where
  c1 : 1 ≤ c
  c17 : c ≤ 17
  g1 : 1 ≤ g
  g2 : g ≤ 65536
  dv : g % 2 ^ (c - 1) = 0
theorem SlOk.sz {g c : Nat} (h : SlOk g c) {k : Nat} (hk : k < c) : 1 ≤ g / 2 ^ k ∧ g / 2 ^ k ≤ 65536 ∧ g / 2 ^ k * 2 ^ k = g := by
  have hd : 2 ^ (c - 1) ∣ g := Nat.dvd_of_mod_eq_zero h.dv
  have hd2 : 2 ^ k ∣ g := Nat.dvd_trans (Nat.pow_dvd_pow 2 (by omega)) hd
  have hm := Nat.div_mul_cancel hd2
  have hp : 0 < 2 ^ k := Nat.pow_pos (by omega)
  refine ⟨?_, Nat.le_trans (Nat.div_le_self _ _) h.g2, hm⟩
  have := Nat.le_of_dvd (by have := h.g1; omega) hd2
  exact (Nat.one_le_div_iff hp).2 this
theorem SlOk.half {g c : Nat} (h : SlOk g c) {k : Nat} (hk : k + 1 < c) : g / 2 ^ k = 2 * (g / 2 ^ (k + 1)) := by
  have h1 := (h.sz (k := k) (by omega)).2.2
  have h2 := (h.sz (k := k + 1) hk).2.2
  have hp : 0 < 2 ^ k := Nat.pow_pos (by omega)
  have : g / 2 ^ k * 2 ^ k = 2 * (g / 2 ^ (k + 1)) * 2 ^ k := by
    rw [h1, Nat.mul_comm 2 _, Nat.mul_assoc, Nat.mul_comm 2 _, ← Nat.pow_succ, h2]
  exact Nat.eq_of_mul_eq_mul_right hp this
def tS (g : Nat) (b : Nat → Bool) (k : Nat) : AV := eTr (g / 2 ^ k) (upB b k)
def tL (g c : Nat) (b : Nat → Bool) : List AV := (List.range c).map (tS g b)
def eS (g c : Nat) (b : Nat → Bool) : AV := .agg [.lst t_api_Tree (tL g c b)]
theorem tL_len (g c : Nat) (b : Nat → Bool) : (tL g c b).length = c := by simp [tL]
theorem tL_at {g c k : Nat} {b : Nat → Bool} (h : k < c) {Q : AV → Prop} (q : Q (tS g b k)) : At (tL g c b) ((k : Nat) : Int).toNat Q := by
  unfold tL
  refine at_map (k := k) (by simpa using h) ?_
  rw [List.getElem_range]; exact q
theorem tL_idx {g c k : Nat} {b : Nat → Bool} (h : k < c) {Q : AV → Prop} (q : Q (tS g b k)) : Idx (tL g c b) ((k : Nat) : Int) Q := by
  unfold tL
  refine idx_map (k := k) (by simpa using h) ?_
  rw [List.getElem_range]; exact q
theorem tL_suc (g c : Nat) (b : Nat → Bool) : tL g (c + 1) b = tL g c b ++ [tS g b c] := by unfold tL; rw [List.range_succ, List.map_append]; rfl
theorem eTr_congr {n : Nat} {b c : Nat → Bool} (h : ∀ x, x < n → b x = c x) : eTr n b = eTr n c := by unfold eTr; rw [lvT_congr h]
theorem tS_congr {g k : Nat} {b c : Nat → Bool} (h : ∀ x, x < g → b x = c x) : tS g b k = tS g c k := by
  refine eTr_congr fun i hi => upB_congr fun x hx => h x ?_
  subst hx
  by_cases e : x < g
  · exact e
  · have : g / 2 ^ k ≤ x / 2 ^ k := Nat.div_le_div_right (by omega)
    omega
theorem tL_congr {g c : Nat} {b b' : Nat → Bool} (h : ∀ x, x < g → b x = b' x) : tL g c b = tL g c b' := by
  unfold tL
  exact List.map_congr_left fun k _ => tS_congr h
theorem eS_congr {g c : Nat} {b b' : Nat → Bool} (h : ∀ x, x < g → b x = b' x) : eS g c b = eS g c b' := by unfold eS; rw [tL_congr h]
theorem zin {A B i : Nat} (h : A ≤ i ∧ i ≤ B) : 0 ≤ (A : Int) ∧ (A : Int) ≤ (i : Int) ∧ (i : Int) < (A : Int) + ((B : Int) - (A : Int) + 1) := by omega
theorem zout {A B i : Nat} (h : 0 ≤ (A : Int) ∧ (A : Int) ≤ (i : Int) ∧ (i : Int) < (A : Int) + ((B : Int) - (A : Int) + 1)) : A ≤ i ∧ i ≤ B := by omega
/-- A class's bits once some granules are live, or not. -/
theorem use_on {g k : Nat} {b : Nat → Bool} {f last : Nat} (h1 : f ≤ last) {i : Nat} :
    setZ (upB b k) (f / 2 ^ k : Nat) (((last / 2 ^ k : Nat) : Int) - (f / 2 ^ k : Nat) + 1) true i = upB (setB b f (last + 1 - f) true) k i := by
  have hp : 0 < 2 ^ k := Nat.pow_pos (by omega)
  unfold setZ
  by_cases h : f / 2 ^ k ≤ i ∧ i ≤ last / 2 ^ k
  · rw [if_pos (zin h)]
    refine (upB_true.2 ?_).symm
    -- a granule of the place that is among them
    refine ⟨max f (i * 2 ^ k), ?_, ?_⟩
    · by_cases e : f ≤ i * 2 ^ k
      · rw [Nat.max_eq_right e, Nat.mul_div_cancel _ hp]
      · rw [Nat.max_eq_left (by omega)]
        have : i ≤ f / 2 ^ k := (Nat.le_div_iff_mul_le hp).2 (by omega)
        omega
    · unfold setB
      have : i * 2 ^ k ≤ last := (Nat.le_div_iff_mul_le hp).1 h.2
      rw [if_pos (by omega)]
  · rw [if_neg (fun e => h (zout e))]
    refine upB_congr fun x hx => ?_
    unfold setB
    rw [if_neg]
    rintro ⟨e1, e2⟩
    apply h
    subst hx
    exact ⟨Nat.div_le_div_right e1, Nat.div_le_div_right (by omega)⟩
theorem use_off {g k : Nat} {b : Nat → Bool} {f last : Nat} (h1 : f ≤ last) {i : Nat} (hi : i ≠ f / 2 ^ k ∧ i ≠ last / 2 ^ k) :
    setZ (upB b k) (f / 2 ^ k : Nat) (((last / 2 ^ k : Nat) : Int) - (f / 2 ^ k : Nat) + 1) false i = upB (setB b f (last + 1 - f) false) k i := by
  have hp : 0 < 2 ^ k := Nat.pow_pos (by omega)
  unfold setZ
  by_cases h : f / 2 ^ k ≤ i ∧ i ≤ last / 2 ^ k
  · rw [if_pos (zin h)]
    refine (upB_false fun x hx => ?_).symm
    unfold setB
    rw [if_pos]
    subst hx
    constructor
    · by_cases e : f ≤ x
      · exact e
      · have : x / 2 ^ k ≤ f / 2 ^ k := Nat.div_le_div_right (by omega)
        omega
    · by_cases e : x ≤ last
      · omega
      · have : last / 2 ^ k ≤ x / 2 ^ k := Nat.div_le_div_right (by omega)
        omega
  · rw [if_neg (fun e => h (zout e))]
    refine upB_congr fun x hx => ?_
    unfold setB
    rw [if_neg]
    rintro ⟨e1, e2⟩
    apply h
    subst hx
    exact ⟨Nat.div_le_div_right e1, Nat.div_le_div_right (by omega)⟩
end Go.Ev.W
namespace Go.Ev.W
open Go.Ev Go.Ev.N

theorem and64i {x y : Nat} (hx : x < 2 ^ 63) (hy : y < 2 ^ 63) : bitsOp .and .i64 (x : Int) (y : Int) = ((x &&& y : Nat) : Int) := by
  have h0 : x &&& y < 2 ^ 63 := Nat.and_lt_two_pow (n := 63) x hy
  have e : (BitVec.ofInt 64 (x : Int) &&& BitVec.ofInt 64 (y : Int)).toNat = x &&& y := by
    rw [BitVec.toNat_and, b64 (by omega), b64 (by omega), BitVec.toNat_ofNat, BitVec.toNat_ofNat, Nat.mod_eq_of_lt (by omega), Nat.mod_eq_of_lt (by omega)]
  show IntKind.i64.wrap ((BitVec.ofInt 64 (x : Int) &&& BitVec.ofInt 64 (y : Int)).toNat : Int) = _
  rw [e]
  exact wrap64 (by omega) (by omega)
theorem and_mod {g k : Nat} (hg : g < 2 ^ 63) (hk : k ≤ 16) : bitsOp .and .i64 (g : Int) (((2 ^ k : Nat) : Int) - 1) = ((g % 2 ^ k : Nat) : Int) := by
  have hp : 2 ^ k ≤ 2 ^ 16 := Nat.pow_le_pow_right (by omega) hk
  have hp0 : 0 < 2 ^ k := Nat.pow_pos (by omega)
  rw [show ((2 ^ k : Nat) : Int) - 1 = ((2 ^ k - 1 : Nat) : Int) by omega, and64i hg (by omega), Nat.and_two_pow_sub_one_eq_mod]
theorem shlI {k : Nat} (h : k ≤ 16) : (1 : Int) * 2 ^ min ((k : Nat) : Int).toNat IntKind.i64.bits = ((2 ^ k : Nat) : Int) := by
  rw [Int.toNat_natCast, show min k IntKind.i64.bits = k from Nat.min_eq_left (by show k ≤ 64; omega)]
  simp
theorem shrI {g k : Nat} (h : k ≤ 16) : ((g : Nat) : Int).fdiv (2 ^ min ((k : Nat) : Int).toNat IntKind.i64.bits) = ((g / 2 ^ k : Nat) : Int) := by
  rw [Int.toNat_natCast, show min k IntKind.i64.bits = k from Nat.min_eq_left (by show k ≤ 64; omega)]
  have : ((2 : Int) ^ k) = ((2 ^ k : Nat) : Int) := by simp
  rw [this, Int.fdiv_eq_ediv_of_nonneg _ (Int.natCast_nonneg _)]
  exact (Int.natCast_ediv g (2 ^ k)).symm
def sN : AV := .agg [.lst t_api_Tree []]
def SlOkI (g c : Int) : Prop := 1 ≤ c ∧ c ≤ 17 ∧ 1 ≤ g ∧ g ≤ 65536 ∧ g.toNat % 2 ^ (c.toNat - 1) = 0
instance (g c : Int) : Decidable (SlOkI g c) := by unfold SlOkI; infer_instance
theorem SlOkI.ok {g c : Nat} (h : SlOkI g c) : SlOk g c := ⟨by have := h.1; omega, by have := h.2.1; omega, by have := h.2.2.1; omega, by have := h.2.2.2.1; omega, by have := h.2.2.2.2; simpa using this⟩
theorem SlOk.int {g c : Nat} (h : SlOk g c) : SlOkI g c := ⟨by have := h.c1; omega, by have := h.c17; omega, by have := h.g1; omega, by have := h.g2; omega, by simpa using h.dv⟩
theorem upB_off : ∀ k, upB offB k = offB
  | 0 => rfl
  | k + 1 => by
    funext i
    show (upB offB k (2 * i) || upB offB k (2 * i + 1)) = _
    rw [upB_off k]; rfl
set_option maxHeartbeats 4000000 in
theorem slNew_told {g c : Nat} (h : SlOk g c) : Told P T slots_New [] [i64 g, i64 c] (eS g c offB) [] := by
  obtain ⟨k1, hk1⟩ : ∃ k, c = k + 1 := ⟨c - 1, by have := h.c1; omega⟩
  have h1 := h.c17
  have h2 := h.g1
  have h3 := h.g2
  have hsl := shlI (k := k1) (by omega)
  have hand := and_mod (g := g) (k := k1) (by omega) (by omega)
  have hp : 2 ^ k1 ≤ 2 ^ 16 := Nat.pow_le_pow_right (by omega) (by omega)
  have hp0 : 0 < 2 ^ k1 := Nat.pow_pos (by omega)
  rw [show g % 2 ^ k1 = 0 by have := h.dv; rw [hk1] at this; exact this] at hand
  have hcv : IntKind.u64.wrap ((c : Int) - 1) = (k1 : Nat) := by rw [show (c : Int) - 1 = (k1 : Nat) by omega]; exact wrapU64 (by omega) (by omega)
  refine told_of_ev (fn := slots_New_fn) tabOk mixed (by kernel_rfl) (by kernel_rfl) (by kernel_rfl) (by kernel_rfl) ?_
  (refine gw ?_; refine IfB.ff (by simp; omega) ?_)
  (refine gw ?_; refine IfB.ff (by simp; omega) ?_)
  (refine gw ?_; refine IfB.ff (by simp; omega) ?_)
  (refine gw ?_; refine IfB.ff (by simp; omega) ?_)
  (refine gw ?_)
  rw [show (c : Int) - 1 = (k1 : Nat) by omega, hsl]
  (refine gw ?_)
  rw [hand]
  (refine gw ?_)
  (refine gw ?_; refine LoopN.mk ⟨[0,4,31,32], fun vs L => ∃ k : Nat, vs = [i64 g, .ptr 0 0 0, i64 c, i64 k] ∧ L = [.var (.agg [.ref 1]), .row t_api_Tree (tL g k offB)] ∧ k ≤ c, fun vs L => match vs with | [_, _, _, .int _ i] => c - i.toNat | _ => 0, [], [0,1], rfl, ⟨0, rfl, rfl, by omega⟩, ?_⟩)
  rintro vs L ⟨k, rfl, rfl, hk⟩
  by_cases hkc : k < c
  · have hs := shrI (g := g) (k := k) (by omega)
    have hz := h.sz hkc
    have d1 := newR_told hz.1 hz.2.1
    have hu : tL g k offB ++ [eTr (g / 2 ^ k) offB] = tL g (k + 1) offB := by
      rw [tL_suc]
      unfold tS
      rw [upB_off]
    have htl := tL_len g k offB
    (refine gw ?_; refine IfB.tt (by simp; omega) ?_)
    (refine gw ?_)
    rw [hs]
    (refine gw ?_; refine Choice.mk ⟨false, Choice.mk ⟨false, _, _, d1, ?_⟩⟩)
    (refine gw ?_)
    refine Room.mk (by rw [htl]; simp; omega) ?_
    (refine gw ?_; refine ⟨[], [0,3], rfl, ⟨k + 1, rfl, by rw [← hu]; rfl, hkc⟩, (by omega : c - ((k : Int) + 1).toNat < c - (k : Int).toNat)⟩)
  · obtain rfl : k = c := by omega
    (refine gw ?_)
    exact RetN.fz ⟨[true], [], rfl, rfl, rfl⟩
set_option maxHeartbeats 4000000 in
theorem slNewNo_told {g c : Int} (h : ¬ SlOkI g c) (hg : -9223372036854775808 ≤ g ∧ g ≤ 9223372036854775807) (hc : -9223372036854775808 ≤ c ∧ c ≤ 9223372036854775807) : Told P T slots_New [] [i64 g, i64 c] sN [] := by
  refine told_of_ev (fn := slots_New_fn) tabOk mixed (by kernel_rfl) (by kernel_rfl) (by kernel_rfl) (by kernel_rfl) ?_
  by_cases h1 : c < 1
  · (refine gw ?_; refine IfB.tt (by simp; omega) ?_)
    (refine gw ?_)
    exact RetN.fz ⟨[true], [], rfl, rfl, rfl⟩
  · (refine gw ?_; refine IfB.ff (by simp; omega) ?_)
    by_cases h2 : c > 17
    · (refine gw ?_; refine IfB.tt (by simp; omega) ?_)
      (refine gw ?_)
      exact RetN.fz ⟨[true], [], rfl, rfl, rfl⟩
    · (refine gw ?_; refine IfB.ff (by simp; omega) ?_)
      by_cases h3 : g < 1
      · (refine gw ?_; refine IfB.tt (by simp; omega) ?_)
        (refine gw ?_)
        exact RetN.fz ⟨[true], [], rfl, rfl, rfl⟩
      · (refine gw ?_; refine IfB.ff (by simp; omega) ?_)
        by_cases h4 : g > 65536
        · (refine gw ?_; refine IfB.tt (by simp; omega) ?_)
          (refine gw ?_)
          exact RetN.fz ⟨[true], [], rfl, rfl, rfl⟩
        · (refine gw ?_; refine IfB.ff (by simp; omega) ?_)
          obtain ⟨n, rfl⟩ : ∃ n : Nat, g = n := ⟨g.toNat, by omega⟩
          obtain ⟨k, rfl⟩ : ∃ k : Nat, c = k + 1 := ⟨c.toNat - 1, by omega⟩
          have hsl := shlI (k := k) (by omega)
          have hand := and_mod (g := n) (k := k) (by omega) (by omega)
          have hp : 2 ^ k ≤ 2 ^ 16 := Nat.pow_le_pow_right (by omega) (by omega)
          have hp0 : 0 < 2 ^ k := Nat.pow_pos (by omega)
          have hne : n % 2 ^ k ≠ 0 := fun e => h ⟨by omega, by omega, by omega, by omega, by
            rw [Int.toNat_natCast, show ((k : Int) + 1).toNat - 1 = k by omega]; exact e⟩
          (refine gw ?_)
          rw [show (k : Int) + 1 - 1 = (k : Nat) by omega]
          (refine gw ?_)
          rw [hsl]
          (refine gw ?_)
          rw [hand]
          generalize n % 2 ^ k = r at *
          (refine gw ?_; refine IfB.tt (by simp; omega) ?_)
          (refine gw ?_)
          exact RetN.fz ⟨[true], [], rfl, rfl, rfl⟩
end Go.Ev.W
namespace Go.Ev.W
open Go.Ev Go.Ev.N

theorem setZ_none (b : Nat → Bool) (on : Bool) : setZ b 0 0 on = b := by
  funext x
  unfold setZ
  rw [if_neg (by omega)]
set_option maxHeartbeats 4000000 in
theorem slTwin_told {g c : Nat} (h : SlOk g c) (b : Nat → Bool) : Told P T slots_twin [] [eS g c b] (.agg [.ref 0]) [.row t_api_Tree (tL g c b)] := by
  have h1 := h.c17
  have htl := tL_len g c b
  refine told_of_ev (fn := slots_twin_fn) tabOk mixed (by kernel_rfl) (by kernel_rfl) (by kernel_rfl) (by kernel_rfl) ?_
  (refine gw ?_; refine LoopN.mk ⟨[2,6,7,8], fun vs L => ∃ k : Nat, vs = [.ptr 0 0 0, .lst t_api_Tree (tL g c b), i64 (tL g c b).length, i64 k] ∧ L = [.var (.agg [.ref 1]), .row t_api_Tree (tL g k b)] ∧ k ≤ c, fun vs L => match vs with | [_, _, _, .int _ i] => c - i.toNat | _ => 0, [], [1,2], rfl, ⟨0, rfl, rfl, by omega⟩, ?_⟩)
  rintro vs L ⟨k, rfl, rfl, hk⟩
  by_cases hkc : k < c
  · have hz := h.sz hkc
    have d1 : Told P T tree_Set [] [eTr (g / 2 ^ k) (upB b k), i64 0, i64 0, .bool true] (tS g b k) [] := by
      have := treeSet_told hz.1 hz.2.1 (upB b k) 0 0 (by omega) true
      rw [setZ_none] at this
      exact this
    have hu := tL_suc g k b
    have htk := tL_len g k b
    (refine gw ?_; refine IfB.tt (by simp; omega) ?_)
    (refine gw ?_)
    refine tL_idx hkc ?_
    (refine gw ?_; refine Choice.mk ⟨false, Choice.mk ⟨false, _, _, d1, ?_⟩⟩)
    (refine gw ?_)
    refine Room.mk (by rw [htk]; simp; omega) ?_
    (refine gw ?_; refine ⟨[], [0,5], rfl, ⟨k + 1, rfl, by rw [hu]; rfl, hkc⟩, (by omega : c - ((k : Int) + 1).toNat < c - (k : Int).toNat)⟩)
  · obtain rfl : k = c := by omega
    (refine gw ?_; refine IfB.ff (by rw [htl]; simp) ?_)
    (refine gw ?_)
    exact RetN.mk ⟨[1], rfl, rfl, rfl⟩
theorem slTaken_told {n : Nat} (hn : 1 ≤ n) (hn2 : n ≤ 65536) (b : Nat → Bool) (i : Int) (hi : -1000000 ≤ i ∧ i ≤ 1000000) : Told P T slots_taken [] [eTr n b, i64 i] (.bool (hasT n b (2 * i) || hasT n b (2 * i + 1))) [] := by
  have d1 := treeHas_told hn hn2 b (2 * i) (by omega)
  have d2 := treeHas_told hn hn2 b (2 * i + 1) (by omega)
  refine told_of_ev (fn := slots_taken_fn) tabOk mixed (by kernel_rfl) (by kernel_rfl) (by kernel_rfl) (by kernel_rfl) ?_
  (refine gw ?_; refine Choice.mk ⟨false, Choice.mk ⟨false, _, _, d1, ?_⟩⟩)
  cases h1 : hasT n b (2 * i)
  · (refine gw ?_; refine Choice.mk ⟨false, Choice.mk ⟨false, _, _, d2, ?_⟩⟩)
    (refine gw ?_; exact RetN.mk ⟨[], rfl, rfl, rfl⟩)
  · (refine gw ?_; exact RetN.mk ⟨[], rfl, rfl, rfl⟩)
/-- Granules live, or not, for all classes up to one. -/
def usL (g c : Nat) (b b' : Nat → Bool) (k : Nat) : List AV := (List.range c).map fun j => if j < k then tS g b' j else tS g b j
theorem usL_len (g c : Nat) (b b' : Nat → Bool) (k : Nat) : (usL g c b b' k).length = c := by simp [usL]
theorem usL_zero (g c : Nat) (b b' : Nat → Bool) : usL g c b b' 0 = tL g c b := by
  unfold usL tL
  exact List.map_congr_left fun j _ => by rw [if_neg (by omega)]
theorem usL_end (g c : Nat) (b b' : Nat → Bool) : usL g c b b' c = tL g c b' := by
  unfold usL tL
  exact List.map_congr_left fun j hj => by rw [if_pos (by simpa using hj)]
theorem usL_set {g c k : Nat} {b b' : Nat → Bool} : (usL g c b b' k).set k (tS g b' k) = usL g c b b' (k + 1) := by
  unfold usL
  apply List.ext_getElem (by simp)
  intro j h1 h2
  rw [List.getElem_set]
  simp only [List.getElem_map, List.getElem_range]
  split
  · rename_i e; subst e; rw [if_pos (by omega)]
  · rename_i e
    by_cases hj : j < k
    · rw [if_pos hj, if_pos (by omega)]
    · rw [if_neg hj, if_neg (by omega)]
theorem usL_at {g c k j : Nat} {b b' : Nat → Bool} (h : j < c) {Q : AV → Prop} (q : Q (if j < k then tS g b' j else tS g b j)) : At (usL g c b b' k) ((j : Nat) : Int).toNat Q := by
  unfold usL
  refine at_map (k := j) (by simpa using h) ?_
  rw [List.getElem_range]; exact q
/-- What a place's bit is, said by what is below. -/
theorem up_taken {g c k : Nat} (h : SlOk g c) (hk : k + 1 < c) (b : Nat → Bool) {i : Nat} (hi : i < g / 2 ^ (k + 1)) :
    (hasT (g / 2 ^ k) (upB b k) (2 * (i : Int)) || hasT (g / 2 ^ k) (upB b k) (2 * (i : Int) + 1)) = upB b (k + 1) i := by
  have hh := h.half hk
  have h1 : hasT (g / 2 ^ k) (upB b k) (2 * (i : Int)) = upB b k (2 * i) := hasT_nat (x := 2 * i) (by omega)
  have h2 : hasT (g / 2 ^ k) (upB b k) (2 * (i : Int) + 1) = upB b k (2 * i + 1) := hasT_nat (x := 2 * i + 1) (by omega)
  rw [h1, h2]; rfl
end Go.Ev.W
namespace Go.Ev.W
open Go.Ev Go.Ev.N

/-- A class's bits, while its two ends are looked at again. -/
def enB (b b' : Nat → Bool) (k lo hi : Nat) (on : Bool) (j : Nat) : Nat → Bool :=
  let B := setZ (upB b k) lo ((hi : Int) - lo + 1) on
  if 0 < k ∧ on = false then (if j = 0 then B else if j = 1 then setZ B lo 1 (upB b' k lo) else setZ (setZ B lo 1 (upB b' k lo)) hi 1 (upB b' k hi)) else B
theorem set1 (b : Nat → Bool) (lo : Nat) (v : Bool) (i : Nat) : setZ b lo 1 v i = if i = lo then v else b i := by
  unfold setZ
  by_cases h : i = lo
  · rw [if_pos (by omega), if_pos h]
  · rw [if_neg (by omega), if_neg h]
theorem enB_zero (b b' : Nat → Bool) (k lo hi : Nat) (on : Bool) : enB b b' k lo hi on 0 = setZ (upB b k) lo ((hi : Int) - lo + 1) on := by
  unfold enB
  split
  · rw [if_pos rfl]
  · rfl
theorem enB_off {b b' : Nat → Bool} {k lo hi : Nat} {on : Bool} (h : ¬ (0 < k ∧ on = false)) (j j' : Nat) : enB b b' k lo hi on j = enB b b' k lo hi on j' := by
  unfold enB
  rw [if_neg h, if_neg h]
theorem enB_one {b b' : Nat → Bool} {k lo hi : Nat} {on : Bool} (h : 0 < k ∧ on = false) : setZ (enB b b' k lo hi on 0) lo 1 (upB b' k lo) = enB b b' k lo hi on 1 := by
  unfold enB
  rw [if_pos h, if_pos h, if_pos rfl, if_neg (by omega), if_pos rfl]
theorem enB_two {b b' : Nat → Bool} {k lo hi : Nat} {on : Bool} (h : 0 < k ∧ on = false) : setZ (enB b b' k lo hi on 1) hi 1 (upB b' k hi) = enB b b' k lo hi on 2 := by
  unfold enB
  rw [if_pos h, if_pos h, if_neg (by omega), if_pos rfl, if_neg (by omega), if_neg (by omega)]
theorem enB_end {b : Nat → Bool} {f last k : Nat} {on : Bool} (h1 : f ≤ last) (i : Nat) : enB b (setB b f (last + 1 - f) on) k (f / 2 ^ k) (last / 2 ^ k) on 2 i = upB (setB b f (last + 1 - f) on) k i := by
  unfold enB
  cases on with
  | true =>
    rw [if_neg (by simp)]
    exact use_on (g := 0) h1
  | false =>
    by_cases hk : 0 < k
    · rw [if_pos ⟨hk, rfl⟩, if_neg (by omega), if_neg (by omega), set1, set1]
      by_cases e1 : i = last / 2 ^ k
      · rw [if_pos e1, e1]
      · rw [if_neg e1]
        by_cases e2 : i = f / 2 ^ k
        · rw [if_pos e2, e2]
        · rw [if_neg e2]
          exact use_off (g := 0) h1 ⟨e2, e1⟩
    · obtain rfl : k = 0 := by omega
      rw [if_neg (by omega)]
      show setZ b ((f / 2 ^ 0 : Nat) : Int) _ false i = setB b f (last + 1 - f) false i
      rw [Nat.pow_zero, Nat.div_one, Nat.div_one]
      unfold setZ setB
      by_cases hq : f ≤ i ∧ i ≤ last
      · rw [if_pos (by omega), if_pos (by omega)]
      · rw [if_neg (by omega), if_neg (by omega)]
theorem setB_last {g : Nat} {b : Nat → Bool} {f last : Nat} {n : Int} {on : Bool} (hf : f < g) (hl : (last : Int) = f + min n (g - f) - 1) (h1 : 1 ≤ n) : ∀ x, x < g → setB b f (last + 1 - f) on x = setZ b f n on x := by
  intro x hx
  unfold setB setZ
  by_cases hq : f ≤ x ∧ x < f + (last + 1 - f)
  · rw [if_pos hq, if_pos (by omega)]
  · rw [if_neg hq, if_neg (by omega)]
set_option maxRecDepth 20000 in
set_option maxHeartbeats 8000000 in
theorem slUse_told {g c : Nat} (h : SlOk g c) (b : Nat → Bool) (f n : Int) (hf : -9223372036854775808 ≤ f ∧ f ≤ 9223372036854775807) (hn : -9223372036854775808 ≤ n ∧ n ≤ 9223372036854775807) (on : Bool) :
    Told P T slots_Use [] [eS g c b, i64 f, i64 n, .bool on] (eS g c (setZ b f n on)) [] := by
  have h1 := h.c1
  have h2 := h.c17
  have h3 := h.g1
  have h4 := h.g2
  have htl := tL_len g c b
  have c1 := slTwin_told h b
  have hg0 : ((g / 2 ^ 0 : Nat) : Int) = g := by rw [Nat.pow_zero, Nat.div_one]
  have same : (f < 0 ∨ n < 1 ∨ f ≥ g) → eS g c (setZ b f n on) = eS g c b := fun hh => eS_congr fun x hx => by
    unfold setZ
    rw [if_neg (by omega)]
  refine told_of_ev (fn := slots_Use_fn) tabOk mixed (by kernel_rfl) (by kernel_rfl) (by kernel_rfl) (by kernel_rfl) ?_
  (refine gw ?_; refine Choice.mk ⟨false, Choice.mk ⟨false, _, _, c1, ?_⟩⟩)
  (refine gw ?_)
  rw [htl]
  (refine gw ?_; refine IfB.ff (by simp; omega) ?_)
  by_cases hf0 : f < 0
  · rw [same (.inl hf0)]
    (refine gw ?_; refine IfB.tt (by simp; omega) ?_)
    (refine gw ?_)
    exact RetN.fz ⟨[true], [], rfl, rfl, rfl⟩
  · (refine gw ?_; refine IfB.ff (by simp; omega) ?_)
    by_cases hn1 : n < 1
    · rw [same (.inr (.inl hn1))]
      (refine gw ?_; refine IfB.tt (by simp; omega) ?_)
      (refine gw ?_)
      exact RetN.fz ⟨[true], [], rfl, rfl, rfl⟩
    · (refine gw ?_; refine IfB.ff (by simp; omega) ?_)
      (refine gw ?_)
      refine tL_at (k := 0) (by omega) ?_
      by_cases hfg : f ≥ g
      · rw [same (.inr (.inr hfg))]
        (refine gw ?_; refine IfB.tt (by rw [hg0]; simp; omega) ?_)
        (refine gw ?_)
        exact RetN.fz ⟨[true], [], rfl, rfl, rfl⟩
      · (refine gw ?_; refine IfB.ff (by rw [hg0]; simp; omega) ?_)
        obtain ⟨a, rfl⟩ : ∃ a : Nat, f = a := ⟨f.toNat, by omega⟩
        (refine gw ?_)
        refine tL_at (k := 0) (by omega) ?_
        obtain ⟨last, hl⟩ : ∃ last : Nat, (last : Int) = (a : Int) + (if ((g / 2 ^ 0 : Nat) : Int) - (a : Int) < n then ((g / 2 ^ 0 : Nat) : Int) - (a : Int) else n) - 1 := ⟨((a : Int) + (if ((g / 2 ^ 0 : Nat) : Int) - (a : Int) < n then ((g / 2 ^ 0 : Nat) : Int) - (a : Int) else n) - 1).toNat, by rw [hg0]; split <;> omega⟩
        have hl2 : (last : Int) = a + min n (g - a) - 1 := by rw [hl, hg0]; split <;> omega
        have hal : a ≤ last := by omega
        have hlg : last < g := by omega
        have hend : eS g c (setB b a (last + 1 - a) on) = eS g c (setZ b a n on) := eS_congr (setB_last (by omega) hl2 (by omega))
        rw [← hend]
        have hB := fun k i => enB_end (b := b) (f := a) (last := last) (k := k) (on := on) hal i
        generalize hb' : setB b a (last + 1 - a) on = b' at *
        have hul := fun k => usL_len g c b b' k
        (refine gw ?_; refine LoopN.mk ⟨[1,3,8,9,10,54,55,56], fun vs L => ∃ k : Nat, vs = [i64 a, .bool on, .ptr 0 0 0, .ptr 1 0 0, i64 last, .ref 2, i64 (tL g c b).length, i64 k] ∧ L = [.var (.agg [.und]), .var (.agg [.ref 2]), .row t_api_Tree (usL g c b b' k)] ∧ k ≤ c, fun vs L => match vs with | [_, _, _, _, _, _, _, .int _ i] => c - i.toNat | _ => 0, [], [1,4,3], rfl, ⟨0, by rw [hl]; rfl, by rw [usL_zero]; rfl, by omega⟩, ?_⟩)
        rintro vs L ⟨k, rfl, rfl, hk⟩
        have hulk := hul k
        by_cases hkc : k < c
        · have hz := h.sz hkc
          have hs1 := shrI (g := a) (k := k) (by omega)
          have hs2 := shrI (g := last) (k := k) (by omega)
          have hlo : a / 2 ^ k ≤ last / 2 ^ k := Nat.div_le_div_right hal
          have hhi : last / 2 ^ k < g / 2 ^ k := by
            have := hz.2.2
            exact Nat.div_lt_of_lt_mul (by rw [Nat.mul_comm, this]; exact hlg)
          have hB := hB k
          have htk : ∀ k', k = k' + 1 → ∀ i, i < g / 2 ^ k → Told P T slots_taken [] [tS g b' k', i64 (i : Nat)] (.bool (upB b' k i)) [] := fun k' e i hi => by
            subst e
            have hz' := h.sz (k := k') (by omega)
            have := slTaken_told hz'.1 hz'.2.1 (upB b' k') i (by omega)
            rw [up_taken h hkc b' hi] at this
            exact this
          have hset := usL_set (g := g) (c := c) (k := k) (b := b) (b' := b')
          have hn0 : g / 2 ^ k = g / 2 ^ k := rfl
          generalize hlo' : a / 2 ^ k = lo at *
          generalize hhi' : last / 2 ^ k = hi at *
          have d1 := treeSet_told hz.1 hz.2.1 (upB b k) (lo : Nat) (((hi : Nat) : Int) - (lo : Nat) + 1) (by omega) on
          (refine gw ?_; refine IfB.tt (by rw [htl]; simp; omega) ?_)
          (refine gw ?_)
          refine usL_at hkc ?_
          rw [if_neg (Nat.lt_irrefl k)]
          (refine gw ?_)
          rw [hs1]
          (refine gw ?_)
          rw [hs2]
          (refine gw ?_; refine Choice.mk ⟨false, Choice.mk ⟨false, _, _, d1, ?_⟩⟩)
          (refine gw ?_; refine LoopN.mk ⟨[1,3,8,9,10,11,12,54,55,56,79,80,81], fun vs L => ∃ j : Nat, vs = [i64 a, .bool on, .ptr 0 0 0, .ptr 1 0 0, i64 last, i64 k, .ptr 3 0 0, .ref 2, i64 (tL g c b).length, i64 k, .lst t_int [i64 lo, i64 hi], i64 2, i64 j] ∧ L = [.var (.agg [.und]), .var (.agg [.ref 2]), .row t_api_Tree (usL g c b b' k), .var (eTr (g / 2 ^ k) (enB b b' k lo hi on j))] ∧ j ≤ 2, fun vs L => match vs with | [_, _, _, _, _, _, _, _, _, _, _, _, .int _ i] => 2 - i.toNat | _ => 0, [79], [0,1,2,3], rfl, ⟨0, rfl, by rw [enB_zero]; rfl, by omega⟩, ?_⟩)
          rintro vs L ⟨j, rfl, rfl, hj⟩
          rcases (show j = 0 ∨ j = 1 ∨ j = 2 by omega) with rfl | rfl | rfl
          · (refine gw ?_)
            refine ⟨_, by decide, rfl, ?_⟩
            by_cases hko : 0 < k ∧ on = false
            · obtain ⟨hk0, rfl⟩ := hko
              obtain ⟨k', rfl⟩ : ∃ k', k = k' + 1 := ⟨k - 1, by omega⟩
              have e1 := htk k' rfl lo (by omega)
              have e2 := treeSet_told hz.1 hz.2.1 (enB b b' (k' + 1) lo hi false 0) (lo : Nat) 1 (by omega) (upB b' (k' + 1) lo)
              rw [enB_one ⟨hk0, rfl⟩] at e2
              (refine gw ?_)
              rw [show ((k' + 1 : Nat) : Int) - 1 = (k' : Int) by omega]
              (refine gw ?_)
              refine usL_at (j := k') (by omega) ?_
              rw [if_pos (by omega)]
              (refine gw ?_; refine Choice.mk ⟨false, Choice.mk ⟨false, _, _, e1, ?_⟩⟩)
              (refine gw ?_; refine Choice.mk ⟨false, Choice.mk ⟨false, _, _, e2, ?_⟩⟩)
              (refine gw ?_; refine ⟨[], [0,1,2,3], rfl, ⟨1, rfl, rfl, by omega⟩, (by omega : 2 - (((0 : Nat) : Int) + 1).toNat < 2 - ((0 : Nat) : Int).toNat)⟩)
            · have eo := enB_off (b := b) (b' := b') (lo := lo) (hi := hi) hko 0 1
              rw [eo]
              by_cases hk0 : 0 < k
              · have hon : on = true := by cases on with
                  | true => rfl
                  | false => exact absurd ⟨hk0, rfl⟩ hko
                subst hon
                (refine gw ?_; refine IfB.tt (by simp; omega) ?_)
                (refine gw ?_; refine ⟨[], [0,1,2,3], rfl, ⟨1, rfl, rfl, by omega⟩, (by omega : 2 - (((0 : Nat) : Int) + 1).toNat < 2 - ((0 : Nat) : Int).toNat)⟩)
              · (refine gw ?_; refine IfB.ff (by simp; omega) ?_)
                (refine gw ?_; refine ⟨[], [0,1,2,3], rfl, ⟨1, rfl, rfl, by omega⟩, (by omega : 2 - (((0 : Nat) : Int) + 1).toNat < 2 - ((0 : Nat) : Int).toNat)⟩)
          · (refine gw ?_)
            refine ⟨_, by decide, rfl, ?_⟩
            by_cases hko : 0 < k ∧ on = false
            · obtain ⟨hk0, rfl⟩ := hko
              obtain ⟨k', rfl⟩ : ∃ k', k = k' + 1 := ⟨k - 1, by omega⟩
              have e1 := htk k' rfl hi (by omega)
              have e2 := treeSet_told hz.1 hz.2.1 (enB b b' (k' + 1) lo hi false 1) (hi : Nat) 1 (by omega) (upB b' (k' + 1) hi)
              rw [enB_two ⟨hk0, rfl⟩] at e2
              (refine gw ?_)
              rw [show ((k' + 1 : Nat) : Int) - 1 = (k' : Int) by omega]
              (refine gw ?_)
              refine usL_at (j := k') (by omega) ?_
              rw [if_pos (by omega)]
              (refine gw ?_; refine Choice.mk ⟨false, Choice.mk ⟨false, _, _, e1, ?_⟩⟩)
              (refine gw ?_; refine Choice.mk ⟨false, Choice.mk ⟨false, _, _, e2, ?_⟩⟩)
              (refine gw ?_; refine ⟨[], [0,1,2,3], rfl, ⟨2, rfl, rfl, by omega⟩, (by omega : 2 - (((1 : Nat) : Int) + 1).toNat < 2 - ((1 : Nat) : Int).toNat)⟩)
            · have eo := enB_off (b := b) (b' := b') (lo := lo) (hi := hi) hko 1 2
              rw [eo]
              by_cases hk0 : 0 < k
              · have hon : on = true := by cases on with
                  | true => rfl
                  | false => exact absurd ⟨hk0, rfl⟩ hko
                subst hon
                (refine gw ?_; refine IfB.tt (by simp; omega) ?_)
                (refine gw ?_; refine ⟨[], [0,1,2,3], rfl, ⟨2, rfl, rfl, by omega⟩, (by omega : 2 - (((1 : Nat) : Int) + 1).toNat < 2 - ((1 : Nat) : Int).toNat)⟩)
              · (refine gw ?_; refine IfB.ff (by simp; omega) ?_)
                (refine gw ?_; refine ⟨[], [0,1,2,3], rfl, ⟨2, rfl, rfl, by omega⟩, (by omega : 2 - (((1 : Nat) : Int) + 1).toNat < 2 - ((1 : Nat) : Int).toNat)⟩)
          · rw [show eTr (g / 2 ^ k) (enB b b' k lo hi on 2) = tS g b' k from eTr_congr fun i _ => hB i]
            (refine gw ?_; refine ⟨[], [0,1,2], rfl, ⟨k + 1, rfl, by rw [← hset]; rfl, hkc⟩, (by omega : c - ((k : Int) + 1).toNat < c - (k : Int).toNat)⟩)
        · obtain rfl : k = c := by omega
          (refine gw ?_; refine IfB.ff (by rw [htl]; simp) ?_)
          (refine gw ?_)
          rw [usL_end]
          exact RetN.fz ⟨[true], [], rfl, rfl, rfl⟩
end Go.Ev.W
namespace Go.Ev.W
open Go.Ev Go.Ev.N

/-- The lowest place of a class. -/
def lowS (g c : Nat) (b : Nat → Bool) (cl : Int) : Option Nat := if 0 ≤ cl ∧ cl < c then firI (g / 2 ^ cl.toNat) (upB b cl.toNat) 0 else none
set_option maxHeartbeats 2000000 in
theorem slLowest_told {g c : Nat} (h : SlOk g c) (b : Nat → Bool) (cl : Int) (hcl : -9223372036854775808 ≤ cl ∧ cl ≤ 9223372036854775807) : Told P T slots_Lowest [] [eS g c b, i64 cl] (eFir (lowS g c b cl)) [] := by
  have htl := tL_len g c b
  have h2 := h.c17
  refine told_of_ev (fn := slots_Lowest_fn) tabOk mixed (by kernel_rfl) (by kernel_rfl) (by kernel_rfl) (by kernel_rfl) ?_
  by_cases h3 : cl < 0
  · rw [show lowS g c b cl = none by unfold lowS; rw [if_neg (by omega)]]
    (refine gw ?_; refine IfB.tt (by simp; omega) ?_)
    (refine gw ?_; exact RetN.mk ⟨[], rfl, rfl, rfl⟩)
  · (refine gw ?_; refine IfB.ff (by simp; omega) ?_)
    obtain ⟨k, rfl⟩ : ∃ k : Nat, cl = k := ⟨cl.toNat, by omega⟩
    by_cases h4 : k < c
    · have hz := h.sz h4
      rw [show lowS g c b k = firI (g / 2 ^ k) (upB b k) 0 by unfold lowS; rw [if_pos (by omega), Int.toNat_natCast]]
      have c1 := treeFirst_told hz.1 hz.2.1 (upB b k) 0 (by omega)
      cases hf : firI (g / 2 ^ k) (upB b k) 0 with
      | none =>
        rw [hf] at c1
        (refine gw ?_; refine IfB.ff (by rw [htl]; simp; omega) ?_)
        (refine gw ?_)
        refine tL_idx h4 ?_
        (refine gw ?_; refine Choice.mk ⟨false, Choice.mk ⟨false, _, _, c1, ?_⟩⟩)
        (refine gw ?_; exact RetN.mk ⟨[], rfl, rfl, rfl⟩)
      | some i =>
        rw [hf] at c1
        (refine gw ?_; refine IfB.ff (by rw [htl]; simp; omega) ?_)
        (refine gw ?_)
        refine tL_idx h4 ?_
        (refine gw ?_; refine Choice.mk ⟨false, Choice.mk ⟨false, _, _, c1, ?_⟩⟩)
        (refine gw ?_; exact RetN.mk ⟨[], rfl, rfl, rfl⟩)
    · rw [show lowS g c b k = none by unfold lowS; rw [if_neg (by omega)]]
      (refine gw ?_; refine IfB.tt (by rw [htl]; simp; omega) ?_)
      (refine gw ?_; exact RetN.mk ⟨[], rfl, rfl, rfl⟩)
end Go.Ev.W
namespace Go.Ev.W
open Go.Ev Go.Ev.N

theorem clone_Mark (es : List AV) (hl : es.length ≤ 1000000) : Told P T slices_Clone_api_Mark_api_Mark [] [.lst t_api_Mark es] (.ref 0) [.row t_api_Mark es] := by
  refine told_of_ev (fn := slices_Clone_api_Mark_api_Mark_fn) tabOk mixed (by kernel_rfl) (by kernel_rfl) (by kernel_rfl) (by kernel_rfl) ?_
  refine AnyB.mk (fun b hb => ?_)
  refine IfB.mk (fun h1 => ?_) (fun h1 => ?_)
  · obtain rfl := hb h1
    exact RetN.mk ⟨[1], rfl, rfl, rfl⟩
  · refine Room.mk (by first | omega | (simp; omega) | (simp; done)) ?_
    exact RetN.mk ⟨[2], rfl, rfl, rfl⟩


theorem overlaps_Mark (xs es : List AV) (hx : 0 < xs.length) (i n : Nat) : Told P T slices_overlaps_api_Mark [.row t_api_Mark xs, .row t_api_Mark es] [.ref 0, .sub 1 i n] (.bool false) [.row t_api_Mark xs, .row t_api_Mark es] :=
  told_overlaps (fn := slices_overlaps_api_Mark_fn) (tS := ts_api_Mark) (tR := t_bool) tabOk (by kernel_rfl) (by kernel_rfl) (by kernel_rfl) (by kernel_rfl) (by kernel_rfl) (by kernel_rfl) (by kernel_rfl) xs es hx i n

theorem ins_splice_Mark (es : List AV) (x : AV) (i : Nat) (hi : i < es.length) :
    es.take i ++ (x :: es.drop i) = (es.take i ++ ([x] ++ es.drop i)) := by simp
set_option maxHeartbeats 4000000 in
theorem insert_Mark (es : List AV) (x : AV) (i : Nat) (hi : i ≤ es.length) (hl : es.length ≤ 1000000) :
    Told P T slices_Insert_api_Mark_api_Mark [.row t_api_Mark es, .row t_api_Mark [x]] [.ref 0, .int .i64 (i : Nat), .ref 1] (.ref 2) [.dead, .row t_api_Mark [x], .row t_api_Mark (es.take i ++ (x :: es.drop i))] := by
  refine told_of_ev_drop (fn := slices_Insert_api_Mark_api_Mark_fn) tabOk mixed (by kernel_rfl) (by kernel_rfl) (by kernel_rfl) (by kernel_rfl) ?_
  refine Cut.mk (by omega) (by omega) (by omega) ?_
  refine IfB.ff rfl ?_
  refine IfB.mk (fun h1 => ?_) (fun h1 => ?_)
  · have hie : i = es.length := by have := of_decide_eq_true h1; omega
    refine Room.mk (by first | omega | (simp; omega) | (simp; done)) ?_
    refine RetN.mk ⟨[3], rfl, rfl, .inl rfl, .inl rfl, .inl ?_, trivial⟩
    subst hie
    show Blk.row t_api_Mark (es.take es.length ++ (x :: es.drop es.length)) = Blk.row t_api_Mark (es ++ [x])
    rw [List.take_length, List.drop_length]
  · have hlt : i < es.length := by have := of_decide_eq_false h1; omega
    refine fits (wrap64 (by first | omega | (simp; omega) | (simp; done)) (by first | omega | (simp; omega) | (simp; done))) ?_
    refine AnyN.mk (fun c hc => ?_)
    refine IfB.mk (fun h2 => ?_) (fun h2 => ?_)
    · have hcc : c < es.length + 1 := by have := of_decide_eq_true h2; simp at this; omega
      refine Choice.mk ⟨false, ?_⟩
      refine Cut.mk (Int.le_refl _) (by omega) (by omega) ?_
      refine fits (wrap64 (by first | omega | (simp; omega) | (simp; done)) (by first | omega | (simp; omega) | (simp; done))) ?_
      refine fits (wrap64 (by first | omega | (simp; omega) | (simp; done)) (by first | omega | (simp; omega) | (simp; done))) ?_
      refine Need.mk (by first | omega | (simp; omega) | (simp; done)) ?_
      refine Need.mk (by first | omega | (simp; omega) | (simp; done)) ?_
      refine Room.mk (by first | omega | (simp; omega) | (simp; done)) ?_
      refine Cut.mk (by omega) (by first | omega | (simp; omega) | (simp; done)) (by first | omega | (simp; omega) | (simp; done)) ?_
      refine fits (wrap64 (by first | omega | (simp; omega) | (simp; done)) (by first | omega | (simp; omega) | (simp; done))) ?_
      refine Cut.mk (by first | omega | (simp; omega) | (simp; done)) (by first | omega | (simp; omega) | (simp; done)) (by first | omega | (simp; omega) | (simp; done)) ?_
      refine Cut.mk (by omega) (by omega) (by omega) ?_
      refine Sure.mk (by kernel_rfl) ?_
      refine RetN.mk ⟨[3], rfl, rfl, .inr rfl, .inl rfl, .inl ?_, trivial⟩
      show Blk.row t_api_Mark (es.take i ++ (x :: es.drop i)) = Blk.row t_api_Mark _
      refine congrArg _ ?_
      have e1 : ((es.length : Int) + (([x] : List AV).length : Int) - (i : Int)).toNat = es.length + 1 - i := by first | (simp; done) | (simp; omega)
      have e2 : ((i : Int) + (([x] : List AV).length : Int)).toNat = i + 1 := by first | (simp; done) | (simp; omega)
      have e3 : min 1 (es.length + 1 - i) = 1 := by omega
      simp only [e1, e2, Int.toNat_natCast]
      have e4 : i + (1 + (es.length + 1 - i - 1)) - (i + 1) = es.length - i := by omega
      have e5 : i + 1 + (es.length - i) - i - 1 = es.length - i := by omega
      have e6 : es.length + 1 - i - 1 - (es.length - i) = 0 := by omega
      have e7 : (es.take i).length = i := by rw [List.length_take]; omega
      have d1 : ∀ k, i ≤ k → (es.take i).drop k = [] := fun k hk => List.drop_eq_nil_of_le (by omega)
      have d2 : ∀ k, 1 ≤ k → ([x] : List AV).drop k = [] := fun k hk => List.drop_eq_nil_of_le (by simpa using hk)
      have d3 : ([x] : List AV).take 1 = [x] := rfl
      have d4 : (es.drop i).take (es.length - i) = es.drop i := List.take_of_length_le (by simp)
      have e8 : i + 1 + (es.length - i) - i = 1 + (es.length - i) := by omega
      simp [List.take_append, List.drop_append, List.take_of_length_le, Nat.min_eq_left (Nat.le_of_lt hlt), e3, e4, e8, d3, d4, d2, d1, e6]
      have e9 : i + (es.length + 1 - i - 1 + 1) - (i + 1) = es.length - i := by omega
      have d5 : ∀ z : AV, (x :: List.replicate (es.length + 1 - i - 1) z).drop (i + 1 + (es.length - i) - i) = [] := fun z => List.drop_eq_nil_of_le (by rw [List.length_cons, List.length_replicate]; omega)
      rw [e9, Nat.min_self, d4, d1 _ (by omega), d5]
      simp
    · have hcc : es.length + 1 ≤ c := by have := of_decide_eq_false h2; simp at this; omega
      refine fits (wrap64 (by first | omega | (simp; omega) | (simp; done)) (by first | omega | (simp; omega) | (simp; done))) ?_
      refine Choice.mk ⟨true, ?_⟩
      refine Cut.mk (by omega) (by first | omega | (simp; omega) | (simp; done)) (by first | omega | (simp; omega) | (simp; done)) ?_
      refine fits (wrap64 (by first | omega | (simp; omega) | (simp; done)) (by first | omega | (simp; omega) | (simp; done))) ?_
      refine Cut.mk (by first | omega | (simp; omega) | (simp; done)) (by first | omega | (simp; omega) | (simp; done)) (by first | omega | (simp; omega) | (simp; done)) ?_
      refine Choice.mk ⟨true, Choice.mk ⟨false, _, _, overlaps_Mark [x] _ (by simp) _ _, ?_⟩⟩
      refine IfB.tt rfl ?_
      refine fits (wrap64 (by first | omega | (simp; omega) | (simp; done)) (by first | omega | (simp; omega) | (simp; done))) ?_
      refine Cut.mk (by first | omega | (simp; omega) | (simp; done)) (by first | omega | (simp; omega) | (simp; done)) (by first | omega | (simp; omega) | (simp; done)) ?_
      refine Cut.mk (by simp) (by first | omega | (simp; omega) | (simp; done)) (by first | omega | (simp; omega) | (simp; done)) ?_
      refine Sure.mk (by kernel_rfl) ?_
      refine Cut.mk (by simp) (by first | omega | (simp; omega) | (simp; done)) (by first | omega | (simp; omega) | (simp; done)) ?_
      refine RetN.mk ⟨[3], rfl, rfl, .inl rfl, .inl rfl, .inl ?_, trivial⟩
      show Blk.row t_api_Mark (es.take i ++ (x :: es.drop i)) = Blk.row t_api_Mark _
      refine congrArg _ ?_
      have n1 : ((es.length : Int) + (([x] : List AV).length : Int)).toNat - es.length = 1 := by first | (simp; done) | (simp; omega)
      have n2 : ((i : Int) + (([x] : List AV).length : Int)).toNat = i + 1 := by first | (simp; done) | (simp; omega)
      have r := ins_room es x (junkE T t_api_Mark) i hlt
      have m1 : min ([x] : List AV).length (es.length + 1 - i) = 1 := by first | (simp; done) | (simp; omega)
      simp only [n1, n2, Int.toNat_natCast, List.replicate_one]
      rw [r.2.2, m1, r.1, r.2.1]
      rfl

set_option maxHeartbeats 4000000 in
theorem delete_Mark (es : List AV) (i : Nat) (hi : i < es.length) (hl : es.length ≤ 1000000) :
    Told P T slices_Delete_api_Mark_api_Mark [.row t_api_Mark es] [.ref 0, .int .i64 (i : Nat), .int .i64 ((i : Nat) + 1)] (.sub 0 0 (es.length - 1)) [.row t_api_Mark (es.take i ++ (es.drop (i + 1) ++ [zeroE T t_api_Mark]))] := by
  refine told_of_ev (fn := slices_Delete_api_Mark_api_Mark_fn) tabOk mixed (by kernel_rfl) (by kernel_rfl) (by kernel_rfl) (by kernel_rfl) ?_
  refine Cut.mk (by omega) (by omega) (by omega) ?_
  refine Need.mk (by omega) ?_
  refine IfB.ff (by simp; omega) ?_
  refine Cut.mk (by omega) (by omega) (by omega) ?_
  refine Cut.mk (by omega) (by omega) (by omega) ?_
  refine Need.mk (by simp; omega) ?_
  refine Sure.mk (by kernel_rfl) ?_
  refine Cut.mk (by omega) (by simp; omega) (by simp; omega) ?_
  have f0 : Int.toNat 0 = 0 := rfl
  have f1 : (((i : Nat) : Int) + 1).toNat = i + 1 := by omega
  have f2 : (es.drop (i + 1)).take (es.length - (i + 1)) = es.drop (i + 1) := List.take_of_length_le (by simp)
  have f3 : (es.drop (i + 1)).length = es.length - (i + 1) := by simp
  have f4 : i + (es.length - (i + 1)) = es.length - 1 := by omega
  have f5 : es.length - (es.length - 1) = 1 := by omega
  have f6 : es.length - 1 + 1 = es.length := by omega
  refine RetN.mk ⟨[], rfl, ?_, ?_⟩
  · show AV.sub 0 0 _ = AV.sub 0 0 _
    congr 1
    simp only [Int.toNat_natCast, f1, f2, f3, f0, Nat.sub_zero]
    omega
  · show [Blk.row t_api_Mark _] = [Blk.row t_api_Mark _]
    congr 2
    simp only [Int.toNat_natCast, f1, f2, f3, f0, Nat.sub_zero, Nat.zero_add, f4, f5, f6]
    have g1 : (es.take i ++ es.drop (i + 1)).length = es.length - 1 := by rw [List.length_append, List.length_take, f3]; omega
    have R : es.take i ++ (es.drop (i + 1) ++ es.drop (es.length - 1)) = (es.take i ++ es.drop (i + 1)) ++ es.drop (es.length - 1) := by simp
    have g3 : ((es.take i ++ es.drop (i + 1)) ++ es.drop (es.length - 1)).drop es.length = [] := List.drop_eq_nil_of_le (by rw [List.length_append, g1, List.length_drop]; omega)
    rw [R, List.take_append_of_le_length (by omega), List.take_of_length_le (by omega), g3, List.append_nil, List.append_assoc]
    rfl

end Go.Ev.W
namespace Go.Ev.W
open Go.Ev Go.Ev.N

structure M where
  at' : Int
  cl : Int
  deriving DecidableEq
def encM (m : M) : AV := .agg [.int .i64 m.at', .int .i64 m.cl]
def cmpI (x y : Int) : Int := if x < y then -1 else if x > y then 1 else 0

theorem isNaN_told (x : Int) : Told P T cmp_isNaN_int [] [.int .i64 x] (.bool false) [] := by
  refine told_of_ev (fn := cmp_isNaN_int_fn) tabOk mixed (by kernel_rfl) (by kernel_rfl) (by kernel_rfl) (by kernel_rfl) ?_
  refine RetN.mk ⟨[], rfl, ?_, rfl⟩
  show AV.bool (x != x) = AV.bool false
  simp
theorem compare_told (x y : Int) : Told P T cmp_Compare_int [] [.int .i64 x, .int .i64 y] (.int .i64 (cmpI x y)) [] := by
  refine told_of_ev (fn := cmp_Compare_int_fn) tabOk mixed (by kernel_rfl) (by kernel_rfl) (by kernel_rfl) (by kernel_rfl) ?_
  refine Choice.mk ⟨false, Choice.mk ⟨false, _, _, isNaN_told x, ?_⟩⟩
  refine Choice.mk ⟨false, Choice.mk ⟨false, _, _, isNaN_told y, ?_⟩⟩
  refine IfB.ff rfl ?_
  refine IfB.ff rfl ?_
  refine IfB.mk (fun h1 => ?_) (fun h1 => ?_)
  · refine RetN.mk ⟨[], rfl, ?_, rfl⟩
    show AV.int .i64 (-1) = AV.int .i64 (cmpI x y)
    have := of_decide_eq_true h1
    simp [cmpI, this]
  · have h1 := of_decide_eq_false h1
    refine IfB.mk (fun h2 => ?_) (fun h2 => ?_)
    · refine RetN.mk ⟨[], rfl, ?_, rfl⟩
      have := of_decide_eq_true h2
      show AV.int .i64 1 = AV.int .i64 (cmpI x y)
      simp [cmpI, h1, this]
    · refine RetN.mk ⟨[], rfl, ?_, rfl⟩
      have := of_decide_eq_false h2
      show AV.int .i64 0 = AV.int .i64 (cmpI x y)
      simp [cmpI, h1, this]
theorem find1_told (m : M) (y : Int) : Told P T side_find_1 [] [encM m, .int .i64 y] (.int .i64 (cmpI m.at' y)) [] := by
  refine told_of_ev (fn := side_find_1_fn) tabOk mixed (by kernel_rfl) (by kernel_rfl) (by kernel_rfl) (by kernel_rfl) ?_
  refine Choice.mk ⟨false, Choice.mk ⟨false, _, _, compare_told m.at' y, ?_⟩⟩
  exact RetN.mk ⟨[], rfl, rfl, rfl⟩

/-- Marks that rise. -/
def Rise (l : List M) : Prop := l.Pairwise fun a b => a.at' < b.at'
/-- How many begin below. -/
def low (y : Int) : List M → Nat
  | [] => 0
  | m :: l => if m.at' < y then low y l + 1 else 0
theorem low_le (y : Int) : ∀ l, low y l ≤ l.length
  | [] => Nat.le_refl _
  | m :: l => by
    have := low_le y l
    unfold low; split <;> simp <;> omega
theorem low_spec {y : Int} : ∀ {l : List M}, Rise l → ∀ k (h : k < l.length), (k < low y l ↔ (l[k]).at' < y)
  | [], _, k, h => by simp at h
  | m :: l, hr, k, h => by
    have hr' : Rise l := (List.pairwise_cons.1 hr).2
    have hm := (List.pairwise_cons.1 hr).1
    unfold low
    split
    · rename_i hlt
      cases k with
      | zero => simpa using hlt
      | succ k =>
        have := low_spec (y := y) hr' k (by simpa using h)
        simpa using this
    · rename_i hge
      constructor
      · intro h; omega
      · intro h2
        cases k with
        | zero => exact absurd h2 hge
        | succ k =>
          have hk : k < l.length := by simpa using h
          have := hm l[k] (List.getElem_mem hk)
          simp at h2; omega
def isAt (y : Int) (l : List M) : Bool := match l[low y l]? with
  | some m => m.at' == y
  | none => false

set_option maxHeartbeats 4000000 in
theorem bsearch_told (l : List M) (hr : Rise l) (y : Int) (hl : l.length ≤ 1000000) :
    Told P T slices_BinarySearchFunc_api_Mark_api_Mark_int [] [.lst t_api_Mark (l.map encM), .int .i64 y, .fn side_find_1 []] (.tup [.int .i64 (low y l : Nat), .bool (isAt y l)]) [] := by
  refine told_of_ev (fn := slices_BinarySearchFunc_api_Mark_api_Mark_int_fn) tabOk mixed (by kernel_rfl) (by kernel_rfl) (by kernel_rfl) (by kernel_rfl) ?_
  have hlow := low_le y l
  refine LoopN.mk ⟨[0, 1, 2, 8, 9, 10], fun vs L => ∃ i j : Nat, vs = [.lst t_api_Mark (l.map encM), .int .i64 y, .fn side_find_1 [], .int .i64 (l.map encM).length, .int .i64 (i : Nat), .int .i64 (j : Nat)] ∧ L = [] ∧ i ≤ low y l ∧ low y l ≤ j ∧ j ≤ l.length,
    fun vs L => match vs with | [_, _, _, _, .int _ i, .int _ j] => j.toNat - i.toNat | _ => 0, [], [], rfl, ⟨0, (l.map encM).length, rfl, rfl, Nat.zero_le _, by rw [List.length_map]; exact hlow, by rw [List.length_map]; exact Nat.le_refl _⟩, ?_⟩
  rintro vs L ⟨i, j, rfl, rfl, h1, h2, h3⟩
  refine IfB.mk (fun h4 => ?_) (fun h4 => ?_)
  · have hij : i < j := by have := of_decide_eq_true h4; omega
    refine fits (wrap64 (by omega) (by omega)) ?_
    refine Fits.mk ?_
    refine Need.mk (by decide) ?_
    refine Fits.mk ?_
    have eh : IntKind.i64.wrap ((IntKind.u64.wrap ((i : Int) + j)).fdiv (2 ^ min (Int.toNat 1) IntKind.u64.bits)) = (((i + j) / 2 : Nat) : Int) := by
      rw [IntKind.wrap_u64, show (2 : Int) ^ min (Int.toNat 1) IntKind.u64.bits = 2 from rfl, Int.fdiv_eq_ediv_of_nonneg _ (by omega), IntKind.wrap_i64]
      omega
    rw [eh]
    generalize hq : (i + j) / 2 = q
    have hqj : q < l.length := by omega
    refine Idx.mk ⟨encM l[q], by omega, by simp [hqj], ?_⟩
    refine Choice.mk ⟨false, Choice.mk ⟨false, _, _, find1_told l[q] y, ?_⟩⟩
    have hs := low_spec (y := y) hr q hqj
    refine IfB.mk (fun h5 => ?_) (fun h5 => ?_)
    · have hlt : (l[q]).at' < y := by
        have := of_decide_eq_true h5
        unfold cmpI at this
        split at this
        · assumption
        · split at this <;> omega
      refine fits (wrap64 (by omega) (by omega)) ?_
      refine ⟨[], [], rfl, ⟨q + 1, j, ?_, rfl, by have := hs.2 hlt; omega, h2, h3⟩, ?_⟩
      · rw [show (((q + 1 : Nat)) : Int) = ((q : Nat) : Int) + 1 by omega]; rfl
      · show ((j : Nat) : Int).toNat - (((q : Nat) : Int) + 1).toNat < ((j : Nat) : Int).toNat - ((i : Nat) : Int).toNat
        omega
    · have hge : ¬ (l[q]).at' < y := by
        intro hlt
        have := of_decide_eq_false h5
        simp [cmpI, hlt] at this
      refine ⟨[], [], rfl, ⟨i, q, rfl, rfl, h1, by have := fun h => hge (hs.1 h); omega, by omega⟩, ?_⟩
      show ((q : Nat) : Int).toNat - ((i : Nat) : Int).toNat < ((j : Nat) : Int).toNat - ((i : Nat) : Int).toNat
      omega
  · have hij : i = low y l := by have := of_decide_eq_false h4; omega
    subst hij
    refine IfB.mk (fun h5 => ?_) (fun h5 => ?_)
    · have hlt : low y l < l.length := by have := of_decide_eq_true h5; simp at this; omega
      repeat refine IfB.tt rfl ?_
      refine Idx.mk ⟨encM l[low y l], by omega, by simp [hlt], ?_⟩
      repeat refine IfB.tt rfl ?_
      refine Choice.mk ⟨false, Choice.mk ⟨false, _, _, find1_told _ y, ?_⟩⟩
      repeat refine IfB.tt rfl ?_
      refine RetN.mk ⟨[], rfl, ?_, rfl⟩
      show AV.tup [.int .i64 _, .bool (cmpI _ y == 0)] = AV.tup [.int .i64 _, .bool (isAt y l)]
      have : (cmpI (l[low y l]).at' y == 0) = isAt y l := by
        unfold isAt
        rw [List.getElem?_eq_getElem hlt]
        simp only [cmpI]
        split
        · rename_i h; simp; omega
        · split
          · rename_i h; simp; omega
          · simp; omega
      rw [this]
    · have hge : ¬ low y l < l.length := by have := of_decide_eq_false h5; simp at this; omega
      repeat refine IfB.ff rfl ?_
      refine RetN.mk ⟨[], rfl, ?_, rfl⟩
      show AV.tup [.int .i64 _, .bool false] = AV.tup [.int .i64 _, .bool (isAt y l)]
      have : isAt y l = false := by
        unfold isAt
        rw [List.getElem?_eq_none (by omega)]
      rw [this]
end Go.Ev.W
namespace Go.Ev.W
open Go.Ev Go.Ev.N

theorem find_told (l : List M) (hr : Rise l) (y : Int) (hl : l.length ≤ 1000000) :
    Told P T side_find [] [.lst t_api_Mark (l.map encM), .int .i64 y] (.tup [.int .i64 (low y l : Nat), .bool (isAt y l)]) [] := by
  refine told_of_ev (fn := side_find_fn) tabOk mixed (by kernel_rfl) (by kernel_rfl) (by kernel_rfl) (by kernel_rfl) ?_
  refine Choice.mk ⟨false, Choice.mk ⟨false, _, _, bsearch_told l hr y hl, ?_⟩⟩
  exact RetN.mk ⟨[], rfl, rfl, rfl⟩

def putM (l : List M) (m : M) : List M := if isAt m.at' l = true then l.set (low m.at' l) m else l.take (low m.at' l) ++ (m :: l.drop (low m.at' l))

theorem isAt_lt {y : Int} {l : List M} (h : isAt y l = true) : low y l < l.length := by
  unfold isAt at h
  split at h
  · rename_i m hm; exact (List.getElem?_eq_some_iff.1 hm).1
  · cases h

set_option maxHeartbeats 4000000 in
theorem put_told (l : List M) (hr : Rise l) (m : M) (hl : l.length ≤ 1000000) : Told P T side_Put [] [.lst t_api_Mark (l.map encM), encM m] (.ref 0) [.row t_api_Mark ((putM l m).map encM)] := by
  have hml : (l.map encM).length = l.length := by simp
  refine told_of_ev (fn := side_Put_fn) tabOk mixed (by kernel_rfl) (by kernel_rfl) (by kernel_rfl) (by kernel_rfl) ?_
  refine Choice.mk ⟨false, Choice.mk ⟨false, _, _, clone_Mark (l.map encM) (by omega), ?_⟩⟩
  refine Choice.mk ⟨false, Choice.mk ⟨false, _, _, find_told l hr m.at' hl, ?_⟩⟩
  refine IfB.mk (fun h1 => ?_) (fun h1 => ?_)
  · have hlt := isAt_lt h1
    refine InB.mk (by omega) (by omega) ?_
    refine RetN.mk ⟨[2], rfl, rfl, ?_⟩
    show [Blk.row t_api_Mark ((l.map encM).set (low m.at' l) (encM m))] = _
    rw [putM, if_pos h1, List.map_set]
  · have h1 : isAt m.at' l = false := h1
    have hi := insert_Mark (l.map encM) (encM m) (low m.at' l) (by rw [hml]; exact low_le _ _) (by omega)
    refine Choice.mk ⟨true, Choice.mk ⟨false, _, _, hi, ?_⟩⟩
    refine RetN.mk ⟨[4], rfl, rfl, ?_⟩
    show [Blk.row t_api_Mark ((l.map encM).take (low m.at' l) ++ (encM m :: (l.map encM).drop (low m.at' l)))] = _
    rw [putM, if_neg (by rw [h1]; decide)]
    simp [List.map_take, List.map_drop]

def takeM (l : List M) (y : Int) : List M := l.take (low y l) ++ l.drop (low y l + 1)
def clsM (l : List M) (y : Int) : Int := match l[low y l]? with | some m => m.cl | none => 0

set_option maxHeartbeats 4000000 in
theorem take_no (l : List M) (hr : Rise l) (y : Int) (hl : l.length ≤ 1000000) (h : isAt y l = false) : Told P T side_Take [] [.lst t_api_Mark (l.map encM), .int .i64 y] (.tup [.ref 0, .int .i64 0, .bool false]) [.row t_api_Mark (l.map encM)] := by
  have hml : (l.map encM).length = l.length := by simp
  refine told_of_ev (fn := side_Take_fn) tabOk mixed (by kernel_rfl) (by kernel_rfl) (by kernel_rfl) (by kernel_rfl) ?_
  refine Choice.mk ⟨false, Choice.mk ⟨false, _, _, clone_Mark (l.map encM) (by omega), ?_⟩⟩
  refine Choice.mk ⟨false, Choice.mk ⟨false, _, _, find_told l hr y hl, ?_⟩⟩
  refine IfB.tt (by rw [h]; rfl) ?_
  exact RetN.mk ⟨[1], rfl, rfl, rfl⟩
set_option maxHeartbeats 4000000 in
theorem take_yes (l : List M) (hr : Rise l) (y : Int) (hl : l.length ≤ 1000000) (h : isAt y l = true) : Told P T side_Take [] [.lst t_api_Mark (l.map encM), .int .i64 y] (.tup [.sub 0 0 (l.length - 1), .int .i64 (clsM l y), .bool true])
    [.row t_api_Mark ((takeM l y).map encM ++ [zeroE T t_api_Mark])] := by
  have hml : (l.map encM).length = l.length := by simp
  have hlt := isAt_lt h
  refine told_of_ev (fn := side_Take_fn) tabOk mixed (by kernel_rfl) (by kernel_rfl) (by kernel_rfl) (by kernel_rfl) ?_
  refine Choice.mk ⟨false, Choice.mk ⟨false, _, _, clone_Mark (l.map encM) (by omega), ?_⟩⟩
  refine Choice.mk ⟨false, Choice.mk ⟨false, _, _, find_told l hr y hl, ?_⟩⟩
  refine IfB.ff (by rw [h]; rfl) ?_
  refine fits (wrap64 (by omega) (by omega)) ?_
  refine Choice.mk ⟨true, Choice.mk ⟨false, _, _, delete_Mark (l.map encM) (low y l) (by omega) (by omega), ?_⟩⟩
  refine Idx.mk ⟨encM l[low y l], by omega, by simp [hlt], ?_⟩
  refine Sure.mk (by kernel_rfl) ?_
  refine RetN.mk ⟨[1], rfl, ?_, ?_⟩
  · show AV.tup [.sub 0 0 ((l.map encM).length - 1), .int .i64 (l[low y l]).cl, .bool true] = AV.tup [.sub 0 0 (l.length - 1), .int .i64 (clsM l y), .bool true]
    have : clsM l y = (l[low y l]).cl := by unfold clsM; rw [List.getElem?_eq_getElem hlt]
    rw [hml, this]
  · show [Blk.row t_api_Mark ((l.map encM).take (low y l) ++ ((l.map encM).drop (low y l + 1) ++ [zeroE T t_api_Mark]))] = _
    simp [takeM, List.map_take, List.map_drop]
end Go.Ev.W
namespace Go.Ev.W
open Go.Ev Go.Ev.N

theorem low_at {y : Int} {l : List M} (hr : Rise l) {k : Nat} (hk : k < l.length) : (l[k]).at' = y ↔ (k = low y l ∧ isAt y l = true) := by
  have hs := low_spec (y := y) hr
  constructor
  · intro e
    have h1 : ¬ k < low y l := fun h => by have := (hs k hk).1 h; omega
    have h2 : k = low y l := by
      rcases Nat.lt_or_ge (low y l) k with h | h
      · exfalso
        have h3 : low y l < l.length := by omega
        have h4 : ¬ (l[low y l]).at' < y := fun h5 => by have := (hs _ h3).2 h5; omega
        have h5 := List.pairwise_iff_getElem.1 hr (low y l) k h3 hk h
        omega
      · omega
    refine ⟨h2, ?_⟩
    subst h2
    unfold isAt
    rw [List.getElem?_eq_getElem hk]
    simpa using e
  · rintro ⟨rfl, h⟩
    unfold isAt at h
    rw [List.getElem?_eq_getElem hk] at h
    simpa using h

theorem isAt_get {y : Int} {l : List M} (h : isAt y l = true) : ∃ x, l[low y l]? = some x ∧ x.at' = y := by
  have hlt := isAt_lt h
  refine ⟨l[low y l], List.getElem?_eq_getElem hlt, ?_⟩
  unfold isAt at h
  rw [List.getElem?_eq_getElem hlt] at h
  simpa using h
end Go.Ev.W
namespace Go.Ev.W
open Go.Ev Go.Ev.N

theorem putM_len (l : List M) (m : M) : (putM l m).length ≤ l.length + 1 := by
  unfold putM
  split
  · simp
  · simp; have := low_le m.at' l; omega

theorem rise_put {l : List M} (hr : Rise l) (m : M) : Rise (putM l m) := by
  have hs := low_spec (y := m.at') hr
  have hle := low_le m.at' l
  have hr' := List.pairwise_iff_getElem.1 hr
  have low1 : ∀ a ∈ l.take (low m.at' l), a.at' < m.at' := by
    intro a ha
    obtain ⟨i, hi, rfl⟩ := List.mem_iff_getElem.1 ha
    rw [List.length_take] at hi
    rw [List.getElem_take]
    exact (hs i (by omega)).1 (by omega)
  have key : ∀ k', low m.at' l ≤ k' → (∀ b ∈ l.drop k', m.at' < b.at') → Rise (l.take (low m.at' l) ++ (m :: l.drop k')) := by
    intro k' hk hb
    refine List.pairwise_append.2 ⟨List.Pairwise.sublist (List.take_sublist _ _) hr, List.pairwise_cons.2 ⟨hb, List.Pairwise.sublist (List.drop_sublist _ _) hr⟩, ?_⟩
    intro a ha b hb'
    have h1 := low1 a ha
    rcases List.mem_cons.1 hb' with rfl | h2
    · exact h1
    · have := hb b h2; omega
  unfold putM
  split
  · rename_i h
    have hlt := isAt_lt h
    rw [List.set_eq_take_append_cons_drop, if_pos hlt]
    refine key _ (by omega) ?_
    intro b hb
    obtain ⟨i, hi, rfl⟩ := List.mem_iff_getElem.1 hb
    rw [List.length_drop] at hi
    rw [List.getElem_drop]
    have h1 := hr' (low m.at' l) (low m.at' l + 1 + i) hlt (by omega) (by omega)
    have h2 := (low_at (y := m.at') hr hlt).2 ⟨rfl, h⟩
    omega
  · rename_i h
    refine key _ (Nat.le_refl _) ?_
    intro b hb
    obtain ⟨i, hi, rfl⟩ := List.mem_iff_getElem.1 hb
    rw [List.length_drop] at hi
    rw [List.getElem_drop]
    have h3 : ¬ (l[low m.at' l + i]).at' < m.at' := fun h5 => by have := (hs _ (by omega)).2 h5; omega
    have h4 : ¬ (l[low m.at' l + i]).at' = m.at' := fun h5 => by have := (low_at hr (by omega)).1 h5; exact h this.2
    omega
end Go.Ev.W
