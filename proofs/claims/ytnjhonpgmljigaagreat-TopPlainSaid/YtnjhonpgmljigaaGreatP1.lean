/- Words and lemmas, part 1, for laws of this seat (a part of their proofs). -/
import Derived.Laws.Bits64
import Derived.Test.YtnjhonpgmljigaaGreatNm
import Derived.Test.YtnjhonpgmljigaaGreatEvOpen
import Derived.Test.YtnjhonpgmljigaaGreatEvLib
import Derived.Test.YtnjhonpgmljigaaGreatEvGrid
import Derived.Test.YtnjhonpgmljigaaGreatEvTrim
set_option linter.unusedVariables false
set_option linter.unusedSimpArgs false
namespace Go.Ev
theorem IfB.tt {b : Bool} {P R : Prop} (h : b = true) (p : P) : IfB b P R := ⟨fun _ => p, fun e => (by rw [h] at e; cases e)⟩
theorem IfB.ff {b : Bool} {P R : Prop} (h : b = false) (p : R) : IfB b P R := ⟨fun e => (by rw [h] at e; cases e), fun _ => p⟩
theorem IfB.dec {p : Prop} [Decidable p] {P R : Prop} (t : p → P) (f : ¬ p → R) : IfB (decide p) P R := ⟨fun h => t (of_decide_eq_true h), fun h => f (of_decide_eq_false h)⟩
theorem IfB.ne {a b : Int} {P R : Prop} (t : a ≠ b → P) (f : a = b → R) : IfB (a != b) P R := ⟨fun h => t (by simpa using h), fun h => f (by simpa using h)⟩
end Go.Ev
namespace Go.Ev.W
open Go.Ev Go.Ev.N
theorem fits {k : IntKind} {n : Int} {Q : Int → Prop} (h : k.wrap n = n) (q : Q n) : Fits k n Q := ⟨by rw [h]; exact q⟩
theorem wrap64 {n : Int} (h1 : -9223372036854775808 ≤ n) (h2 : n ≤ 9223372036854775807) : IntKind.i64.wrap n = n := by rw [IntKind.wrap_i64]; omega
theorem wrapU64 {n : Int} (h1 : 0 ≤ n) (h2 : n ≤ 18446744073709551615) : IntKind.u64.wrap n = n := by rw [IntKind.wrap_u64]; omega
theorem idx_map {α : Type} {f : α → AV} {l : List α} {k : Nat} {Q : AV → Prop} (h : k < l.length) (q : Q (f l[k])) : Idx (l.map f) ((k : Nat) : Int) Q := ⟨f l[k], by omega, by simp [h], q⟩
theorem idx_map' {α : Type} {f : α → AV} {l : List α} {i : Int} {Q : AV → Prop} (k : Nat) (e : i = k) (h : k < l.length) (q : Q (f l[k])) : Idx (l.map f) i Q := by subst e; exact idx_map h q
theorem at_map {α : Type} {f : α → AV} {l : List α} {k : Nat} {Q : AV → Prop} (h : k < l.length) (q : Q (f l[k])) : At (l.map f) k Q := ⟨f l[k], by simp [h], q⟩
abbrev i64 (n : Int) : AV := .int .i64 n
theorem ins_room {α : Type} (es : List α) (x J : α) (i : Nat) (hi : i < es.length) :
    List.take i (List.take (i + 1) (es ++ [J]) ++
      (List.take (min (List.take ((es ++ [J]).length - i) (List.drop i (es ++ [J]))).length ((es ++ [J]).length - (i + 1))) (List.take ((es ++ [J]).length - i) (List.drop i (es ++ [J]))) ++
       List.drop (i + 1 + min (List.take ((es ++ [J]).length - i) (List.drop i (es ++ [J]))).length ((es ++ [J]).length - (i + 1))) (es ++ [J]))) = es.take i ∧
    List.drop (i + 1) (List.take (i + 1) (es ++ [J]) ++
      (List.take (min (List.take ((es ++ [J]).length - i) (List.drop i (es ++ [J]))).length ((es ++ [J]).length - (i + 1))) (List.take ((es ++ [J]).length - i) (List.drop i (es ++ [J]))) ++
       List.drop (i + 1 + min (List.take ((es ++ [J]).length - i) (List.drop i (es ++ [J]))).length ((es ++ [J]).length - (i + 1))) (es ++ [J]))) = es.drop i ∧
    (List.take (i + 1) (es ++ [J]) ++
      (List.take (min (List.take ((es ++ [J]).length - i) (List.drop i (es ++ [J]))).length ((es ++ [J]).length - (i + 1))) (List.take ((es ++ [J]).length - i) (List.drop i (es ++ [J]))) ++
       List.drop (i + 1 + min (List.take ((es ++ [J]).length - i) (List.drop i (es ++ [J]))).length ((es ++ [J]).length - (i + 1))) (es ++ [J]))).length = es.length + 1 := by
  obtain ⟨a, b, rfl, rfl⟩ : ∃ a b, es = a ++ b ∧ i = a.length := ⟨es.take i, es.drop i, (List.take_append_drop ..).symm, by rw [List.length_take]; omega⟩
  cases b with
  | nil => simp at hi
  | cons y b =>
    have e1 : List.drop a.length (a ++ y :: b ++ [J]) = y :: (b ++ [J]) := by rw [List.append_assoc, List.drop_left]; rfl
    have e2 : (a ++ y :: b ++ [J]).length - a.length = b.length + 2 := by first | (simp; done) | (simp; omega)
    have e3 : (a ++ y :: b ++ [J]).length - (a.length + 1) = b.length + 1 := by first | (simp; done) | (simp; omega)
    have e4 : List.take (b.length + 2) (y :: (b ++ [J])) = y :: (b ++ [J]) := List.take_of_length_le (by simp)
    have e5 : (y :: (b ++ [J])).length = b.length + 2 := by simp
    have e6 : List.take (a.length + 1) (a ++ y :: b ++ [J]) = a ++ [y] := by
      rw [List.append_assoc, List.take_append, List.take_of_length_le (by omega), show a.length + 1 - a.length = 1 by omega]; rfl
    have e7 : List.take (b.length + 1) (y :: (b ++ [J])) = y :: b := by
      rw [List.take_succ_cons, List.take_left]
    have e8 : List.drop (a.length + 1 + (b.length + 1)) (a ++ y :: b ++ [J]) = [] := List.drop_eq_nil_of_le (by simp; omega)
    simp only [e1, e2, e3, e4, e5, e6, Nat.min_eq_right (show b.length + 1 ≤ b.length + 2 by omega), e7, e8, List.append_nil]
    refine ⟨?_, ?_, ?_⟩
    · rw [List.append_assoc, List.take_left, List.take_left]
    · rw [List.drop_left]
      rw [show a.length + 1 = (a ++ [y]).length by simp, List.drop_left]
    · simp; omega

end Go.Ev.W
namespace Go.Ev
open Go.Ev.W
/-- What is behind a step. -/
structure Held (B : Prop) : Prop where
  h : B
theorem gw {A B : Prop} (q : B) (h : Held B → A := by (intro q; ((repeat ((conv => whnf); first | (refine Sure.mk (by kernel_rfl) ?_) | (refine IfB.tt rfl ?_) | (refine IfB.ff rfl ?_) | (refine IfB.tt ?_ ?_; (focus (simp <;> fail))) | (refine IfB.ff ?_ ?_; (focus (simp <;> fail))) | (refine fits (wrap64 ?_ ?_) ?_; (focus omega); (focus omega)) | (refine fits (wrapU64 ?_ ?_) ?_; (focus omega); (focus omega)) | (refine Need.mk ?_ ?_; (focus omega)) | (refine InB.mk ?_ ?_ ?_; (focus omega); (focus omega)))); (try (conv => whnf))) ; exact q.h)) : A := h ⟨q⟩
end Go.Ev
namespace Go.Ev.X
open Go.Ev Go.Ev.N

theorem fits {k : IntKind} {n : Int} {Q : Int → Prop} (h : k.wrap n = n) (q : Q n) : Fits k n Q := ⟨by rw [h]; exact q⟩
theorem wrap64 {n : Int} (h1 : -9223372036854775808 ≤ n) (h2 : n ≤ 9223372036854775807) : IntKind.i64.wrap n = n := by rw [IntKind.wrap_i64]; omega

structure O where
  k : Int
  p : Int
  s : Int
  a : Int
  n : Int
  b : Int
  deriving DecidableEq

def encO (o : O) : AV := .agg [.int .i64 o.k, .int .i64 o.p, .int .i64 o.s, .int .i64 o.a, .int .i64 o.n, .int .u8 o.b]

end Go.Ev.X
namespace Go.Ev
end Go.Ev
namespace Go.Ev.X
open Go.Ev Go.Ev.N

def fieldsOf (k : Int) : List UInt8 :=
  if k = 1 then [83] else if k = 2 then [78, 83] else if k = 3 then [83, 65] else if k = 4 then [80, 83] else if k = 5 then [80] else if k = 6 then [80] else if k = 7 then [80, 78] else if k = 8 then [80, 78] else []

theorem fields_told (k : Int) : Told P T wire_fields [] [.int .i64 k] (.str ⟨(fieldsOf k).toArray⟩) [] := by
  refine told_of_ev (fn := wire_fields_fn) tabOk mixed (by kernel_rfl) (by kernel_rfl) (by kernel_rfl) (by kernel_rfl) ?_
  refine IfB.mk (fun h1 => ?_) (fun h1 => ?_)
  · refine RetN.mk ⟨[], rfl, ?_, rfl⟩
    simp only [beq_iff_eq] at h1; subst h1; rfl
  refine IfB.mk (fun h2 => ?_) (fun h2 => ?_)
  · refine RetN.mk ⟨[], rfl, ?_, rfl⟩
    simp only [beq_iff_eq] at h2; subst h2; rfl
  refine IfB.mk (fun h3 => ?_) (fun h3 => ?_)
  · refine RetN.mk ⟨[], rfl, ?_, rfl⟩
    simp only [beq_iff_eq] at h3; subst h3; rfl
  refine IfB.mk (fun h4 => ?_) (fun h4 => ?_)
  · refine RetN.mk ⟨[], rfl, ?_, rfl⟩
    simp only [beq_iff_eq] at h4; subst h4; rfl
  refine IfB.mk (fun h5 => ?_) (fun h5 => ?_)
  · refine IfB.tt h5 ?_
    refine RetN.mk ⟨[], rfl, ?_, rfl⟩
    simp only [beq_iff_eq] at h5; subst h5; rfl
  refine IfB.mk (fun h6 => ?_) (fun h6 => ?_)
  · refine RetN.mk ⟨[], rfl, ?_, rfl⟩
    simp only [beq_iff_eq] at h6; subst h6; rfl
  refine IfB.mk (fun h7 => ?_) (fun h7 => ?_)
  · refine IfB.tt h7 ?_
    refine RetN.mk ⟨[], rfl, ?_, rfl⟩
    simp only [beq_iff_eq] at h7; subst h7; rfl
  refine IfB.mk (fun h8 => ?_) (fun h8 => ?_)
  · refine RetN.mk ⟨[], rfl, ?_, rfl⟩
    simp only [beq_iff_eq] at h8; subst h8; rfl
  · refine RetN.mk ⟨[], rfl, ?_, rfl⟩
    show AV.str _ = AV.str _
    simp only [beq_eq_false_iff_ne, ne_eq] at h1 h2 h3 h4 h5 h6 h7 h8
    simp [fieldsOf, *]

/-- Which cell a letter names. -/
def cellOf (b : Int) : Nat := if b = 80 then 1 else if b = 83 then 2 else if b = 65 then 3 else 4

theorem field_told (o : O) (b : Int) : Told P T wire_field [.var (encO o)] [.ptr 0 0 0, .int .u8 b] (.ptr 0 0 (cellOf b)) [.var (encO o)] := by
  refine told_of_ev (fn := wire_field_fn) tabOk mixed (by kernel_rfl) (by kernel_rfl) (by kernel_rfl) (by kernel_rfl) ?_
  refine IfB.mk (fun h1 => ?_) (fun h1 => ?_)
  · refine RetN.mk ⟨[], rfl, ?_, rfl⟩
    simp only [beq_iff_eq] at h1; subst h1; rfl
  refine IfB.mk (fun h2 => ?_) (fun h2 => ?_)
  · refine RetN.mk ⟨[], rfl, ?_, rfl⟩
    simp only [beq_iff_eq] at h2; subst h2; rfl
  refine IfB.mk (fun h3 => ?_) (fun h3 => ?_)
  · refine RetN.mk ⟨[], rfl, ?_, rfl⟩
    simp only [beq_iff_eq] at h3; subst h3; rfl
  · refine RetN.mk ⟨[], rfl, ?_, rfl⟩
    show AV.ptr 0 0 4 = AV.ptr 0 0 _
    simp only [beq_eq_false_iff_ne, ne_eq] at h1 h2 h3
    simp [cellOf, *]

/-- A call's number. -/
def setO (o : O) (b : UInt8) (v : Int) : O := if b = 80 then { o with p := v } else if b = 83 then { o with s := v } else if b = 65 then { o with a := v } else { o with n := v }
def rd3 (a b c : Int) : Int := a * 65536 + b * 256 + c
def fillO : List UInt8 → List Int → O → O × Option (List Int)
  | [], bs, o => (o, some bs)
  | f :: fs, b0 :: b1 :: b2 :: bs, o => fillO fs bs (setO o f (rd3 b0 b1 b2))
  | _ :: _, _, o => (o, none)
def IsB (bs : List Int) : Prop := ∀ b ∈ bs, 0 ≤ b ∧ b < 256
def encB (bs : List Int) : List AV := bs.map fun b => .int .u8 b

/-- What stands behind a kind: the call, how many bytes, is it there? -/
def one (k : Int) (bs : List Int) : O × Nat × Bool :=
  match fillO (fieldsOf k) bs ⟨k, 0, 0, 0, 0, 0⟩ with
  | (o, .none) => (o, 0, false)
  | (o, some r) => if k ≠ 8 then (o, bs.length - r.length, true) else match r with
    | [] => (o, 0, false)
    | b :: _ => ({ o with b := b }, bs.length - r.length + 1, true)

theorem or_add (x y : Nat) (i : Nat) (hy : y < 2 ^ i) (hx : x * 2 ^ i + y < 9223372036854775808) : bitsOp .or .i64 ((x * 2 ^ i : Nat) : Int) (y : Int) = ((x * 2 ^ i + y : Nat) : Int) := by
  generalize hX : x * 2 ^ i = X at hx
  have h1 : X < 2 ^ 64 := by omega
  have h2 : y < 2 ^ 64 := by omega
  have e : (BitVec.ofInt 64 (X : Int) ||| BitVec.ofInt 64 (y : Int)).toNat = X + y := by
    rw [BitVec.toNat_or, BitVec.ofInt_natCast, BitVec.ofInt_natCast, BitVec.toNat_ofNat, BitVec.toNat_ofNat, Nat.mod_eq_of_lt h1, Nat.mod_eq_of_lt h2]
    rw [← hX, ← Nat.shiftLeft_eq, ← Nat.shiftLeft_add_eq_or_of_lt hy]
  show IntKind.i64.wrap ((BitVec.ofInt 64 (X : Int) ||| BitVec.ofInt 64 (y : Int)).toNat : Int) = _
  rw [e]
  exact wrap64 (by omega) (by omega)

theorem rd3_cast (x y z : Nat) : (((x * 256 + y) * 256 + z : Nat) : Int) = rd3 x y z := by
  simp only [rd3]
  omega
theorem rd3_or {a b c : Int} (ha : 0 ≤ a ∧ a < 256) (hb : 0 ≤ b ∧ b < 256) (hc : 0 ≤ c ∧ c < 256) : bitsOp .or .i64 (bitsOp .or .i64 (a * 65536) (b * 256)) c = rd3 a b c := by
  obtain ⟨x, rfl⟩ := Int.eq_ofNat_of_zero_le ha.1
  obtain ⟨y, rfl⟩ := Int.eq_ofNat_of_zero_le hb.1
  obtain ⟨z, rfl⟩ := Int.eq_ofNat_of_zero_le hc.1
  have h1 := or_add x (y * 256) 16 (by omega) (by omega)
  have e1 : ((x * 2 ^ 16 : Nat) : Int) = (x : Int) * 65536 := by simp
  have e2 : ((y * 256 : Nat) : Int) = (y : Int) * 256 := by simp
  rw [e1, e2] at h1
  rw [h1]
  have h2 := or_add (x * 256 + y) z 8 (by omega) (by omega)
  rw [show (2 : Nat) ^ 8 = 256 from rfl] at h2
  rw [show (2 : Nat) ^ 16 = 65536 from rfl]
  rw [show x * 65536 + y * 256 = (x * 256 + y) * 256 by omega, h2]
  exact rd3_cast x y z
end Go.Ev.X
namespace Go.Ev.X
open Go.Ev Go.Ev.N

/-- The letters, as bytes. -/
def encL (fs : List UInt8) : List AV := fs.map fun b => .int .u8 b.toNat

theorem fieldsOf_mem (k : Int) : ∀ f ∈ fieldsOf k, f = 80 ∨ f = 83 ∨ f = 65 ∨ f = 78 := by
  unfold fieldsOf
  repeat' split
  all_goals simp
theorem fieldsOf_len (k : Int) : (fieldsOf k).length ≤ 2 := by
  unfold fieldsOf
  repeat' split
  all_goals simp
theorem encL_len (fs : List UInt8) : (encL fs).length = fs.length := by simp [encL]

theorem fillO_step {fs : List UInt8} {bs : List Int} {o : O} {i : Nat} (hi : i < fs.length) (h3 : 3 * i + 3 ≤ bs.length) :
    fillO (fs.drop i) (bs.drop (3 * i)) o = fillO (fs.drop (i + 1)) (bs.drop (3 * (i + 1))) (setO o fs[i] (rd3 (bs[3 * i]'(by omega)) (bs[3 * i + 1]'(by omega)) (bs[3 * i + 2]'(by omega)))) := by
  rw [List.drop_eq_getElem_cons hi, List.drop_eq_getElem_cons (show 3 * i < bs.length by omega), List.drop_eq_getElem_cons (show 3 * i + 1 < bs.length by omega), List.drop_eq_getElem_cons (show 3 * i + 1 + 1 < bs.length by omega)]
  rfl
theorem fillO_short {fs : List UInt8} {bs : List Int} {o : O} {i : Nat} (hi : i < fs.length) (h3 : ¬ 3 * i + 3 ≤ bs.length) : fillO (fs.drop i) (bs.drop (3 * i)) o = (o, .none) := by
  rw [List.drop_eq_getElem_cons hi]
  have hl : (bs.drop (3 * i)).length < 3 := by simp; omega
  match bs.drop (3 * i), hl with
  | [], _ => rfl
  | [_], _ => rfl
  | [_, _], _ => rfl
  | _ :: _ :: _ :: _, h => simp at h; omega

theorem wrap16 {b : Int} (hb : 0 ≤ b ∧ b < 256) : IntKind.i64.wrap b = b := wrap64 (by omega) (by omega)

theorem fits' {k : IntKind} {n m : Int} {Q : Int → Prop} (h : k.wrap n = n) (e : n = m) (q : Q m) : Fits k n Q := ⟨by rw [h, e]; exact q⟩

set_option maxHeartbeats 4000000 in
theorem one_told (k : Int) (bs : List Int) (hb : IsB bs) (hl : bs.length ≤ 1000000) :
    Told P T wire_one [] [.int .i64 k, .lst t_uint8 (encB bs)] (.tup [encO (one k bs).1, .int .i64 ((one k bs).2.1 : Nat), .bool (one k bs).2.2]) [] := by
  have hbl : (encB bs).length = bs.length := by simp [encB]
  have at' : ∀ i (h : i < bs.length), (encB bs)[i]? = some (.int .u8 bs[i]) := fun i h => by simp [encB, h]
  refine told_of_ev (fn := wire_one_fn) tabOk mixed (by kernel_rfl) (by kernel_rfl) (by kernel_rfl) (by kernel_rfl) ?_
  refine Choice.mk ⟨false, Choice.mk ⟨true, _, _, fields_told k, ?_⟩⟩
  refine Room.mk (Nat.le_trans (fieldsOf_len k) (by decide)) ?_
  refine LoopN.mk ⟨[0, 1, 4, 5, 13, 14, 15], fun vs L => ∃ (i : Nat) (o : O), vs = [.int .i64 k, .lst t_uint8 (encB bs), .ptr 0 0 0, .int .i64 ((3 * i : Nat) : Int), .ref 1, .int .i64 (encL (fieldsOf k)).length, .int .i64 (i : Nat)] ∧ L = [.var (encO o), .row t_uint8 (encL (fieldsOf k))] ∧
      i ≤ (fieldsOf k).length ∧ 3 * i ≤ bs.length ∧ fillO (fieldsOf k) bs ⟨k, 0, 0, 0, 0, 0⟩ = fillO ((fieldsOf k).drop i) (bs.drop (3 * i)) o,
    fun vs L => match vs with | [_, _, _, _, _, _, .int _ i] => (fieldsOf k).length - i.toNat | _ => 0, [], [0, 1], rfl, ⟨0, ⟨k, 0, 0, 0, 0, 0⟩, rfl, rfl, Nat.zero_le _, Nat.zero_le _, rfl⟩, ?_⟩
  rintro vs L ⟨i, o, rfl, rfl, hi, h3, hf⟩
  refine IfB.mk (fun h1 => ?_) (fun h1 => ?_)
  · have hlt : i < (fieldsOf k).length := by simpa [encL_len] using h1
    have hl2 := fieldsOf_len k
    obtain ⟨f, hff, hfm⟩ : ∃ f, (fieldsOf k)[i] = f ∧ (f = 80 ∨ f = 83 ∨ f = 65 ∨ f = 78) := ⟨_, rfl, fieldsOf_mem k _ (List.getElem_mem hlt)⟩
    refine InB.mk (by omega) (by rw [encL_len]; omega) ?_
    refine At.mk ⟨.int .u8 f.toNat, by simp [encL, hlt, hff], ?_⟩
    refine fits (wrap64 (by rw [hbl]; omega) (by rw [hbl]; omega)) ?_
    refine IfB.mk (fun h2 => ?_) (fun h2 => ?_)
    · refine RetN.mk ⟨[], rfl, ?_, rfl⟩
      have h4 : ¬ 3 * i + 3 ≤ bs.length := by
        have := of_decide_eq_true h2; rw [hbl] at this; omega
      have : one k bs = (o, 0, false) := by unfold one; rw [hf, fillO_short hlt h4]
      rw [this]; rfl
    · have h4 : 3 * i + 3 ≤ bs.length := by
        have := of_decide_eq_false h2; rw [hbl] at this; omega
      have b0 := hb _ (List.getElem_mem (show 3 * i < bs.length by omega))
      have b1 := hb _ (List.getElem_mem (show 3 * i + 1 < bs.length by omega))
      have b2 := hb _ (List.getElem_mem (show 3 * i + 2 < bs.length by omega))
      have step := fillO_step (o := o) hlt h4
      have hor := rd3_or b0 b1 b2
      rcases hfm with rfl | rfl | rfl | rfl
      all_goals
        refine Choice.mk ⟨true, Choice.mk ⟨false, _, _, field_told o _, ?_⟩⟩
        refine Idx.mk ⟨_, by omega, at' (3 * i) (by omega), ?_⟩
        refine fits (wrap16 b0) ?_
        refine Need.mk (by decide) ?_
        refine fits' (m := bs[3 * i] * 65536) (wrap64 (by simp [IntKind.bits]; omega) (by simp [IntKind.bits]; omega)) (by simp [IntKind.bits]) ?_
        refine fits (wrap64 (by omega) (by omega)) ?_
        refine Idx.mk ⟨_, by omega, at' (3 * i + 1) (by omega), ?_⟩
        refine fits (wrap16 b1) ?_
        refine Need.mk (by decide) ?_
        refine fits' (m := bs[3 * i + 1] * 256) (wrap64 (by simp [IntKind.bits]; omega) (by simp [IntKind.bits]; omega)) (by simp [IntKind.bits]) ?_
        refine fits (wrap64 (by omega) (by omega)) ?_
        refine Idx.mk ⟨_, by omega, at' (3 * i + 2) (by omega), ?_⟩
        refine fits (wrap16 b2) ?_
        refine Sure.mk (by kernel_rfl) ?_
        rw [hor]
        refine fits (wrap64 (by omega) (by omega)) ?_
        refine fits (wrap64 (by omega) (by omega)) ?_
        refine ⟨[], [0, 1], rfl, ⟨i + 1, setO o (fieldsOf k)[i] (rd3 bs[3 * i] bs[3 * i + 1] bs[3 * i + 2]), ?_, ?_, hlt, by omega, hf.trans step⟩, ?_⟩
        · rw [show (((3 * (i + 1) : Nat)) : Int) = ((3 * i : Nat) : Int) + 3 by omega, show (((i + 1 : Nat)) : Int) = ((i : Nat) : Int) + 1 by omega]
          rfl
        · rw [hff]; rfl
        · show (fieldsOf k).length - (((i : Nat) : Int) + 1).toNat < (fieldsOf k).length - ((i : Nat) : Int).toNat
          omega
  · have hge : i = (fieldsOf k).length := by
      have : ¬ i < (fieldsOf k).length := by simpa [encL_len] using h1
      omega
    have hfin : fillO (fieldsOf k) bs ⟨k, 0, 0, 0, 0, 0⟩ = (o, some (bs.drop (3 * i))) := by
      rw [hf, hge, List.drop_length]; rfl
    have hrest : bs.length - (bs.drop (3 * i)).length = 3 * i := by simp; omega
    refine IfB.mk (fun h5 => ?_) (fun h5 => ?_)
    · refine RetN.mk ⟨[], rfl, ?_, rfl⟩
      have hk : k ≠ 8 := by simpa using h5
      have : one k bs = (o, 3 * i, true) := by unfold one; rw [hfin]; simp only [if_pos hk, hrest]
      rw [this]; rfl
    · have hk : k = 8 := by simpa using h5
      refine IfB.mk (fun h6 => ?_) (fun h6 => ?_)
      · refine RetN.mk ⟨[], rfl, ?_, rfl⟩
        have h7 : bs.length ≤ 3 * i := by have := of_decide_eq_true h6; rw [hbl] at this; omega
        have : one k bs = (o, 0, false) := by
          unfold one; rw [hfin]
          simp only [ne_eq, hk, not_true, if_false, List.drop_eq_nil_of_le h7]
        rw [this]; rfl
      · have h7 : 3 * i < bs.length := by have := of_decide_eq_false h6; rw [hbl] at this; omega
        refine Idx.mk ⟨_, by omega, at' (3 * i) h7, ?_⟩
        refine fits (wrap64 (by omega) (by omega)) ?_
        refine RetN.mk ⟨[], rfl, ?_, rfl⟩
        have : one k bs = ({ o with b := bs[3 * i] }, 3 * i + 1, true) := by
          unfold one; rw [hfin]
          simp only [ne_eq, hk, not_true, if_false, List.drop_eq_getElem_cons h7]
          rw [← List.drop_eq_getElem_cons h7, hrest]
        rw [this]
        show AV.tup [_, .int .i64 (((3 * i : Nat) : Int) + 1), _] = AV.tup [_, .int .i64 ((3 * i + 1 : Nat) : Int), _]
        rw [show ((3 * i + 1 : Nat) : Int) = ((3 * i : Nat) : Int) + 1 by omega]
        rfl
end Go.Ev.X
namespace Go.Ev.X
open Go.Ev Go.Ev.N

def takeF : Nat → List Int → List O
  | 0, _ => []
  | _ + 1, [] => []
  | f + 1, b :: bs => if b % 11 = 0 then takeF f bs else match one (b % 11) bs with
    | (o, n, true) => o :: takeF f (bs.drop n)
    | (_, _, false) => []
def take (bs : List Int) : List O := takeF bs.length bs

theorem takeF_more : ∀ (f : Nat) (bs : List Int), bs.length ≤ f → takeF f bs = take bs := by
  intro f
  induction f using Nat.strongRecOn with
  | _ f ih =>
    intro bs hf
    cases bs with
    | nil => cases f <;> rfl
    | cons b bs =>
      cases f with
      | zero => simp at hf
      | succ f =>
        simp only [List.length_cons] at hf
        have e : ∀ m, m ≤ bs.length → takeF f (bs.drop m) = takeF bs.length (bs.drop m) := fun m hm => by
          rw [ih f (by omega) _ (by simp; omega)]
          rcases Nat.lt_or_ge bs.length (f + 1) with h | h
          · exact (ih bs.length (by omega) _ (by simp)).symm
          · omega
        have e0 := e 0 (Nat.zero_le _)
        simp only [List.drop_zero] at e0
        unfold take
        simp only [List.length_cons, takeF]
        rw [e0]
        split
        · rfl
        · split
          · rename_i o n _
            rcases Nat.lt_or_ge bs.length n with h | h
            · rw [List.drop_eq_nil_of_le (by omega)]; cases f <;> cases bs.length <;> rfl
            · rw [e n h]
          · rfl

theorem take_nil : take [] = [] := rfl
theorem take_cons (b : Int) (bs : List Int) : take (b :: bs) = if b % 11 = 0 then take bs else match one (b % 11) bs with
    | (o, n, true) => o :: take (bs.drop n)
    | (_, _, false) => [] := by
  show takeF (bs.length + 1) (b :: bs) = _
  simp only [takeF]
  split
  · rfl
  · split
    · rename_i o n _
      rw [takeF_more _ _ (by simp)]
    · rfl
end Go.Ev.X
namespace Go.Ev.X
open Go.Ev Go.Ev.N

theorem IsB.tail {b : Int} {bs : List Int} (h : IsB (b :: bs)) : IsB bs := fun x hx => h x (by simp [hx])
theorem IsB.drop {bs : List Int} (h : IsB bs) (n : Nat) : IsB (bs.drop n) := fun x hx => h x (List.mem_of_mem_drop hx)
theorem encB_drop (bs : List Int) (n : Nat) : (encB bs).drop n = encB (bs.drop n) := by simp [encB, List.map_drop]

theorem fillO_len : ∀ (fs : List UInt8) (bs : List Int) (o o' : O) (r : List Int), fillO fs bs o = (o', some r) → r.length ≤ bs.length
  | [], bs, o, o', r, h => by simp [fillO] at h; rw [h.2]; exact Nat.le_refl _
  | f :: fs, [], o, o', r, h => by simp [fillO] at h
  | f :: fs, [_], o, o', r, h => by simp [fillO] at h
  | f :: fs, [_, _], o, o', r, h => by simp [fillO] at h
  | f :: fs, _ :: _ :: _ :: bs, o, o', r, h => by
    have := fillO_len fs bs _ o' r h
    simp only [List.length_cons]; omega
theorem one_len (k : Int) (bs : List Int) : (one k bs).2.1 ≤ bs.length := by
  unfold one
  split
  · exact Nat.zero_le _
  · rename_i o r h
    have := fillO_len _ _ _ _ _ h
    split
    · exact Nat.sub_le _ _
    · split
      · exact Nat.zero_le _
      · simp only [List.length_cons] at this ⊢; omega

set_option maxHeartbeats 4000000 in
theorem take_told (bs : List Int) (hb : IsB bs) (hl : bs.length ≤ 1000000) : Told P T wire_Take [] [.lst t_uint8 (encB bs)] (.ref 0) [.row t_api_Op ((take bs).map encO)] := by
  refine told_of_ev (fn := wire_Take_fn) tabOk mixed (by kernel_rfl) (by kernel_rfl) (by kernel_rfl) (by kernel_rfl) ?_
  refine LoopN.mk ⟨[0, 2], fun vs L => ∃ (r : List Int) (acc : List O), vs = [.lst t_uint8 (encB r), .ref 0] ∧ L = [.row t_api_Op (acc.map encO)] ∧ IsB r ∧ r.length ≤ 1000000 ∧ acc.length + r.length ≤ bs.length ∧ take bs = acc ++ take r,
    fun vs L => match vs with | [.lst _ es, _] => es.length | _ => 0, [], [0], rfl, ⟨bs, [], rfl, rfl, hb, hl, by simp, rfl⟩, ?_⟩
  rintro vs L ⟨r, acc, rfl, rfl, hr, hrl, hacc, ht⟩
  refine IfB.mk (fun h1 => ?_) (fun h1 => ?_)
  · cases r with
    | nil => simp [encB] at h1
    | cons b r =>
      have hb0 := hr b (by simp)
      refine Idx.mk ⟨.int .u8 b, by omega, rfl, ?_⟩
      refine fits (wrap16 hb0) ?_
      refine Need.mk (by decide) ?_
      refine Cut.mk (by decide) (by simp [encB]; omega) (Int.le_refl _) ?_
      have hrem : b.tmod 11 = b % 11 := Int.tmod_eq_emod_of_nonneg hb0.1
      refine IfB.mk (fun h2 => ?_) (fun h2 => ?_)
      · have h0 : b % 11 = 0 := by rw [← hrem]; simpa using h2
        refine ⟨[], [0], rfl, ⟨r, acc, rfl, rfl, hr.tail, by simp at hrl; omega, by simp at hacc; omega, by rw [ht, take_cons, if_pos h0]⟩, ?_⟩
        show (encB r).length < (encB (b :: r)).length
        simp [encB]
      · have h0 : ¬ b % 11 = 0 := by rw [← hrem]; simpa using h2
        refine Choice.mk ⟨false, Choice.mk ⟨true, _, _, one_told (b.tmod 11) r hr.tail (by simp at hrl; omega), ?_⟩⟩
        have hlen := one_len (b.tmod 11) r
        have htake : take (b :: r) = match one (b.tmod 11) r with
            | (o, n, true) => o :: take (r.drop n)
            | (_, _, false) => [] := by
          rw [take_cons, if_neg h0, hrem] <;> (rcases one (b % 11) r with ⟨o, n, ok⟩; cases ok <;> rfl)
        revert hlen htake
        generalize one (b.tmod 11) r = q
        obtain ⟨o, n, ok⟩ := q
        intro hlen htake
        refine IfB.mk (fun h3 => ?_) (fun h3 => ?_)
        · have : ok = false := by simpa using h3
          subst this
          refine RetN.mk ⟨[0], rfl, rfl, ?_⟩
          show [Blk.row t_api_Op (acc.map encO)] = _
          rw [ht, htake]; simp
        · have : ok = true := by simpa using h3
          subst this
          simp only at hlen htake
          refine Room.mk (by simp; simp at hacc; omega) ?_
          refine Cut.mk (by omega) (by simp [encB]; omega) (Int.le_refl _) ?_
          refine Sure.mk (by kernel_rfl) ?_
          refine ⟨[], [3], rfl, ⟨r.drop n, acc ++ [o], ?_, ?_, hr.tail.drop n, by simp at hrl ⊢; omega, by simp at hacc ⊢; omega, by rw [ht, htake]; simp⟩, ?_⟩
          · rw [← encB_drop]; rfl
          · rw [show (acc ++ [o]).map encO = acc.map encO ++ [encO o] by simp]; rfl
          · show ((encB r).drop n).length < (encB (b :: r)).length
            simp [encB]; omega
  · have hr0 : r = [] := by
      cases r with
      | nil => rfl
      | cons b r => simp [encB] at h1
    subst hr0
    refine RetN.mk ⟨[0], rfl, rfl, ?_⟩
    show [Blk.row t_api_Op (acc.map encO)] = _
    rw [ht, take_nil, List.append_nil]
end Go.Ev.X
namespace Go.Ev.X
open Go.Ev Go.Ev.N

def getO (o : O) (b : UInt8) : Int := if b = 80 then o.p else if b = 83 then o.s else if b = 65 then o.a else o.n
def w8 (v : Int) : Int := IntKind.u8.wrap v
def three (v : Int) : List Int := [w8 (v.fdiv (2 ^ min (Int.toNat 16) IntKind.i64.bits)), w8 (v.fdiv (2 ^ min (Int.toNat 8) IntKind.i64.bits)), w8 v]
def putO (o : O) : List Int := w8 o.k :: ((fieldsOf o.k).flatMap fun f => three (getO o f)) ++ (if o.k = 8 then [o.b] else [])

theorem encB_app (a b : List Int) : encB (a ++ b) = encB a ++ encB b := by simp [encB]

set_option maxHeartbeats 8000000 in
theorem put_told (o : O) : Told P T wire_put [] [encO o] (.ref 0) [.row t_uint8 (encB (putO o))] := by
  refine told_of_ev (fn := wire_put_fn) tabOk mixed (by kernel_rfl) (by kernel_rfl) (by kernel_rfl) (by kernel_rfl) ?_
  refine Fits.mk ?_
  refine Choice.mk ⟨false, Choice.mk ⟨true, _, _, fields_told o.k, ?_⟩⟩
  refine Room.mk (Nat.le_trans (fieldsOf_len o.k) (by decide)) ?_
  refine LoopN.mk ⟨[1, 3, 14, 15, 16], fun vs L => ∃ (i : Nat) (bs : List Int), vs = [.ptr 0 0 0, .ref 1, .ref 2, .int .i64 (encL (fieldsOf o.k)).length, .int .i64 (i : Nat)] ∧ L = [.var (encO o), .row t_uint8 (encB bs), .row t_uint8 (encL (fieldsOf o.k))] ∧
      i ≤ (fieldsOf o.k).length ∧ bs = w8 o.k :: ((fieldsOf o.k).take i).flatMap fun f => three (getO o f),
    fun vs L => match vs with | [_, _, _, _, .int _ i] => (fieldsOf o.k).length - i.toNat | _ => 0, [], [0, 2, 3], rfl, ⟨0, [w8 o.k], rfl, rfl, Nat.zero_le _, rfl⟩, ?_⟩
  rintro vs L ⟨i, bs, rfl, rfl, hi, hbs⟩
  have hl2 := fieldsOf_len o.k
  have hbl : bs.length ≤ 100 := by
    rw [hbs]
    have : ((fieldsOf o.k).take i).length ≤ 2 := by simp; omega
    match (fieldsOf o.k).take i, this with
    | [], _ => simp
    | [_], _ => simp [three]
    | [_, _], _ => simp [three]
  refine IfB.mk (fun h1 => ?_) (fun h1 => ?_)
  · have hlt : i < (fieldsOf o.k).length := by simpa [encL_len] using h1
    obtain ⟨f, hff, hfm⟩ : ∃ f, (fieldsOf o.k)[i] = f ∧ (f = 80 ∨ f = 83 ∨ f = 65 ∨ f = 78) := ⟨_, rfl, fieldsOf_mem o.k _ (List.getElem_mem hlt)⟩
    refine InB.mk (by omega) (by rw [encL_len]; omega) ?_
    refine At.mk ⟨.int .u8 f.toNat, by simp [encL, hlt, hff], ?_⟩
    rcases hfm with rfl | rfl | rfl | rfl
    all_goals
      refine Choice.mk ⟨true, Choice.mk ⟨false, _, _, field_told o _, ?_⟩⟩
      refine Need.mk (by decide) ?_
      refine Fits.mk ?_
      refine Need.mk (by decide) ?_
      refine Fits.mk ?_
      refine Fits.mk ?_
      refine Room.mk (by simp [encB]; omega) ?_
      refine fits (wrap64 (by omega) (by omega)) ?_
      refine ⟨[], [0, 4, 2], rfl, ⟨i + 1, bs ++ three (getO o (fieldsOf o.k)[i]), ?_, ?_, hlt, ?_⟩, ?_⟩
      · rw [show (((i + 1 : Nat)) : Int) = ((i : Nat) : Int) + 1 by omega]
        rfl
      · rw [encB_app, hff]; rfl
      · rw [hbs, List.take_succ_eq_append_getElem hlt, List.flatMap_append, List.flatMap_cons, List.flatMap_nil, List.append_nil, List.cons_append]
      · show (fieldsOf o.k).length - (((i : Nat) : Int) + 1).toNat < (fieldsOf o.k).length - ((i : Nat) : Int).toNat
        omega
  · have hge : i = (fieldsOf o.k).length := by
      have : ¬ i < (fieldsOf o.k).length := by simpa [encL_len] using h1
      omega
    rw [hge, List.take_length] at hbs
    refine IfB.mk (fun h2 => ?_) (fun h2 => ?_)
    · refine Room.mk (by simp [encB]; omega) ?_
      refine RetN.mk ⟨[4], rfl, rfl, ?_⟩
      have hk : o.k = 8 := by simpa using h2
      have : putO o = bs ++ [o.b] := by unfold putO; rw [if_pos hk, hbs]
      rw [this, encB_app]; rfl
    · refine RetN.mk ⟨[1], rfl, rfl, ?_⟩
      have hk : ¬ o.k = 8 := by simpa using h2
      have : putO o = bs := by unfold putO; rw [if_neg hk, hbs, List.append_nil]
      rw [this]; rfl
end Go.Ev.X
namespace Go.Ev.X
open Go.Ev Go.Ev.N

def IsO (o : O) : Prop := 0 ≤ o.b ∧ o.b < 256
def putAll (l : List O) : List Int := l.flatMap fun o => if take (putO o) = [o] then putO o else []

theorem w8_range (v : Int) : 0 ≤ w8 v ∧ w8 v < 256 := by
  unfold w8
  rw [IntKind.wrap_u8]
  omega
theorem isB_three (v : Int) : IsB (three v) := by
  intro b hb
  simp only [three, List.mem_cons, List.not_mem_nil, or_false] at hb
  rcases hb with rfl | rfl | rfl <;> exact w8_range _
theorem isB_put {o : O} (h : IsO o) : IsB (putO o) := by
  intro b hb
  unfold putO at hb
  simp only [List.cons_append, List.mem_cons, List.mem_append, List.mem_flatMap] at hb
  rcases hb with rfl | ⟨f, _, hb⟩ | hb
  · exact w8_range _
  · exact isB_three _ b hb
  · split at hb
    · simp at hb; subst hb; exact h
    · simp at hb
theorem put_len (o : O) : (putO o).length ≤ 8 := by
  unfold putO
  have := fieldsOf_len o.k
  have h2 : ((fieldsOf o.k).flatMap fun f => three (getO o f)).length ≤ 6 := by
    match fieldsOf o.k, this with
    | [], _ => simp
    | [_], _ => simp [three]
    | [_, _], _ => simp [three]
  have h3 : (if o.k = 8 then [o.b] else []).length ≤ 1 := by split <;> simp
  rw [List.length_append, List.length_cons]
  omega
theorem encO_inj {x y : O} (h : (((x.k == y.k) && ((x.p == y.p) && ((x.s == y.s) && ((x.a == y.a) && ((x.n == y.n) && ((x.b == y.b) && true))))))) = true) : x = y := by
  cases x; cases y; simp at h ⊢; exact h

set_option maxHeartbeats 8000000 in
theorem putAll_told (l : List O) (hO : ∀ o ∈ l, IsO o) (hl : l.length ≤ 1000000) : Told P T wire_Put [] [.lst t_api_Op (l.map encO)] (.ref 0) [.row t_uint8 (encB (putAll l))] := by
  have hll : (l.map encO).length = l.length := by simp
  refine told_of_ev (fn := wire_Put_fn) tabOk mixed (by kernel_rfl) (by kernel_rfl) (by kernel_rfl) (by kernel_rfl) ?_
  refine LoopN.mk ⟨[2, 7, 8, 9], fun vs L => ∃ i : Nat, vs = [.ref 0, .lst t_api_Op (l.map encO), .int .i64 (l.map encO).length, .int .i64 (i : Nat)] ∧ L = [.row t_uint8 (encB (putAll (l.take i)))] ∧ i ≤ l.length ∧ (putAll (l.take i)).length ≤ 8 * i,
    fun vs L => match vs with | [_, _, _, .int _ i] => l.length - i.toNat | _ => 0, [], [0], rfl, ⟨0, rfl, rfl, Nat.zero_le _, Nat.zero_le _⟩, ?_⟩
  rintro vs L ⟨i, rfl, rfl, hi, hlen⟩
  refine IfB.mk (fun h1 => ?_) (fun h1 => ?_)
  · have hlt : i < l.length := by simpa using h1
    have ho : IsO l[i] := hO _ (List.getElem_mem hlt)
    have hsucc : putAll (l.take (i + 1)) = putAll (l.take i) ++ (if take (putO l[i]) = [l[i]] then putO l[i] else []) := by
      unfold putAll
      rw [List.take_succ_eq_append_getElem hlt, List.flatMap_append, List.flatMap_cons, List.flatMap_nil, List.append_nil]
    have hpl := put_len l[i]
    refine Idx.mk ⟨encO l[i], by omega, by simp [hlt], ?_⟩
    refine Choice.mk ⟨false, Choice.mk ⟨false, _, _, put_told l[i], ?_⟩⟩
    refine Choice.mk ⟨false, Choice.mk ⟨false, _, _, take_told (putO l[i]) (isB_put ho) (by omega), ?_⟩⟩
    refine IfB.mk (fun h2 => ?_) (fun h2 => ?_)
    · have h3 : (take (putO l[i])).length = 1 := by simp at h2; omega
      obtain ⟨x, hx⟩ : ∃ x, take (putO l[i]) = [x] := by
        match take (putO l[i]), h3 with
        | [x], _ => exact ⟨x, rfl⟩
      rw [hx] at hsucc
      rw [hx]
      refine IfB.tt rfl ?_
      refine InB.mk (Int.le_refl _) (by show (0 : Int) < 1; decide) ?_
      refine IfB.tt rfl ?_
      refine At.mk ⟨encO x, rfl, ?_⟩
      refine IfB.tt rfl ?_
      refine IfB.tt rfl ?_
      refine Sure.mk (by kernel_rfl) ?_
      refine IfB.mk (fun h4 => ?_) (fun h4 => ?_)
      · have hxe : x = l[i] := encO_inj (by simpa using h4)
        rw [if_pos (by rw [hxe])] at hsucc
        refine Room.mk (by simp [encB]; omega) ?_
        refine fits (wrap64 (by omega) (by omega)) ?_
        refine ⟨[], [4], rfl, ⟨i + 1, ?_, ?_, hlt, by rw [hsucc, List.length_append]; omega⟩, ?_⟩
        · rw [show (((i + 1 : Nat)) : Int) = ((i : Nat) : Int) + 1 by omega]; rfl
        · rw [hsucc, encB_app]; rfl
        · show l.length - (((i : Nat) : Int) + 1).toNat < l.length - ((i : Nat) : Int).toNat
          omega
      · have hxe : ¬ [x] = [l[i]] := by
          intro e; simp at e; subst e; simp at h4
        rw [if_neg hxe, List.append_nil] at hsucc
        refine fits (wrap64 (by omega) (by omega)) ?_
        refine ⟨[], [0], rfl, ⟨i + 1, ?_, ?_, hlt, by rw [hsucc]; omega⟩, ?_⟩
        · rw [show (((i + 1 : Nat)) : Int) = ((i : Nat) : Int) + 1 by omega]; rfl
        · rw [hsucc]; rfl
        · show l.length - (((i : Nat) : Int) + 1).toNat < l.length - ((i : Nat) : Int).toNat
          omega
    · have h3 : ¬ take (putO l[i]) = [l[i]] := by
        intro e; rw [e] at h2; simp at h2
      rw [if_neg h3, List.append_nil] at hsucc
      rw [h2]
      refine IfB.ff rfl ?_
      refine IfB.ff rfl ?_
      refine IfB.ff rfl ?_
      refine IfB.ff rfl ?_
      refine Sure.mk (by kernel_rfl) ?_
      refine IfB.ff rfl ?_
      refine fits (wrap64 (by omega) (by omega)) ?_
      refine ⟨[], [0], rfl, ⟨i + 1, ?_, ?_, hlt, by rw [hsucc]; omega⟩, ?_⟩
      · rw [show (((i + 1 : Nat)) : Int) = ((i : Nat) : Int) + 1 by omega]; rfl
      · rw [hsucc]; rfl
      · show l.length - (((i : Nat) : Int) + 1).toNat < l.length - ((i : Nat) : Int).toNat
        omega
  · have hge : i = l.length := by
      have : ¬ i < l.length := by simpa using h1
      omega
    subst hge
    refine RetN.mk ⟨[0], rfl, rfl, ?_⟩
    show [Blk.row t_uint8 (encB (putAll (l.take l.length)))] = _
    rw [List.take_length]
end Go.Ev.X
namespace Go.Ev.W
open Go.Ev Go.Ev.N

abbrev u8 (n : Nat) : AV := .int .u8 (n : Int)
def lB (l : List Nat) : AV := .lst t_uint8 (l.map u8)
def IsB (l : List Nat) : Prop := ∀ x ∈ l, x < 256
/-- Numbers from which choices are read. -/
structure Pk where
  l : List Nat
  n : Nat
def pkB (p : Pk) : Blk := .var (.agg [lB p.l, i64 p.n])
def Pk.over (p : Pk) : Bool := decide (p.l.length ≤ p.n)
def Pk.num (p : Pk) (m : Nat) : Nat := if p.n < p.l.length ∧ 1 ≤ m then (p.l[p.n]?).getD 0 % m else 0
def Pk.next (p : Pk) (m : Nat) : Pk := if p.n < p.l.length ∧ 1 ≤ m then ⟨p.l, p.n + 1⟩ else p
structure Pk.Ok (p : Pk) : Prop where
  b : IsB p.l
  n : p.n ≤ p.l.length
  l : p.l.length ≤ maxLen
theorem Pk.Ok.next {p : Pk} (h : p.Ok) (m : Nat) : (p.next m).Ok := by
  unfold Pk.next; split
  · exact ⟨h.b, by simp only; omega, h.l⟩
  · exact h
theorem Pk.num_lt (p : Pk) {m : Nat} (h : 1 ≤ m) : p.num m < m := by
  unfold Pk.num; split
  · exact Nat.mod_lt _ h
  · exact h

end Go.Ev.W
namespace Go.Ev.W
open Go.Ev Go.Ev.N

/-- The least power of two that is not below a number. -/
def upN (v : Nat) : Nat := if v ≤ 1 then 1 else 2 ^ (Nat.log2 (v - 1) + 1)
theorem upN_pow (v : Nat) : ∃ k, upN v = 2 ^ k := by
  unfold upN; split
  · exact ⟨0, rfl⟩
  · exact ⟨_, rfl⟩
theorem le_upN (v : Nat) : v ≤ upN v := by
  unfold upN; split
  · assumption
  · have := Nat.lt_log2_self (n := v - 1); omega
theorem upN_le {v k : Nat} (h : v ≤ 2 ^ k) : upN v ≤ 2 ^ k := by
  unfold upN; split
  · exact Nat.one_le_two_pow
  · refine Nat.pow_le_pow_right (by omega) ?_
    rw [Nat.succ_le_iff, Nat.log2_lt (by omega)]
    omega
theorem upN_lt {v : Nat} (h : 1 ≤ v) : upN v < 2 * v := by
  unfold upN; split
  · omega
  · have := Nat.log2_self_le (n := v - 1) (by omega)
    rw [Nat.pow_succ]; omega
theorem upN_pos (v : Nat) : 1 ≤ upN v := by obtain ⟨k, h⟩ := upN_pow v; rw [h]; exact Nat.one_le_two_pow
theorem pow_lt_dbl {j k : Nat} (h : 2 ^ j < 2 ^ k) : 2 ^ j * 2 ≤ 2 ^ k := by
  have : j < k := (Nat.pow_lt_pow_iff_right (by omega)).1 h
  rw [← Nat.pow_succ]; exact Nat.pow_le_pow_right (by omega) this

theorem refUp_told (v : Nat) (h1 : 1 ≤ v) (h2 : v ≤ 1000000) : Told P T ref1_Up [] [i64 v] (.tup [i64 (upN v : Nat), .bool true]) [] := by
  have hu := upN_lt h1
  refine told_of_ev (fn := ref1_Up_fn) tabOk mixed (by kernel_rfl) (by kernel_rfl) (by kernel_rfl) (by kernel_rfl) ?_
  (refine gw ?_; first | refine IfB.dec (fun h3 => ?_) (fun h3 => ?_) | refine IfB.eq (fun h3 => ?_) (fun h3 => ?_) | refine IfB.ne (fun h3 => ?_) (fun h3 => ?_) | refine IfB.mk (fun h3 => ?_) (fun h3 => ?_))
  · omega
  · (refine gw ?_; first | refine IfB.dec (fun h4 => ?_) (fun h4 => ?_) | refine IfB.eq (fun h4 => ?_) (fun h4 => ?_) | refine IfB.ne (fun h4 => ?_) (fun h4 => ?_) | refine IfB.mk (fun h4 => ?_) (fun h4 => ?_))
    · omega
    · (refine gw ?_; refine LoopN.mk ⟨[0,4], fun vs L => ∃ j : Nat, vs = [i64 v, i64 (2 ^ j : Nat)] ∧ L = [] ∧ 2 ^ j ≤ upN v, fun vs L => match vs with | [_, .int _ i] => 4000000 - i.toNat | _ => 0, [], [], rfl, ⟨0, rfl, rfl, upN_pos v⟩, ?_⟩)
      rintro vs L ⟨j, rfl, rfl, hj⟩
      obtain ⟨p, hp⟩ : ∃ p, 2 ^ j = p := ⟨_, rfl⟩
      obtain ⟨k, hk⟩ := upN_pow v
      have hle := le_upN v
      (refine gw ?_; first | refine IfB.dec (fun h5 => ?_) (fun h5 => ?_) | refine IfB.eq (fun h5 => ?_) (fun h5 => ?_) | refine IfB.ne (fun h5 => ?_) (fun h5 => ?_) | refine IfB.mk (fun h5 => ?_) (fun h5 => ?_))
      · have hd : 2 ^ j * 2 ≤ upN v := by rw [hk]; exact pow_lt_dbl (by omega)
        have e : ((2 ^ (j + 1) : Nat) : Int) = ((2 ^ j : Nat) : Int) * 2 := by rw [Nat.pow_succ]; omega
        rw [hp] at hd e ⊢
        have hpos : 1 ≤ p := by rw [← hp]; exact Nat.one_le_two_pow
        (refine gw ?_; refine ⟨[], [], rfl, ⟨j + 1, by rw [e]; rfl, rfl, by rw [Nat.pow_succ, hp]; exact hd⟩, (by omega : 4000000 - ((p : Int) * 2).toNat < 4000000 - (p : Int).toNat)⟩)
      · have e : upN v = 2 ^ j := by
          have := upN_le (v := v) (k := j) (by omega)
          omega
        rw [e]
        (refine gw ?_; exact RetN.mk ⟨[], rfl, rfl, rfl⟩)

/-- Which power of two. -/
def logF (v : Int) : Nat × Bool := if 1 ≤ v ∧ v = ((2 ^ Nat.log2 v.toNat : Nat) : Int) then (Nat.log2 v.toNat, true) else (0, false)
theorem logF_pow (k : Nat) : logF ((2 ^ k : Nat) : Int) = (k, true) := by
  have h := Nat.one_le_two_pow (n := k)
  have hl := Nat.log2_two_pow (n := k)
  unfold logF
  obtain ⟨q, hq⟩ : ∃ q, 2 ^ k = q := ⟨_, rfl⟩
  rw [hq] at h hl ⊢
  rw [Int.toNat_natCast, hl, hq, if_pos ⟨by omega, rfl⟩]
theorem refLog_told (v : Int) (h2 : v ≤ 9223372036854775807) : Told P T ref1_Log [] [i64 v] (.tup [i64 ((logF v).1 : Nat), .bool (logF v).2]) [] := by
  refine told_of_ev (fn := ref1_Log_fn) tabOk mixed (by kernel_rfl) (by kernel_rfl) (by kernel_rfl) (by kernel_rfl) ?_
  (refine gw ?_; refine LoopN.mk ⟨[0,4,5], fun vs L => ∃ j : Nat, vs = [i64 v, i64 (2 ^ (min j 62) : Nat), i64 j] ∧ L = [] ∧ j ≤ 63 ∧ ∀ i, i < j → v ≠ ((2 ^ i : Nat) : Int), fun vs L => match vs with | [_, _, .int _ i] => 63 - i.toNat | _ => 0, [], [], rfl, ⟨0, rfl, rfl, by omega, fun i h => by omega⟩, ?_⟩)
  rintro vs L ⟨j, rfl, rfl, hj, hn⟩
  (refine gw ?_; first | refine IfB.dec (fun h1 => ?_) (fun h1 => ?_) | refine IfB.eq (fun h1 => ?_) (fun h1 => ?_) | refine IfB.ne (fun h1 => ?_) (fun h1 => ?_) | refine IfB.mk (fun h1 => ?_) (fun h1 => ?_))
  · have hj2 : j < 63 := by omega
    have em : min j 62 = j := by omega
    rw [em]
    (refine gw ?_; first | refine IfB.dec (fun h2 => ?_) (fun h2 => ?_) | refine IfB.eq (fun h2 => ?_) (fun h2 => ?_) | refine IfB.ne (fun h2 => ?_) (fun h2 => ?_) | refine IfB.mk (fun h2 => ?_) (fun h2 => ?_))
    · have e := logF_pow j
      rw [h2] at e
      rw [e]
      (refine gw ?_; exact RetN.mk ⟨[], rfl, rfl, rfl⟩)
    · have hn' : ∀ i, i < j + 1 → v ≠ ((2 ^ i : Nat) : Int) := fun i hi => by
        rcases Nat.lt_or_ge i j with h | h
        · exact hn i h
        · rw [show i = j by omega]; exact fun h => h2 h.symm
      (refine gw ?_; first | refine IfB.dec (fun h3 => ?_) (fun h3 => ?_) | refine IfB.eq (fun h3 => ?_) (fun h3 => ?_) | refine IfB.ne (fun h3 => ?_) (fun h3 => ?_) | refine IfB.mk (fun h3 => ?_) (fun h3 => ?_))
      · have hp : 2 ^ (j + 1) ≤ 2 ^ 62 := Nat.pow_le_pow_right (by omega) (by omega)
        have e : ((2 ^ (min (j + 1) 62) : Nat) : Int) = ((2 ^ j : Nat) : Int) * 2 := by rw [show min (j + 1) 62 = j + 1 by omega, Nat.pow_succ]; omega
        rw [Nat.pow_succ] at hp
        have hpos : 0 < 2 ^ j := Nat.two_pow_pos j
        generalize 2 ^ j = q at hp e hpos ⊢
        (refine gw ?_; refine ⟨[], [], rfl, ⟨j + 1, by rw [e]; rfl, rfl, by omega, hn'⟩, (by omega : 63 - ((j : Int) + 1).toNat < 63 - (j : Int).toNat)⟩)
      · have e : j = 62 := by omega
        subst e
        (refine gw ?_; refine ⟨[], [], rfl, ⟨63, rfl, rfl, by omega, hn'⟩, (by omega : 63 - (((62 : Nat) : Int) + 1).toNat < 63 - ((62 : Nat) : Int).toNat)⟩)
  · have e : logF v = (0, false) := by
      unfold logF
      rw [if_neg]
      rintro ⟨h3, h4⟩
      refine hn (Nat.log2 v.toNat) ?_ h4
      rw [Nat.log2_lt (by omega)]
      have : v.toNat ≤ 9223372036854775807 := by omega
      have e63 : (2 : Nat) ^ j ≥ 2 ^ 63 := Nat.pow_le_pow_right (by omega) (by omega)
      omega
    rw [e]
    (refine gw ?_; exact RetN.mk ⟨[], rfl, rfl, rfl⟩)

/-- What there is. -/
structure Cf where
  G : Nat
  N : Nat
  M : Nat
  L : Nat
  Pg : Nat
  P : Nat
  H : Nat
  Sd : Nat
  deriving DecidableEq
def eC (c : Cf) : AV := .agg [i64 c.G, i64 c.N, i64 c.M, i64 c.L, i64 c.Pg, i64 c.P, i64 c.H, i64 c.Sd]
/-- What is asked for. -/
structure Rw where
  g : Int
  l : Int
  m : Int
  p : Int
  b : Int
  s : Int
  deriving DecidableEq
def eR (r : Rw) : AV := .agg [i64 r.g, i64 r.l, i64 r.m, i64 r.p, i64 r.b, i64 r.s]
def cf0 : Cf := ⟨0, 0, 0, 0, 0, 0, 0, 0⟩
def inR (v : Int) : Bool := decide (1 ≤ v ∧ v ≤ 65536)
def Rw.ok (r : Rw) : Bool := inR r.g && inR r.l && inR r.m && inR r.p && decide (0 ≤ r.b ∧ r.b ≤ 65536) && decide (0 ≤ r.s ∧ r.s ≤ 255)
def rnd (v t : Nat) : Nat := if v % t = 0 then v else v - v % t + t
def cfOf (r : Rw) : Cf :=
  let g := upN r.g.toNat
  let n := upN (max r.l.toNat g)
  let pg := upN (max r.p.toNat g)
  let m := rnd r.m.toNat (2 * max n pg)
  let l := Nat.log2 (n / g)
  ⟨g, n, m, l, pg, r.b.toNat, m + l * (m / 2), r.s.toNat⟩
def ofF (r : Rw) : Cf × Nat := if r.ok = true ∧ (cfOf r).H ≤ 65536 then (cfOf r, 0) else (cf0, 1)

theorem refAdd_told (a b : Int) (ha : 0 ≤ a) (hb : 1 ≤ b) (hab : a + b ≤ 9223372036854775807) : Told P T ref1_Add [] [i64 a, i64 b] (.tup [i64 (a + b), .bool true]) [] := by
  refine told_of_ev (fn := ref1_Add_fn) tabOk mixed (by kernel_rfl) (by kernel_rfl) (by kernel_rfl) (by kernel_rfl) ?_
  repeat' ((conv => whnf); first | (refine Sure.mk (by kernel_rfl) ?_) | (refine IfB.tt rfl ?_) | (refine IfB.ff rfl ?_) | (refine IfB.tt ?_ ?_; (focus (simp <;> fail))) | (refine IfB.ff ?_ ?_; (focus (simp <;> fail))) | (refine fits (wrap64 ?_ ?_) ?_; (focus omega); (focus omega)) | (refine fits (wrapU64 ?_ ?_) ?_; (focus omega); (focus omega)) | (refine Need.mk ?_ ?_; (focus omega)) | (refine InB.mk ?_ ?_ ?_; (focus omega); (focus omega)) | (refine IfB.dec (fun h => ?_) (fun h => ?_)) | (refine IfB.eq (fun h => ?_) (fun h => ?_)) | (refine IfB.ne (fun h => ?_) (fun h => ?_)))
  all_goals first | omega | (refine gw ?_; exact RetN.mk ⟨[], rfl, rfl, rfl⟩)
theorem refRound_told (v t : Nat) (hv : v ≤ 1000000) (h1 : 1 ≤ t) (h2 : t ≤ 1000000) : Told P T ref1_Round [] [i64 v, i64 t] (.tup [i64 (rnd v t : Nat), .bool true]) [] := by
  have em : ((v : Nat) : Int).tmod (t : Nat) = ((v % t : Nat) : Int) := by rw [Int.tmod_eq_emod_of_nonneg (by omega)]; omega
  have hm := Nat.mod_lt v h1
  have hd := Nat.mod_le v t
  refine told_of_ev (fn := ref1_Round_fn) tabOk mixed (by kernel_rfl) (by kernel_rfl) (by kernel_rfl) (by kernel_rfl) ?_
  (refine gw ?_; first | refine IfB.dec (fun h4 => ?_) (fun h4 => ?_) | refine IfB.eq (fun h4 => ?_) (fun h4 => ?_) | refine IfB.ne (fun h4 => ?_) (fun h4 => ?_) | refine IfB.mk (fun h4 => ?_) (fun h4 => ?_))
  · omega
  · refine gw ?_
    rw [em]
    (refine gw ?_; first | refine IfB.dec (fun h5 => ?_) (fun h5 => ?_) | refine IfB.eq (fun h5 => ?_) (fun h5 => ?_) | refine IfB.ne (fun h5 => ?_) (fun h5 => ?_) | refine IfB.mk (fun h5 => ?_) (fun h5 => ?_))
    · have e : rnd v t = v := by unfold rnd; rw [if_pos (by omega)]
      rw [e]
      (refine gw ?_; exact RetN.mk ⟨[], rfl, rfl, rfl⟩)
    · have e : rnd v t = v - v % t + t := by unfold rnd; rw [if_neg (by omega)]
      have c := refAdd_told ((v : Int) - ((v % t : Nat) : Int)) t (by omega) (by omega) (by omega)
      have e2 : ((v - v % t + t : Nat) : Int) = (v : Int) - ((v % t : Nat) : Int) + t := by omega
      rw [e, e2]
      refine gw ?_
      rw [em]
      refine gw ?_
      (refine gw ?_; refine Choice.mk ⟨false, Choice.mk ⟨true, _, _, c, ?_⟩⟩)
      (refine gw ?_; exact RetN.mk ⟨[], rfl, rfl, rfl⟩)

/-- What holds of what there is. -/
structure Cf.Ok (c : Cf) : Prop where
  g : ∃ a, c.G = 2 ^ a
  n : c.N = c.G * 2 ^ c.L
  p : ∃ e, c.Pg = c.G * 2 ^ e
  m : ∃ q, c.M = 2 * max c.N c.Pg * q
  m1 : 1 ≤ c.M
  h : c.H = c.M + c.L * (c.M / 2)
  h2 : c.H ≤ 65536
  b : c.P ≤ 65536
  s : c.Sd ≤ 255
theorem pow_up {g v : Nat} (hg : ∃ a, g = 2 ^ a) : ∃ e, upN (max v g) = g * 2 ^ e := by
  obtain ⟨a, rfl⟩ := hg
  obtain ⟨b, hb⟩ := upN_pow (max v (2 ^ a))
  have h1 := le_upN (max v (2 ^ a))
  rw [hb] at h1 ⊢
  have : a ≤ b := (Nat.pow_le_pow_iff_right (a := 2) (by omega)).1 (Nat.le_trans (Nat.le_max_right _ _) h1)
  exact ⟨b - a, by rw [← Nat.pow_add]; congr 1; omega⟩
theorem rnd_spec {v t : Nat} (h : 1 ≤ t) : ∃ q, rnd v t = t * q ∧ v ≤ rnd v t ∧ rnd v t < v + t := by
  have h1 := Nat.div_add_mod v t
  have h2 := Nat.mod_lt v h
  unfold rnd
  split
  · exact ⟨v / t, by omega, by omega, by omega⟩
  · refine ⟨v / t + 1, ?_, by omega, by omega⟩
    rw [Nat.mul_add]; omega
theorem log_of {G N k : Nat} (hg : 1 ≤ G) (h : N = G * 2 ^ k) : Nat.log2 (N / G) = k := by
  rw [h, Nat.mul_div_cancel_left _ (by omega), Nat.log2_two_pow]
theorem ofF_ok {r : Rw} (h : (ofF r).2 = 0) : (ofF r).1.Ok ∧ r.ok = true ∧ (ofF r).1 = cfOf r := by
  unfold ofF at h ⊢
  split at h
  · rename_i hh
    rw [if_pos hh]
    obtain ⟨hr, hH⟩ := hh
    refine ⟨?_, hr, rfl⟩
    simp only [Rw.ok, inR, Bool.and_eq_true, decide_eq_true_eq] at hr
    obtain ⟨⟨⟨⟨⟨r1, r2⟩, r3⟩, r4⟩, r5⟩, r6⟩ := hr
    have g := upN_pow r.g.toNat
    obtain ⟨k, hk⟩ := pow_up (v := r.l.toNat) g
    obtain ⟨e, he⟩ := pow_up (v := r.p.toNat) g
    have hg1 := upN_pos r.g.toNat
    have hn1 := upN_pos (max r.l.toNat (upN r.g.toNat))
    have hlog := log_of hg1 hk
    obtain ⟨q, q1, q2, q3⟩ := rnd_spec (v := r.m.toNat) (t := 2 * max (upN (max r.l.toNat (upN r.g.toNat))) (upN (max r.p.toNat (upN r.g.toNat)))) (by omega)
    exact ⟨g, by show upN _ = upN _ * 2 ^ Nat.log2 _; rw [hlog]; exact hk, ⟨e, he⟩, ⟨q, q1⟩, by show 1 ≤ rnd _ _; omega, rfl, hH, by show r.b.toNat ≤ _; omega, by show r.s.toNat ≤ _; omega⟩
  · cases h

set_option maxHeartbeats 2000000 in
theorem refOf_told (r : Rw) : Told P T ref1_Of [] [eR r] (.tup [eC (ofF r).1, i64 ((ofF r).2 : Nat)]) [] := by
  have bad : r.ok = false → ofF r = (cf0, 1) := fun h => by unfold ofF; rw [if_neg (by rw [h]; simp)]
  obtain ⟨g, l, m, p, b, s⟩ := r
  refine told_of_ev (fn := ref1_Of_fn) tabOk mixed (by kernel_rfl) (by kernel_rfl) (by kernel_rfl) (by kernel_rfl) ?_
  (refine gw ?_; refine LoopN.mk ⟨[1,2,4,5], fun vs L => ∃ i : Nat, vs = [.ptr 0 0 0, .ptr 1 0 0, .lst t_int ([g, l, m, p].map i64), i64 i] ∧ L = [.var (.agg [i64 g, i64 l, i64 m, i64 p, i64 b, i64 s]), .var (eC cf0)] ∧ i ≤ 4 ∧ ∀ j (h : j < [g, l, m, p].length), j < i → inR ([g, l, m, p][j]) = true, fun vs L => match vs with | [_, _, _, .int _ i] => 4 - i.toNat | _ => 0, [4], [0,1], rfl, ⟨0, rfl, rfl, by omega, fun j _ h => by omega⟩, ?_⟩)
  rintro vs L ⟨i, rfl, rfl, hi, hin⟩
  (refine gw ?_; first | refine IfB.dec (fun h1 => ?_) (fun h1 => ?_) | refine IfB.eq (fun h1 => ?_) (fun h1 => ?_) | refine IfB.ne (fun h1 => ?_) (fun h1 => ?_) | refine IfB.mk (fun h1 => ?_) (fun h1 => ?_))
  · have hlt : i < [g, l, m, p].length := by simp; omega
    obtain ⟨x, hx⟩ : ∃ x, [g, l, m, p][i] = x := ⟨_, rfl⟩
    have hbad : inR x = false → ofF ⟨g, l, m, p, b, s⟩ = (cf0, 1) := fun h => bad (by
      have : ∃ y ∈ [g, l, m, p], inR y = false := ⟨x, by rw [← hx]; exact List.getElem_mem _, h⟩
      simp only [List.mem_cons, List.not_mem_nil, or_false] at this
      obtain ⟨y, hy, h⟩ := this
      unfold Rw.ok
      rcases hy with rfl | rfl | rfl | rfl <;> simp [h])
    (refine gw ?_; refine idx_map (hlt) ?_)
    rw [hx]
    (refine gw ?_; first | refine IfB.dec (fun h2 => ?_) (fun h2 => ?_) | refine IfB.eq (fun h2 => ?_) (fun h2 => ?_) | refine IfB.ne (fun h2 => ?_) (fun h2 => ?_) | refine IfB.mk (fun h2 => ?_) (fun h2 => ?_))
    · rw [hbad (by simp [inR]; omega)]
      (refine gw ?_; exact RetN.mk ⟨[], rfl, rfl, rfl⟩)
    · (refine gw ?_; refine idx_map (hlt) ?_)
      rw [hx]
      (refine gw ?_; first | refine IfB.dec (fun h3 => ?_) (fun h3 => ?_) | refine IfB.eq (fun h3 => ?_) (fun h3 => ?_) | refine IfB.ne (fun h3 => ?_) (fun h3 => ?_) | refine IfB.mk (fun h3 => ?_) (fun h3 => ?_))
      · rw [hbad (by simp [inR]; omega)]
        (refine gw ?_; exact RetN.mk ⟨[], rfl, rfl, rfl⟩)
      · have hx' : inR x = true := by simp [inR]; omega
        (refine gw ?_; refine ⟨[4], [0,1], rfl, ⟨i + 1, rfl, rfl, by omega, fun j h hj => ?_⟩, (by omega : 4 - ((i : Int) + 1).toNat < 4 - (i : Int).toNat)⟩)
        rcases Nat.lt_or_ge j i with h' | h'
        · exact hin j h h'
        · have : j = i := by omega
          subst this; rw [hx]; exact hx'
  · have e4 : i = 4 := by omega
    subst e4
    have i1 := hin 0 (by simp) (by omega)
    have i2 := hin 1 (by simp) (by omega)
    have i3 := hin 2 (by simp) (by omega)
    have i4 := hin 3 (by simp) (by omega)
    simp only [List.getElem_cons_zero, List.getElem_cons_succ] at i1 i2 i3 i4
    simp only [inR, decide_eq_true_eq] at i1 i2 i3 i4
    have hr : (Rw.ok ⟨g, l, m, p, b, s⟩) = (decide (0 ≤ b ∧ b ≤ 65536) && decide (0 ≤ s ∧ s ≤ 255)) := by simp [Rw.ok, inR, i1, i2, i3, i4]
    (refine gw ?_; first | refine IfB.dec (fun h2 => ?_) (fun h2 => ?_) | refine IfB.eq (fun h2 => ?_) (fun h2 => ?_) | refine IfB.ne (fun h2 => ?_) (fun h2 => ?_) | refine IfB.mk (fun h2 => ?_) (fun h2 => ?_))
    · rw [bad (by rw [hr]; simp; omega)]
      (refine gw ?_; exact RetN.mk ⟨[], rfl, rfl, rfl⟩)
    · (refine gw ?_; first | refine IfB.dec (fun h3 => ?_) (fun h3 => ?_) | refine IfB.eq (fun h3 => ?_) (fun h3 => ?_) | refine IfB.ne (fun h3 => ?_) (fun h3 => ?_) | refine IfB.mk (fun h3 => ?_) (fun h3 => ?_))
      · rw [bad (by rw [hr]; simp; omega)]
        (refine gw ?_; exact RetN.mk ⟨[], rfl, rfl, rfl⟩)
      · (refine gw ?_; first | refine IfB.dec (fun h4 => ?_) (fun h4 => ?_) | refine IfB.eq (fun h4 => ?_) (fun h4 => ?_) | refine IfB.ne (fun h4 => ?_) (fun h4 => ?_) | refine IfB.mk (fun h4 => ?_) (fun h4 => ?_))
        · rw [bad (by rw [hr]; simp; omega)]
          (refine gw ?_; exact RetN.mk ⟨[], rfl, rfl, rfl⟩)
        · (refine gw ?_; first | refine IfB.dec (fun h5 => ?_) (fun h5 => ?_) | refine IfB.eq (fun h5 => ?_) (fun h5 => ?_) | refine IfB.ne (fun h5 => ?_) (fun h5 => ?_) | refine IfB.mk (fun h5 => ?_) (fun h5 => ?_))
          · rw [bad (by rw [hr]; simp; omega)]
            (refine gw ?_; exact RetN.mk ⟨[], rfl, rfl, rfl⟩)
          · have hok : Rw.ok ⟨g, l, m, p, b, s⟩ = true := by rw [hr]; simp; omega
            obtain ⟨G, hG⟩ : ∃ G, upN g.toNat = G := ⟨_, rfl⟩
            obtain ⟨N, hN⟩ : ∃ N, upN (max l.toNat G) = N := ⟨_, rfl⟩
            obtain ⟨Pg, hPg⟩ : ∃ Pg, upN (max p.toNat G) = Pg := ⟨_, rfl⟩
            obtain ⟨M, hM⟩ : ∃ M, rnd m.toNat (2 * max N Pg) = M := ⟨_, rfl⟩
            obtain ⟨K, hK⟩ : ∃ K, Nat.log2 (N / G) = K := ⟨_, rfl⟩
            have hcf : cfOf ⟨g, l, m, p, b, s⟩ = ⟨G, N, M, K, Pg, b.toNat, M + K * (M / 2), s.toNat⟩ := by
              unfold cfOf; simp only [hG, hN, hPg, hM, hK]
            have bG := upN_lt (v := g.toNat) (by omega)
            have bG0 := upN_pos g.toNat
            rw [hG] at bG bG0
            have bN := upN_lt (v := max l.toNat G) (by omega)
            rw [hN] at bN
            have bN0 := le_upN (max l.toNat G)
            rw [hN] at bN0
            have bP := upN_lt (v := max p.toNat G) (by omega)
            rw [hPg] at bP
            have c1 := refUp_told g.toNat (by omega) (by omega)
            rw [hG, show ((g.toNat : Nat) : Int) = g by omega] at c1
            have c2 := refUp_told (max l.toNat G) (by omega) (by omega)
            rw [hN, show ((max l.toNat G : Nat) : Int) = (if ((G : Nat) : Int) > l then ((G : Nat) : Int) else l) by split <;> omega] at c2
            have c3 := refUp_told (max p.toNat G) (by omega) (by omega)
            rw [hPg, show ((max p.toNat G : Nat) : Int) = (if ((G : Nat) : Int) > p then ((G : Nat) : Int) else p) by split <;> omega] at c3
            have c4 := refRound_told m.toNat (2 * max N Pg) (by omega) (by omega) (by omega)
            rw [hM, show ((2 * max N Pg : Nat) : Int) = 2 * (if ((Pg : Nat) : Int) > ((N : Nat) : Int) then ((Pg : Nat) : Int) else ((N : Nat) : Int)) by split <;> omega, show ((m.toNat : Nat) : Int) = m by omega] at c4
            obtain ⟨q, q1, q2, q3⟩ := rnd_spec (v := m.toNat) (t := 2 * max N Pg) (by omega)
            rw [hM] at q1 q2 q3
            obtain ⟨k0, hk0⟩ := pow_up (v := l.toNat) (hG ▸ upN_pow g.toNat)
            rw [hN] at hk0
            have hK0 : K = k0 := by rw [← hK]; exact log_of bG0 hk0
            have c5 := refLog_told ((N / G : Nat) : Int) (by have := Nat.div_le_self N G; omega)
            have e5 : N / G = 2 ^ K := by rw [hk0, hK0, Nat.mul_div_cancel_left _ (by omega)]
            rw [e5, logF_pow, ← e5, show ((N / G : Nat) : Int) = ((N : Nat) : Int).tdiv ((G : Nat) : Int) by rw [Int.tdiv_eq_ediv_of_nonneg (by omega)]; omega] at c5
            have bK : K < 20 := by
              have h6 : 2 ^ K ≤ 2 ^ 18 := by rw [← e5]; have := Nat.div_le_self N G; omega
              have := (Nat.pow_le_pow_iff_right (a := 2) (by omega)).1 h6
              omega
            have bKM : K * (M / 2) ≤ 20 * (M / 2) := Nat.mul_le_mul_right _ (by omega)
            have hM2 : ((M : Nat) : Int).tdiv 2 = ((M / 2 : Nat) : Int) := by rw [Int.tdiv_eq_ediv_of_nonneg (by omega)]; omega
            have hKM : ((K : Nat) : Int) * ((M / 2 : Nat) : Int) = ((K * (M / 2) : Nat) : Int) := by rw [Int.natCast_mul]
            (refine gw ?_; refine Choice.mk ⟨false, Choice.mk ⟨false, _, _, c1, ?_⟩⟩)
            (refine gw ?_; refine Choice.mk ⟨false, Choice.mk ⟨false, _, _, c2, ?_⟩⟩)
            (refine gw ?_; refine Choice.mk ⟨false, Choice.mk ⟨false, _, _, c3, ?_⟩⟩)
            (refine gw ?_; refine Choice.mk ⟨false, Choice.mk ⟨false, _, _, c4, ?_⟩⟩)
            have hdiv : ((N : Nat) : Int).tdiv ((G : Nat) : Int) = ((N / G : Nat) : Int) := by rw [Int.tdiv_eq_ediv_of_nonneg (by omega)]; omega
            have hdle := Nat.div_le_self N G
            have hd0 : (0 : Int) ≤ ((N / G : Nat) : Int) := Int.natCast_nonneg _
            (refine gw ?_)
            (refine gw ?_; refine Choice.mk ⟨false, Choice.mk ⟨true, _, _, c5, ?_⟩⟩)
            (refine gw ?_)
            rw [hM2]
            (refine gw ?_)
            rw [hKM]
            (refine gw ?_)
            have hH : (M : Int) + ((K * (M / 2) : Nat) : Int) = ((M + K * (M / 2) : Nat) : Int) := by omega
            rw [hH]
            (refine gw ?_; first | refine IfB.dec (fun h6 => ?_) (fun h6 => ?_) | refine IfB.eq (fun h6 => ?_) (fun h6 => ?_) | refine IfB.ne (fun h6 => ?_) (fun h6 => ?_) | refine IfB.mk (fun h6 => ?_) (fun h6 => ?_))
            · rw [show ofF ⟨g, l, m, p, b, s⟩ = (cf0, 1) by unfold ofF; rw [if_neg (by rw [hcf]; simp only; omega)]]
              (refine gw ?_; exact RetN.mk ⟨[], rfl, rfl, rfl⟩)
            · rw [show ofF ⟨g, l, m, p, b, s⟩ = (cfOf ⟨g, l, m, p, b, s⟩, 0) by unfold ofF; rw [if_pos ⟨hok, by rw [hcf]; simp only; omega⟩], hcf]
              (refine gw ?_; refine RetN.mk ⟨[], rfl, ?_, rfl⟩)
              rw [show b = ((b.toNat : Nat) : Int) by omega, show s = ((s.toNat : Nat) : Int) by omega]
              rfl

theorem Cf.Ok.gpos {c : Cf} (h : c.Ok) : 1 ≤ c.G := by obtain ⟨a, e⟩ := h.g; rw [e]; exact Nat.one_le_two_pow
theorem Cf.Ok.nM {c : Cf} (h : c.Ok) : 2 * c.N ≤ c.M := by
  obtain ⟨q, e⟩ := h.m
  have := h.m1
  cases q with
  | zero => rw [Nat.mul_zero] at e; omega
  | succ q =>
    rw [Nat.mul_succ] at e
    have := Nat.zero_le (2 * max c.N c.Pg * q)
    omega
theorem Cf.Ok.mH {c : Cf} (h : c.Ok) : c.M ≤ 65536 := by have := h.h; have := h.h2; omega
theorem Cf.Ok.lL {c : Cf} (h : c.Ok) : c.L ≤ 16 := by
  have h1 := h.nM
  have h2 := h.mH
  have h3 := h.n
  have h4 := h.gpos
  have h5 : 2 ^ c.L ≤ 2 ^ 15 := by
    have : 1 * 2 ^ c.L ≤ c.G * 2 ^ c.L := Nat.mul_le_mul_right _ h4
    omega
  have := (Nat.pow_le_pow_iff_right (a := 2) (by omega)).1 h5
  omega
end Go.Ev.W
