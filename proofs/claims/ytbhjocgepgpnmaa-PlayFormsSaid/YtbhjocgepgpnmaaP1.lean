/- Words and lemmas, part 1, for laws of this seat (a part of their proofs). -/
import Derived.Laws.Bits64
import Derived.Test.YtbhjocgepgpnmaaNm
import Derived.Test.YtbhjocgepgpnmaaEvOpen
import Derived.Test.YtbhjocgepgpnmaaEvLib
import Derived.Test.YtbhjocgepgpnmaaEvGrid
import Derived.Test.YtbhjocgepgpnmaaEvTrim
set_option linter.unusedVariables false
set_option linter.unusedSimpArgs false
namespace Go.Ev
theorem IfB.tt {b : Bool} {P R : Prop} (h : b = true) (p : P) : IfB b P R := ⟨fun _ => p, fun e => (by rw [h] at e; cases e)⟩
theorem IfB.ff {b : Bool} {P R : Prop} (h : b = false) (p : R) : IfB b P R := ⟨fun e => (by rw [h] at e; cases e), fun _ => p⟩
theorem IfB.dec {p : Prop} [Decidable p] {P R : Prop} (t : p → P) (f : ¬ p → R) : IfB (decide p) P R := ⟨fun h => t (of_decide_eq_true h), fun h => f (of_decide_eq_false h)⟩
theorem IfB.ne {a b : Int} {P R : Prop} (t : a ≠ b → P) (f : a = b → R) : IfB (a != b) P R := ⟨fun h => t (by simpa using h), fun h => f (by simpa using h)⟩
end Go.Ev
namespace Go.Ev.W
open Go.Ev Go.Ev.N
theorem fits {k : IntKind} {n : Int} {Q : Int → Prop} (h : k.wrap n = n) (q : Q n) : Fits k n Q := ⟨by rw [h]; exact q⟩
theorem wrap64 {n : Int} (h1 : -9223372036854775808 ≤ n) (h2 : n ≤ 9223372036854775807) : IntKind.i64.wrap n = n := by rw [IntKind.wrap_i64]; omega
theorem wrapU64 {n : Int} (h1 : 0 ≤ n) (h2 : n ≤ 18446744073709551615) : IntKind.u64.wrap n = n := by rw [IntKind.wrap_u64]; omega
theorem idx_map {α : Type} {f : α → AV} {l : List α} {k : Nat} {Q : AV → Prop} (h : k < l.length) (q : Q (f l[k])) : Idx (l.map f) ((k : Nat) : Int) Q := ⟨f l[k], by omega, by simp [h], q⟩
theorem at_map {α : Type} {f : α → AV} {l : List α} {k : Nat} {Q : AV → Prop} (h : k < l.length) (q : Q (f l[k])) : At (l.map f) k Q := ⟨f l[k], by simp [h], q⟩
abbrev i64 (n : Int) : AV := .int .i64 n
theorem ins_room {α : Type} (es : List α) (x J : α) (i : Nat) (hi : i < es.length) :
    List.take i (List.take (i + 1) (es ++ [J]) ++
      (List.take (min (List.take ((es ++ [J]).length - i) (List.drop i (es ++ [J]))).length ((es ++ [J]).length - (i + 1))) (List.take ((es ++ [J]).length - i) (List.drop i (es ++ [J]))) ++
       List.drop (i + 1 + min (List.take ((es ++ [J]).length - i) (List.drop i (es ++ [J]))).length ((es ++ [J]).length - (i + 1))) (es ++ [J]))) = es.take i ∧
    List.drop (i + 1) (List.take (i + 1) (es ++ [J]) ++
      (List.take (min (List.take ((es ++ [J]).length - i) (List.drop i (es ++ [J]))).length ((es ++ [J]).length - (i + 1))) (List.take ((es ++ [J]).length - i) (List.drop i (es ++ [J]))) ++
       List.drop (i + 1 + min (List.take ((es ++ [J]).length - i) (List.drop i (es ++ [J]))).length ((es ++ [J]).length - (i + 1))) (es ++ [J]))) = es.drop i ∧
    (List.take (i + 1) (es ++ [J]) ++
      (List.take (min (List.take ((es ++ [J]).length - i) (List.drop i (es ++ [J]))).length ((es ++ [J]).length - (i + 1))) (List.take ((es ++ [J]).length - i) (List.drop i (es ++ [J]))) ++
       List.drop (i + 1 + min (List.take ((es ++ [J]).length - i) (List.drop i (es ++ [J]))).length ((es ++ [J]).length - (i + 1))) (es ++ [J]))).length = es.length + 1 := by
  obtain ⟨a, b, rfl, rfl⟩ : ∃ a b, es = a ++ b ∧ i = a.length := ⟨es.take i, es.drop i, (List.take_append_drop ..).symm, by rw [List.length_take]; omega⟩
  cases b with
  | nil => simp at hi
  | cons y b =>
    have e1 : List.drop a.length (a ++ y :: b ++ [J]) = y :: (b ++ [J]) := by rw [List.append_assoc, List.drop_left]; rfl
    have e2 : (a ++ y :: b ++ [J]).length - a.length = b.length + 2 := by first | (simp; done) | (simp; omega)
    have e3 : (a ++ y :: b ++ [J]).length - (a.length + 1) = b.length + 1 := by first | (simp; done) | (simp; omega)
    have e4 : List.take (b.length + 2) (y :: (b ++ [J])) = y :: (b ++ [J]) := List.take_of_length_le (by simp)
    have e5 : (y :: (b ++ [J])).length = b.length + 2 := by simp
    have e6 : List.take (a.length + 1) (a ++ y :: b ++ [J]) = a ++ [y] := by
      rw [List.append_assoc, List.take_append, List.take_of_length_le (by omega), show a.length + 1 - a.length = 1 by omega]; rfl
    have e7 : List.take (b.length + 1) (y :: (b ++ [J])) = y :: b := by
      rw [List.take_succ_cons, List.take_left]
    have e8 : List.drop (a.length + 1 + (b.length + 1)) (a ++ y :: b ++ [J]) = [] := List.drop_eq_nil_of_le (by simp; omega)
    simp only [e1, e2, e3, e4, e5, e6, Nat.min_eq_right (show b.length + 1 ≤ b.length + 2 by omega), e7, e8, List.append_nil]
    refine ⟨?_, ?_, ?_⟩
    · rw [List.append_assoc, List.take_left, List.take_left]
    · rw [List.drop_left]
      rw [show a.length + 1 = (a ++ [y]).length by simp, List.drop_left]
    · simp; omega

end Go.Ev.W
namespace Go.Ev
open Go.Ev.W
/-- What is behind a step. -/
structure Held (B : Prop) : Prop where
  h : B
theorem gw {A B : Prop} (q : B) (h : Held B → A := by (intro q; ((repeat ((conv => whnf); first | (refine Sure.mk (by kernel_rfl) ?_) | (refine IfB.tt rfl ?_) | (refine IfB.ff rfl ?_) | (refine IfB.tt ?_ ?_; (focus (simp <;> fail))) | (refine IfB.ff ?_ ?_; (focus (simp <;> fail))) | (refine fits (wrap64 ?_ ?_) ?_; (focus omega); (focus omega)) | (refine fits (wrapU64 ?_ ?_) ?_; (focus omega); (focus omega)) | (refine Need.mk ?_ ?_; (focus omega)) | (refine InB.mk ?_ ?_ ?_; (focus omega); (focus omega)))); (try (conv => whnf))) ; exact q.h)) : A := h ⟨q⟩
end Go.Ev
namespace Go.Ev.X
open Go.Ev Go.Ev.N

theorem fits {k : IntKind} {n : Int} {Q : Int → Prop} (h : k.wrap n = n) (q : Q n) : Fits k n Q := ⟨by rw [h]; exact q⟩
theorem wrap64 {n : Int} (h1 : -9223372036854775808 ≤ n) (h2 : n ≤ 9223372036854775807) : IntKind.i64.wrap n = n := by rw [IntKind.wrap_i64]; omega

structure O where
  k : Int
  p : Int
  s : Int
  a : Int
  n : Int
  b : Int
  deriving DecidableEq

def encO (o : O) : AV := .agg [.int .i64 o.k, .int .i64 o.p, .int .i64 o.s, .int .i64 o.a, .int .i64 o.n, .int .u8 o.b]

end Go.Ev.X
namespace Go.Ev
end Go.Ev
namespace Go.Ev.X
open Go.Ev Go.Ev.N

def fieldsOf (k : Int) : List UInt8 :=
  if k = 1 then [83] else if k = 2 then [78, 83] else if k = 3 then [83, 65] else if k = 4 then [80, 83] else if k = 5 then [80] else if k = 6 then [80] else if k = 7 then [80, 78] else if k = 8 then [80, 78] else []

theorem fields_told (k : Int) : Told P T wire_fields [] [.int .i64 k] (.str ⟨(fieldsOf k).toArray⟩) [] := by
  refine told_of_ev (fn := wire_fields_fn) tabOk mixed (by kernel_rfl) (by kernel_rfl) (by kernel_rfl) (by kernel_rfl) ?_
  refine IfB.mk (fun h1 => ?_) (fun h1 => ?_)
  · refine RetN.mk ⟨[], rfl, ?_, rfl⟩
    simp only [beq_iff_eq] at h1; subst h1; rfl
  refine IfB.mk (fun h2 => ?_) (fun h2 => ?_)
  · refine RetN.mk ⟨[], rfl, ?_, rfl⟩
    simp only [beq_iff_eq] at h2; subst h2; rfl
  refine IfB.mk (fun h3 => ?_) (fun h3 => ?_)
  · refine RetN.mk ⟨[], rfl, ?_, rfl⟩
    simp only [beq_iff_eq] at h3; subst h3; rfl
  refine IfB.mk (fun h4 => ?_) (fun h4 => ?_)
  · refine RetN.mk ⟨[], rfl, ?_, rfl⟩
    simp only [beq_iff_eq] at h4; subst h4; rfl
  refine IfB.mk (fun h5 => ?_) (fun h5 => ?_)
  · refine IfB.tt h5 ?_
    refine RetN.mk ⟨[], rfl, ?_, rfl⟩
    simp only [beq_iff_eq] at h5; subst h5; rfl
  refine IfB.mk (fun h6 => ?_) (fun h6 => ?_)
  · refine RetN.mk ⟨[], rfl, ?_, rfl⟩
    simp only [beq_iff_eq] at h6; subst h6; rfl
  refine IfB.mk (fun h7 => ?_) (fun h7 => ?_)
  · refine IfB.tt h7 ?_
    refine RetN.mk ⟨[], rfl, ?_, rfl⟩
    simp only [beq_iff_eq] at h7; subst h7; rfl
  refine IfB.mk (fun h8 => ?_) (fun h8 => ?_)
  · refine RetN.mk ⟨[], rfl, ?_, rfl⟩
    simp only [beq_iff_eq] at h8; subst h8; rfl
  · refine RetN.mk ⟨[], rfl, ?_, rfl⟩
    show AV.str _ = AV.str _
    simp only [beq_eq_false_iff_ne, ne_eq] at h1 h2 h3 h4 h5 h6 h7 h8
    simp [fieldsOf, *]

/-- Which cell a letter names. -/
def cellOf (b : Int) : Nat := if b = 80 then 1 else if b = 83 then 2 else if b = 65 then 3 else 4

theorem field_told (o : O) (b : Int) : Told P T wire_field [.var (encO o)] [.ptr 0 0 0, .int .u8 b] (.ptr 0 0 (cellOf b)) [.var (encO o)] := by
  refine told_of_ev (fn := wire_field_fn) tabOk mixed (by kernel_rfl) (by kernel_rfl) (by kernel_rfl) (by kernel_rfl) ?_
  refine IfB.mk (fun h1 => ?_) (fun h1 => ?_)
  · refine RetN.mk ⟨[], rfl, ?_, rfl⟩
    simp only [beq_iff_eq] at h1; subst h1; rfl
  refine IfB.mk (fun h2 => ?_) (fun h2 => ?_)
  · refine RetN.mk ⟨[], rfl, ?_, rfl⟩
    simp only [beq_iff_eq] at h2; subst h2; rfl
  refine IfB.mk (fun h3 => ?_) (fun h3 => ?_)
  · refine RetN.mk ⟨[], rfl, ?_, rfl⟩
    simp only [beq_iff_eq] at h3; subst h3; rfl
  · refine RetN.mk ⟨[], rfl, ?_, rfl⟩
    show AV.ptr 0 0 4 = AV.ptr 0 0 _
    simp only [beq_eq_false_iff_ne, ne_eq] at h1 h2 h3
    simp [cellOf, *]

/-- A call's number. -/
def setO (o : O) (b : UInt8) (v : Int) : O := if b = 80 then { o with p := v } else if b = 83 then { o with s := v } else if b = 65 then { o with a := v } else { o with n := v }
def rd3 (a b c : Int) : Int := a * 65536 + b * 256 + c
def fillO : List UInt8 → List Int → O → O × Option (List Int)
  | [], bs, o => (o, some bs)
  | f :: fs, b0 :: b1 :: b2 :: bs, o => fillO fs bs (setO o f (rd3 b0 b1 b2))
  | _ :: _, _, o => (o, none)
def IsB (bs : List Int) : Prop := ∀ b ∈ bs, 0 ≤ b ∧ b < 256
def encB (bs : List Int) : List AV := bs.map fun b => .int .u8 b

/-- What stands behind a kind: the call, how many bytes, is it there? -/
def one (k : Int) (bs : List Int) : O × Nat × Bool :=
  match fillO (fieldsOf k) bs ⟨k, 0, 0, 0, 0, 0⟩ with
  | (o, .none) => (o, 0, false)
  | (o, some r) => if k ≠ 8 then (o, bs.length - r.length, true) else match r with
    | [] => (o, 0, false)
    | b :: _ => ({ o with b := b }, bs.length - r.length + 1, true)

theorem or_add (x y : Nat) (i : Nat) (hy : y < 2 ^ i) (hx : x * 2 ^ i + y < 9223372036854775808) : bitsOp .or .i64 ((x * 2 ^ i : Nat) : Int) (y : Int) = ((x * 2 ^ i + y : Nat) : Int) := by
  generalize hX : x * 2 ^ i = X at hx
  have h1 : X < 2 ^ 64 := by omega
  have h2 : y < 2 ^ 64 := by omega
  have e : (BitVec.ofInt 64 (X : Int) ||| BitVec.ofInt 64 (y : Int)).toNat = X + y := by
    rw [BitVec.toNat_or, BitVec.ofInt_natCast, BitVec.ofInt_natCast, BitVec.toNat_ofNat, BitVec.toNat_ofNat, Nat.mod_eq_of_lt h1, Nat.mod_eq_of_lt h2]
    rw [← hX, ← Nat.shiftLeft_eq, ← Nat.shiftLeft_add_eq_or_of_lt hy]
  show IntKind.i64.wrap ((BitVec.ofInt 64 (X : Int) ||| BitVec.ofInt 64 (y : Int)).toNat : Int) = _
  rw [e]
  exact wrap64 (by omega) (by omega)

theorem rd3_cast (x y z : Nat) : (((x * 256 + y) * 256 + z : Nat) : Int) = rd3 x y z := by
  simp only [rd3]
  omega
theorem rd3_or {a b c : Int} (ha : 0 ≤ a ∧ a < 256) (hb : 0 ≤ b ∧ b < 256) (hc : 0 ≤ c ∧ c < 256) : bitsOp .or .i64 (bitsOp .or .i64 (a * 65536) (b * 256)) c = rd3 a b c := by
  obtain ⟨x, rfl⟩ := Int.eq_ofNat_of_zero_le ha.1
  obtain ⟨y, rfl⟩ := Int.eq_ofNat_of_zero_le hb.1
  obtain ⟨z, rfl⟩ := Int.eq_ofNat_of_zero_le hc.1
  have h1 := or_add x (y * 256) 16 (by omega) (by omega)
  have e1 : ((x * 2 ^ 16 : Nat) : Int) = (x : Int) * 65536 := by simp
  have e2 : ((y * 256 : Nat) : Int) = (y : Int) * 256 := by simp
  rw [e1, e2] at h1
  rw [h1]
  have h2 := or_add (x * 256 + y) z 8 (by omega) (by omega)
  rw [show (2 : Nat) ^ 8 = 256 from rfl] at h2
  rw [show (2 : Nat) ^ 16 = 65536 from rfl]
  rw [show x * 65536 + y * 256 = (x * 256 + y) * 256 by omega, h2]
  exact rd3_cast x y z
end Go.Ev.X
namespace Go.Ev.X
open Go.Ev Go.Ev.N

/-- The letters, as bytes. -/
def encL (fs : List UInt8) : List AV := fs.map fun b => .int .u8 b.toNat

theorem fieldsOf_mem (k : Int) : ∀ f ∈ fieldsOf k, f = 80 ∨ f = 83 ∨ f = 65 ∨ f = 78 := by
  unfold fieldsOf
  repeat' split
  all_goals simp
theorem fieldsOf_len (k : Int) : (fieldsOf k).length ≤ 2 := by
  unfold fieldsOf
  repeat' split
  all_goals simp
theorem encL_len (fs : List UInt8) : (encL fs).length = fs.length := by simp [encL]

theorem fillO_step {fs : List UInt8} {bs : List Int} {o : O} {i : Nat} (hi : i < fs.length) (h3 : 3 * i + 3 ≤ bs.length) :
    fillO (fs.drop i) (bs.drop (3 * i)) o = fillO (fs.drop (i + 1)) (bs.drop (3 * (i + 1))) (setO o fs[i] (rd3 (bs[3 * i]'(by omega)) (bs[3 * i + 1]'(by omega)) (bs[3 * i + 2]'(by omega)))) := by
  rw [List.drop_eq_getElem_cons hi, List.drop_eq_getElem_cons (show 3 * i < bs.length by omega), List.drop_eq_getElem_cons (show 3 * i + 1 < bs.length by omega), List.drop_eq_getElem_cons (show 3 * i + 1 + 1 < bs.length by omega)]
  rfl
theorem fillO_short {fs : List UInt8} {bs : List Int} {o : O} {i : Nat} (hi : i < fs.length) (h3 : ¬ 3 * i + 3 ≤ bs.length) : fillO (fs.drop i) (bs.drop (3 * i)) o = (o, .none) := by
  rw [List.drop_eq_getElem_cons hi]
  have hl : (bs.drop (3 * i)).length < 3 := by simp; omega
  match bs.drop (3 * i), hl with
  | [], _ => rfl
  | [_], _ => rfl
  | [_, _], _ => rfl
  | _ :: _ :: _ :: _, h => simp at h; omega

theorem wrap16 {b : Int} (hb : 0 ≤ b ∧ b < 256) : IntKind.i64.wrap b = b := wrap64 (by omega) (by omega)

theorem fits' {k : IntKind} {n m : Int} {Q : Int → Prop} (h : k.wrap n = n) (e : n = m) (q : Q m) : Fits k n Q := ⟨by rw [h, e]; exact q⟩

set_option maxHeartbeats 4000000 in
theorem one_told (k : Int) (bs : List Int) (hb : IsB bs) (hl : bs.length ≤ 1000000) :
    Told P T wire_one [] [.int .i64 k, .lst t_uint8 (encB bs)] (.tup [encO (one k bs).1, .int .i64 ((one k bs).2.1 : Nat), .bool (one k bs).2.2]) [] := by
  have hbl : (encB bs).length = bs.length := by simp [encB]
  have at' : ∀ i (h : i < bs.length), (encB bs)[i]? = some (.int .u8 bs[i]) := fun i h => by simp [encB, h]
  refine told_of_ev (fn := wire_one_fn) tabOk mixed (by kernel_rfl) (by kernel_rfl) (by kernel_rfl) (by kernel_rfl) ?_
  refine Choice.mk ⟨false, Choice.mk ⟨true, _, _, fields_told k, ?_⟩⟩
  refine Room.mk (Nat.le_trans (fieldsOf_len k) (by decide)) ?_
  refine LoopN.mk ⟨[0, 1, 4, 5, 13, 14, 15], fun vs L => ∃ (i : Nat) (o : O), vs = [.int .i64 k, .lst t_uint8 (encB bs), .ptr 0 0 0, .int .i64 ((3 * i : Nat) : Int), .ref 1, .int .i64 (encL (fieldsOf k)).length, .int .i64 (i : Nat)] ∧ L = [.var (encO o), .row t_uint8 (encL (fieldsOf k))] ∧
      i ≤ (fieldsOf k).length ∧ 3 * i ≤ bs.length ∧ fillO (fieldsOf k) bs ⟨k, 0, 0, 0, 0, 0⟩ = fillO ((fieldsOf k).drop i) (bs.drop (3 * i)) o,
    fun vs L => match vs with | [_, _, _, _, _, _, .int _ i] => (fieldsOf k).length - i.toNat | _ => 0, [], [0, 1], rfl, ⟨0, ⟨k, 0, 0, 0, 0, 0⟩, rfl, rfl, Nat.zero_le _, Nat.zero_le _, rfl⟩, ?_⟩
  rintro vs L ⟨i, o, rfl, rfl, hi, h3, hf⟩
  refine IfB.mk (fun h1 => ?_) (fun h1 => ?_)
  · have hlt : i < (fieldsOf k).length := by simpa [encL_len] using h1
    have hl2 := fieldsOf_len k
    obtain ⟨f, hff, hfm⟩ : ∃ f, (fieldsOf k)[i] = f ∧ (f = 80 ∨ f = 83 ∨ f = 65 ∨ f = 78) := ⟨_, rfl, fieldsOf_mem k _ (List.getElem_mem hlt)⟩
    refine InB.mk (by omega) (by rw [encL_len]; omega) ?_
    refine At.mk ⟨.int .u8 f.toNat, by simp [encL, hlt, hff], ?_⟩
    refine fits (wrap64 (by rw [hbl]; omega) (by rw [hbl]; omega)) ?_
    refine IfB.mk (fun h2 => ?_) (fun h2 => ?_)
    · refine RetN.mk ⟨[], rfl, ?_, rfl⟩
      have h4 : ¬ 3 * i + 3 ≤ bs.length := by
        have := of_decide_eq_true h2; rw [hbl] at this; omega
      have : one k bs = (o, 0, false) := by unfold one; rw [hf, fillO_short hlt h4]
      rw [this]; rfl
    · have h4 : 3 * i + 3 ≤ bs.length := by
        have := of_decide_eq_false h2; rw [hbl] at this; omega
      have b0 := hb _ (List.getElem_mem (show 3 * i < bs.length by omega))
      have b1 := hb _ (List.getElem_mem (show 3 * i + 1 < bs.length by omega))
      have b2 := hb _ (List.getElem_mem (show 3 * i + 2 < bs.length by omega))
      have step := fillO_step (o := o) hlt h4
      have hor := rd3_or b0 b1 b2
      rcases hfm with rfl | rfl | rfl | rfl
      all_goals
        refine Choice.mk ⟨true, Choice.mk ⟨false, _, _, field_told o _, ?_⟩⟩
        refine Idx.mk ⟨_, by omega, at' (3 * i) (by omega), ?_⟩
        refine fits (wrap16 b0) ?_
        refine Need.mk (by decide) ?_
        refine fits' (m := bs[3 * i] * 65536) (wrap64 (by simp [IntKind.bits]; omega) (by simp [IntKind.bits]; omega)) (by simp [IntKind.bits]) ?_
        refine fits (wrap64 (by omega) (by omega)) ?_
        refine Idx.mk ⟨_, by omega, at' (3 * i + 1) (by omega), ?_⟩
        refine fits (wrap16 b1) ?_
        refine Need.mk (by decide) ?_
        refine fits' (m := bs[3 * i + 1] * 256) (wrap64 (by simp [IntKind.bits]; omega) (by simp [IntKind.bits]; omega)) (by simp [IntKind.bits]) ?_
        refine fits (wrap64 (by omega) (by omega)) ?_
        refine Idx.mk ⟨_, by omega, at' (3 * i + 2) (by omega), ?_⟩
        refine fits (wrap16 b2) ?_
        refine Sure.mk (by kernel_rfl) ?_
        rw [hor]
        refine fits (wrap64 (by omega) (by omega)) ?_
        refine fits (wrap64 (by omega) (by omega)) ?_
        refine ⟨[], [0, 1], rfl, ⟨i + 1, setO o (fieldsOf k)[i] (rd3 bs[3 * i] bs[3 * i + 1] bs[3 * i + 2]), ?_, ?_, hlt, by omega, hf.trans step⟩, ?_⟩
        · rw [show (((3 * (i + 1) : Nat)) : Int) = ((3 * i : Nat) : Int) + 3 by omega, show (((i + 1 : Nat)) : Int) = ((i : Nat) : Int) + 1 by omega]
          rfl
        · rw [hff]; rfl
        · show (fieldsOf k).length - (((i : Nat) : Int) + 1).toNat < (fieldsOf k).length - ((i : Nat) : Int).toNat
          omega
  · have hge : i = (fieldsOf k).length := by
      have : ¬ i < (fieldsOf k).length := by simpa [encL_len] using h1
      omega
    have hfin : fillO (fieldsOf k) bs ⟨k, 0, 0, 0, 0, 0⟩ = (o, some (bs.drop (3 * i))) := by
      rw [hf, hge, List.drop_length]; rfl
    have hrest : bs.length - (bs.drop (3 * i)).length = 3 * i := by simp; omega
    refine IfB.mk (fun h5 => ?_) (fun h5 => ?_)
    · refine RetN.mk ⟨[], rfl, ?_, rfl⟩
      have hk : k ≠ 8 := by simpa using h5
      have : one k bs = (o, 3 * i, true) := by unfold one; rw [hfin]; simp only [if_pos hk, hrest]
      rw [this]; rfl
    · have hk : k = 8 := by simpa using h5
      refine IfB.mk (fun h6 => ?_) (fun h6 => ?_)
      · refine RetN.mk ⟨[], rfl, ?_, rfl⟩
        have h7 : bs.length ≤ 3 * i := by have := of_decide_eq_true h6; rw [hbl] at this; omega
        have : one k bs = (o, 0, false) := by
          unfold one; rw [hfin]
          simp only [ne_eq, hk, not_true, if_false, List.drop_eq_nil_of_le h7]
        rw [this]; rfl
      · have h7 : 3 * i < bs.length := by have := of_decide_eq_false h6; rw [hbl] at this; omega
        refine Idx.mk ⟨_, by omega, at' (3 * i) h7, ?_⟩
        refine fits (wrap64 (by omega) (by omega)) ?_
        refine RetN.mk ⟨[], rfl, ?_, rfl⟩
        have : one k bs = ({ o with b := bs[3 * i] }, 3 * i + 1, true) := by
          unfold one; rw [hfin]
          simp only [ne_eq, hk, not_true, if_false, List.drop_eq_getElem_cons h7]
          rw [← List.drop_eq_getElem_cons h7, hrest]
        rw [this]
        show AV.tup [_, .int .i64 (((3 * i : Nat) : Int) + 1), _] = AV.tup [_, .int .i64 ((3 * i + 1 : Nat) : Int), _]
        rw [show ((3 * i + 1 : Nat) : Int) = ((3 * i : Nat) : Int) + 1 by omega]
        rfl
end Go.Ev.X
namespace Go.Ev.X
open Go.Ev Go.Ev.N

def takeF : Nat → List Int → List O
  | 0, _ => []
  | _ + 1, [] => []
  | f + 1, b :: bs => if b % 11 = 0 then takeF f bs else match one (b % 11) bs with
    | (o, n, true) => o :: takeF f (bs.drop n)
    | (_, _, false) => []
def take (bs : List Int) : List O := takeF bs.length bs

theorem takeF_more : ∀ (f : Nat) (bs : List Int), bs.length ≤ f → takeF f bs = take bs := by
  intro f
  induction f using Nat.strongRecOn with
  | _ f ih =>
    intro bs hf
    cases bs with
    | nil => cases f <;> rfl
    | cons b bs =>
      cases f with
      | zero => simp at hf
      | succ f =>
        simp only [List.length_cons] at hf
        have e : ∀ m, m ≤ bs.length → takeF f (bs.drop m) = takeF bs.length (bs.drop m) := fun m hm => by
          rw [ih f (by omega) _ (by simp; omega)]
          rcases Nat.lt_or_ge bs.length (f + 1) with h | h
          · exact (ih bs.length (by omega) _ (by simp)).symm
          · omega
        have e0 := e 0 (Nat.zero_le _)
        simp only [List.drop_zero] at e0
        unfold take
        simp only [List.length_cons, takeF]
        rw [e0]
        split
        · rfl
        · split
          · rename_i o n _
            rcases Nat.lt_or_ge bs.length n with h | h
            · rw [List.drop_eq_nil_of_le (by omega)]; cases f <;> cases bs.length <;> rfl
            · rw [e n h]
          · rfl

theorem take_nil : take [] = [] := rfl
theorem take_cons (b : Int) (bs : List Int) : take (b :: bs) = if b % 11 = 0 then take bs else match one (b % 11) bs with
    | (o, n, true) => o :: take (bs.drop n)
    | (_, _, false) => [] := by
  show takeF (bs.length + 1) (b :: bs) = _
  simp only [takeF]
  split
  · rfl
  · split
    · rename_i o n _
      rw [takeF_more _ _ (by simp)]
    · rfl
end Go.Ev.X
namespace Go.Ev.X
open Go.Ev Go.Ev.N

theorem IsB.tail {b : Int} {bs : List Int} (h : IsB (b :: bs)) : IsB bs := fun x hx => h x (by simp [hx])
theorem IsB.drop {bs : List Int} (h : IsB bs) (n : Nat) : IsB (bs.drop n) := fun x hx => h x (List.mem_of_mem_drop hx)
theorem encB_drop (bs : List Int) (n : Nat) : (encB bs).drop n = encB (bs.drop n) := by simp [encB, List.map_drop]

theorem fillO_len : ∀ (fs : List UInt8) (bs : List Int) (o o' : O) (r : List Int), fillO fs bs o = (o', some r) → r.length ≤ bs.length
  | [], bs, o, o', r, h => by simp [fillO] at h; rw [h.2]; exact Nat.le_refl _
  | f :: fs, [], o, o', r, h => by simp [fillO] at h
  | f :: fs, [_], o, o', r, h => by simp [fillO] at h
  | f :: fs, [_, _], o, o', r, h => by simp [fillO] at h
  | f :: fs, _ :: _ :: _ :: bs, o, o', r, h => by
    have := fillO_len fs bs _ o' r h
    simp only [List.length_cons]; omega
theorem one_len (k : Int) (bs : List Int) : (one k bs).2.1 ≤ bs.length := by
  unfold one
  split
  · exact Nat.zero_le _
  · rename_i o r h
    have := fillO_len _ _ _ _ _ h
    split
    · exact Nat.sub_le _ _
    · split
      · exact Nat.zero_le _
      · simp only [List.length_cons] at this ⊢; omega

set_option maxHeartbeats 4000000 in
theorem take_told (bs : List Int) (hb : IsB bs) (hl : bs.length ≤ 1000000) : Told P T wire_Take [] [.lst t_uint8 (encB bs)] (.ref 0) [.row t_api_Op ((take bs).map encO)] := by
  refine told_of_ev (fn := wire_Take_fn) tabOk mixed (by kernel_rfl) (by kernel_rfl) (by kernel_rfl) (by kernel_rfl) ?_
  refine LoopN.mk ⟨[0, 2], fun vs L => ∃ (r : List Int) (acc : List O), vs = [.lst t_uint8 (encB r), .ref 0] ∧ L = [.row t_api_Op (acc.map encO)] ∧ IsB r ∧ r.length ≤ 1000000 ∧ acc.length + r.length ≤ bs.length ∧ take bs = acc ++ take r,
    fun vs L => match vs with | [.lst _ es, _] => es.length | _ => 0, [], [0], rfl, ⟨bs, [], rfl, rfl, hb, hl, by simp, rfl⟩, ?_⟩
  rintro vs L ⟨r, acc, rfl, rfl, hr, hrl, hacc, ht⟩
  refine IfB.mk (fun h1 => ?_) (fun h1 => ?_)
  · cases r with
    | nil => simp [encB] at h1
    | cons b r =>
      have hb0 := hr b (by simp)
      refine Idx.mk ⟨.int .u8 b, by omega, rfl, ?_⟩
      refine fits (wrap16 hb0) ?_
      refine Need.mk (by decide) ?_
      refine Cut.mk (by decide) (by simp [encB]; omega) (Int.le_refl _) ?_
      have hrem : b.tmod 11 = b % 11 := Int.tmod_eq_emod_of_nonneg hb0.1
      refine IfB.mk (fun h2 => ?_) (fun h2 => ?_)
      · have h0 : b % 11 = 0 := by rw [← hrem]; simpa using h2
        refine ⟨[], [0], rfl, ⟨r, acc, rfl, rfl, hr.tail, by simp at hrl; omega, by simp at hacc; omega, by rw [ht, take_cons, if_pos h0]⟩, ?_⟩
        show (encB r).length < (encB (b :: r)).length
        simp [encB]
      · have h0 : ¬ b % 11 = 0 := by rw [← hrem]; simpa using h2
        refine Choice.mk ⟨false, Choice.mk ⟨true, _, _, one_told (b.tmod 11) r hr.tail (by simp at hrl; omega), ?_⟩⟩
        have hlen := one_len (b.tmod 11) r
        have htake : take (b :: r) = match one (b.tmod 11) r with
            | (o, n, true) => o :: take (r.drop n)
            | (_, _, false) => [] := by
          rw [take_cons, if_neg h0, hrem] <;> (rcases one (b % 11) r with ⟨o, n, ok⟩; cases ok <;> rfl)
        revert hlen htake
        generalize one (b.tmod 11) r = q
        obtain ⟨o, n, ok⟩ := q
        intro hlen htake
        refine IfB.mk (fun h3 => ?_) (fun h3 => ?_)
        · have : ok = false := by simpa using h3
          subst this
          refine RetN.mk ⟨[0], rfl, rfl, ?_⟩
          show [Blk.row t_api_Op (acc.map encO)] = _
          rw [ht, htake]; simp
        · have : ok = true := by simpa using h3
          subst this
          simp only at hlen htake
          refine Room.mk (by simp; simp at hacc; omega) ?_
          refine Cut.mk (by omega) (by simp [encB]; omega) (Int.le_refl _) ?_
          refine Sure.mk (by kernel_rfl) ?_
          refine ⟨[], [3], rfl, ⟨r.drop n, acc ++ [o], ?_, ?_, hr.tail.drop n, by simp at hrl ⊢; omega, by simp at hacc ⊢; omega, by rw [ht, htake]; simp⟩, ?_⟩
          · rw [← encB_drop]; rfl
          · rw [show (acc ++ [o]).map encO = acc.map encO ++ [encO o] by simp]; rfl
          · show ((encB r).drop n).length < (encB (b :: r)).length
            simp [encB]; omega
  · have hr0 : r = [] := by
      cases r with
      | nil => rfl
      | cons b r => simp [encB] at h1
    subst hr0
    refine RetN.mk ⟨[0], rfl, rfl, ?_⟩
    show [Blk.row t_api_Op (acc.map encO)] = _
    rw [ht, take_nil, List.append_nil]
end Go.Ev.X
namespace Go.Ev.X
open Go.Ev Go.Ev.N

def getO (o : O) (b : UInt8) : Int := if b = 80 then o.p else if b = 83 then o.s else if b = 65 then o.a else o.n
def w8 (v : Int) : Int := IntKind.u8.wrap v
def three (v : Int) : List Int := [w8 (v.fdiv (2 ^ min (Int.toNat 16) IntKind.i64.bits)), w8 (v.fdiv (2 ^ min (Int.toNat 8) IntKind.i64.bits)), w8 v]
def putO (o : O) : List Int := w8 o.k :: ((fieldsOf o.k).flatMap fun f => three (getO o f)) ++ (if o.k = 8 then [o.b] else [])

theorem encB_app (a b : List Int) : encB (a ++ b) = encB a ++ encB b := by simp [encB]

set_option maxHeartbeats 8000000 in
theorem put_told (o : O) : Told P T wire_put [] [encO o] (.ref 0) [.row t_uint8 (encB (putO o))] := by
  refine told_of_ev (fn := wire_put_fn) tabOk mixed (by kernel_rfl) (by kernel_rfl) (by kernel_rfl) (by kernel_rfl) ?_
  refine Fits.mk ?_
  refine Choice.mk ⟨false, Choice.mk ⟨true, _, _, fields_told o.k, ?_⟩⟩
  refine Room.mk (Nat.le_trans (fieldsOf_len o.k) (by decide)) ?_
  refine LoopN.mk ⟨[1, 3, 14, 15, 16], fun vs L => ∃ (i : Nat) (bs : List Int), vs = [.ptr 0 0 0, .ref 1, .ref 2, .int .i64 (encL (fieldsOf o.k)).length, .int .i64 (i : Nat)] ∧ L = [.var (encO o), .row t_uint8 (encB bs), .row t_uint8 (encL (fieldsOf o.k))] ∧
      i ≤ (fieldsOf o.k).length ∧ bs = w8 o.k :: ((fieldsOf o.k).take i).flatMap fun f => three (getO o f),
    fun vs L => match vs with | [_, _, _, _, .int _ i] => (fieldsOf o.k).length - i.toNat | _ => 0, [], [0, 2, 3], rfl, ⟨0, [w8 o.k], rfl, rfl, Nat.zero_le _, rfl⟩, ?_⟩
  rintro vs L ⟨i, bs, rfl, rfl, hi, hbs⟩
  have hl2 := fieldsOf_len o.k
  have hbl : bs.length ≤ 100 := by
    rw [hbs]
    have : ((fieldsOf o.k).take i).length ≤ 2 := by simp; omega
    match (fieldsOf o.k).take i, this with
    | [], _ => simp
    | [_], _ => simp [three]
    | [_, _], _ => simp [three]
  refine IfB.mk (fun h1 => ?_) (fun h1 => ?_)
  · have hlt : i < (fieldsOf o.k).length := by simpa [encL_len] using h1
    obtain ⟨f, hff, hfm⟩ : ∃ f, (fieldsOf o.k)[i] = f ∧ (f = 80 ∨ f = 83 ∨ f = 65 ∨ f = 78) := ⟨_, rfl, fieldsOf_mem o.k _ (List.getElem_mem hlt)⟩
    refine InB.mk (by omega) (by rw [encL_len]; omega) ?_
    refine At.mk ⟨.int .u8 f.toNat, by simp [encL, hlt, hff], ?_⟩
    rcases hfm with rfl | rfl | rfl | rfl
    all_goals
      refine Choice.mk ⟨true, Choice.mk ⟨false, _, _, field_told o _, ?_⟩⟩
      refine Need.mk (by decide) ?_
      refine Fits.mk ?_
      refine Need.mk (by decide) ?_
      refine Fits.mk ?_
      refine Fits.mk ?_
      refine Room.mk (by simp [encB]; omega) ?_
      refine fits (wrap64 (by omega) (by omega)) ?_
      refine ⟨[], [0, 4, 2], rfl, ⟨i + 1, bs ++ three (getO o (fieldsOf o.k)[i]), ?_, ?_, hlt, ?_⟩, ?_⟩
      · rw [show (((i + 1 : Nat)) : Int) = ((i : Nat) : Int) + 1 by omega]
        rfl
      · rw [encB_app, hff]; rfl
      · rw [hbs, List.take_succ_eq_append_getElem hlt, List.flatMap_append, List.flatMap_cons, List.flatMap_nil, List.append_nil, List.cons_append]
      · show (fieldsOf o.k).length - (((i : Nat) : Int) + 1).toNat < (fieldsOf o.k).length - ((i : Nat) : Int).toNat
        omega
  · have hge : i = (fieldsOf o.k).length := by
      have : ¬ i < (fieldsOf o.k).length := by simpa [encL_len] using h1
      omega
    rw [hge, List.take_length] at hbs
    refine IfB.mk (fun h2 => ?_) (fun h2 => ?_)
    · refine Room.mk (by simp [encB]; omega) ?_
      refine RetN.mk ⟨[4], rfl, rfl, ?_⟩
      have hk : o.k = 8 := by simpa using h2
      have : putO o = bs ++ [o.b] := by unfold putO; rw [if_pos hk, hbs]
      rw [this, encB_app]; rfl
    · refine RetN.mk ⟨[1], rfl, rfl, ?_⟩
      have hk : ¬ o.k = 8 := by simpa using h2
      have : putO o = bs := by unfold putO; rw [if_neg hk, hbs, List.append_nil]
      rw [this]; rfl
end Go.Ev.X
namespace Go.Ev.X
open Go.Ev Go.Ev.N

def IsO (o : O) : Prop := 0 ≤ o.b ∧ o.b < 256
def putAll (l : List O) : List Int := l.flatMap fun o => if take (putO o) = [o] then putO o else []

theorem w8_range (v : Int) : 0 ≤ w8 v ∧ w8 v < 256 := by
  unfold w8
  rw [IntKind.wrap_u8]
  omega
theorem isB_three (v : Int) : IsB (three v) := by
  intro b hb
  simp only [three, List.mem_cons, List.not_mem_nil, or_false] at hb
  rcases hb with rfl | rfl | rfl <;> exact w8_range _
theorem isB_put {o : O} (h : IsO o) : IsB (putO o) := by
  intro b hb
  unfold putO at hb
  simp only [List.cons_append, List.mem_cons, List.mem_append, List.mem_flatMap] at hb
  rcases hb with rfl | ⟨f, _, hb⟩ | hb
  · exact w8_range _
  · exact isB_three _ b hb
  · split at hb
    · simp at hb; subst hb; exact h
    · simp at hb
theorem put_len (o : O) : (putO o).length ≤ 8 := by
  unfold putO
  have := fieldsOf_len o.k
  have h2 : ((fieldsOf o.k).flatMap fun f => three (getO o f)).length ≤ 6 := by
    match fieldsOf o.k, this with
    | [], _ => simp
    | [_], _ => simp [three]
    | [_, _], _ => simp [three]
  have h3 : (if o.k = 8 then [o.b] else []).length ≤ 1 := by split <;> simp
  rw [List.length_append, List.length_cons]
  omega
theorem encO_inj {x y : O} (h : (((x.k == y.k) && ((x.p == y.p) && ((x.s == y.s) && ((x.a == y.a) && ((x.n == y.n) && ((x.b == y.b) && true))))))) = true) : x = y := by
  cases x; cases y; simp at h ⊢; exact h

set_option maxHeartbeats 8000000 in
theorem putAll_told (l : List O) (hO : ∀ o ∈ l, IsO o) (hl : l.length ≤ 1000000) : Told P T wire_Put [] [.lst t_api_Op (l.map encO)] (.ref 0) [.row t_uint8 (encB (putAll l))] := by
  have hll : (l.map encO).length = l.length := by simp
  refine told_of_ev (fn := wire_Put_fn) tabOk mixed (by kernel_rfl) (by kernel_rfl) (by kernel_rfl) (by kernel_rfl) ?_
  refine LoopN.mk ⟨[2, 7, 8, 9], fun vs L => ∃ i : Nat, vs = [.ref 0, .lst t_api_Op (l.map encO), .int .i64 (l.map encO).length, .int .i64 (i : Nat)] ∧ L = [.row t_uint8 (encB (putAll (l.take i)))] ∧ i ≤ l.length ∧ (putAll (l.take i)).length ≤ 8 * i,
    fun vs L => match vs with | [_, _, _, .int _ i] => l.length - i.toNat | _ => 0, [], [0], rfl, ⟨0, rfl, rfl, Nat.zero_le _, Nat.zero_le _⟩, ?_⟩
  rintro vs L ⟨i, rfl, rfl, hi, hlen⟩
  refine IfB.mk (fun h1 => ?_) (fun h1 => ?_)
  · have hlt : i < l.length := by simpa using h1
    have ho : IsO l[i] := hO _ (List.getElem_mem hlt)
    have hsucc : putAll (l.take (i + 1)) = putAll (l.take i) ++ (if take (putO l[i]) = [l[i]] then putO l[i] else []) := by
      unfold putAll
      rw [List.take_succ_eq_append_getElem hlt, List.flatMap_append, List.flatMap_cons, List.flatMap_nil, List.append_nil]
    have hpl := put_len l[i]
    refine Idx.mk ⟨encO l[i], by omega, by simp [hlt], ?_⟩
    refine Choice.mk ⟨false, Choice.mk ⟨false, _, _, put_told l[i], ?_⟩⟩
    refine Choice.mk ⟨false, Choice.mk ⟨false, _, _, take_told (putO l[i]) (isB_put ho) (by omega), ?_⟩⟩
    refine IfB.mk (fun h2 => ?_) (fun h2 => ?_)
    · have h3 : (take (putO l[i])).length = 1 := by simp at h2; omega
      obtain ⟨x, hx⟩ : ∃ x, take (putO l[i]) = [x] := by
        match take (putO l[i]), h3 with
        | [x], _ => exact ⟨x, rfl⟩
      rw [hx] at hsucc
      rw [hx]
      refine IfB.tt rfl ?_
      refine InB.mk (Int.le_refl _) (by show (0 : Int) < 1; decide) ?_
      refine IfB.tt rfl ?_
      refine At.mk ⟨encO x, rfl, ?_⟩
      refine IfB.tt rfl ?_
      refine IfB.tt rfl ?_
      refine Sure.mk (by kernel_rfl) ?_
      refine IfB.mk (fun h4 => ?_) (fun h4 => ?_)
      · have hxe : x = l[i] := encO_inj (by simpa using h4)
        rw [if_pos (by rw [hxe])] at hsucc
        refine Room.mk (by simp [encB]; omega) ?_
        refine fits (wrap64 (by omega) (by omega)) ?_
        refine ⟨[], [4], rfl, ⟨i + 1, ?_, ?_, hlt, by rw [hsucc, List.length_append]; omega⟩, ?_⟩
        · rw [show (((i + 1 : Nat)) : Int) = ((i : Nat) : Int) + 1 by omega]; rfl
        · rw [hsucc, encB_app]; rfl
        · show l.length - (((i : Nat) : Int) + 1).toNat < l.length - ((i : Nat) : Int).toNat
          omega
      · have hxe : ¬ [x] = [l[i]] := by
          intro e; simp at e; subst e; simp at h4
        rw [if_neg hxe, List.append_nil] at hsucc
        refine fits (wrap64 (by omega) (by omega)) ?_
        refine ⟨[], [0], rfl, ⟨i + 1, ?_, ?_, hlt, by rw [hsucc]; omega⟩, ?_⟩
        · rw [show (((i + 1 : Nat)) : Int) = ((i : Nat) : Int) + 1 by omega]; rfl
        · rw [hsucc]; rfl
        · show l.length - (((i : Nat) : Int) + 1).toNat < l.length - ((i : Nat) : Int).toNat
          omega
    · have h3 : ¬ take (putO l[i]) = [l[i]] := by
        intro e; rw [e] at h2; simp at h2
      rw [if_neg h3, List.append_nil] at hsucc
      rw [h2]
      refine IfB.ff rfl ?_
      refine IfB.ff rfl ?_
      refine IfB.ff rfl ?_
      refine IfB.ff rfl ?_
      refine Sure.mk (by kernel_rfl) ?_
      refine IfB.ff rfl ?_
      refine fits (wrap64 (by omega) (by omega)) ?_
      refine ⟨[], [0], rfl, ⟨i + 1, ?_, ?_, hlt, by rw [hsucc]; omega⟩, ?_⟩
      · rw [show (((i + 1 : Nat)) : Int) = ((i : Nat) : Int) + 1 by omega]; rfl
      · rw [hsucc]; rfl
      · show l.length - (((i : Nat) : Int) + 1).toNat < l.length - ((i : Nat) : Int).toNat
        omega
  · have hge : i = l.length := by
      have : ¬ i < l.length := by simpa using h1
      omega
    subst hge
    refine RetN.mk ⟨[0], rfl, rfl, ?_⟩
    show [Blk.row t_uint8 (encB (putAll (l.take l.length)))] = _
    rw [List.take_length]
end Go.Ev.X
namespace Go.Ev.W
open Go.Ev Go.Ev.N

abbrev u8 (n : Nat) : AV := .int .u8 (n : Int)
def IsB (l : List Nat) : Prop := ∀ x ∈ l, x < 256

end Go.Ev.W
namespace Go.Ev.W
open Go.Ev Go.Ev.N

/-- The least power of two that is not below a number. -/
def upN (v : Nat) : Nat := if v ≤ 1 then 1 else 2 ^ (Nat.log2 (v - 1) + 1)
theorem upN_pow (v : Nat) : ∃ k, upN v = 2 ^ k := by
  unfold upN; split
  · exact ⟨0, rfl⟩
  · exact ⟨_, rfl⟩
theorem le_upN (v : Nat) : v ≤ upN v := by
  unfold upN; split
  · assumption
  · have := Nat.lt_log2_self (n := v - 1); omega
theorem upN_le {v k : Nat} (h : v ≤ 2 ^ k) : upN v ≤ 2 ^ k := by
  unfold upN; split
  · exact Nat.one_le_two_pow
  · refine Nat.pow_le_pow_right (by omega) ?_
    rw [Nat.succ_le_iff, Nat.log2_lt (by omega)]
    omega
theorem upN_lt {v : Nat} (h : 1 ≤ v) : upN v < 2 * v := by
  unfold upN; split
  · omega
  · have := Nat.log2_self_le (n := v - 1) (by omega)
    rw [Nat.pow_succ]; omega
theorem upN_pos (v : Nat) : 1 ≤ upN v := by obtain ⟨k, h⟩ := upN_pow v; rw [h]; exact Nat.one_le_two_pow
theorem pow_lt_dbl {j k : Nat} (h : 2 ^ j < 2 ^ k) : 2 ^ j * 2 ≤ 2 ^ k := by
  have : j < k := (Nat.pow_lt_pow_iff_right (by omega)).1 h
  rw [← Nat.pow_succ]; exact Nat.pow_le_pow_right (by omega) this

/-- Which power of two. -/
def logF (v : Int) : Nat × Bool := if 1 ≤ v ∧ v = ((2 ^ Nat.log2 v.toNat : Nat) : Int) then (Nat.log2 v.toNat, true) else (0, false)
theorem logF_pow (k : Nat) : logF ((2 ^ k : Nat) : Int) = (k, true) := by
  have h := Nat.one_le_two_pow (n := k)
  have hl := Nat.log2_two_pow (n := k)
  unfold logF
  obtain ⟨q, hq⟩ : ∃ q, 2 ^ k = q := ⟨_, rfl⟩
  rw [hq] at h hl ⊢
  rw [Int.toNat_natCast, hl, hq, if_pos ⟨by omega, rfl⟩]

/-- What there is. -/
structure Cf where
  G : Nat
  N : Nat
  M : Nat
  L : Nat
  Pg : Nat
  P : Nat
  H : Nat
  Sd : Nat
  deriving DecidableEq
def eC (c : Cf) : AV := .agg [i64 c.G, i64 c.N, i64 c.M, i64 c.L, i64 c.Pg, i64 c.P, i64 c.H, i64 c.Sd]
/-- What is asked for. -/
structure Rw where
  g : Int
  l : Int
  m : Int
  p : Int
  b : Int
  s : Int
  deriving DecidableEq
def eR (r : Rw) : AV := .agg [i64 r.g, i64 r.l, i64 r.m, i64 r.p, i64 r.b, i64 r.s]
def cf0 : Cf := ⟨0, 0, 0, 0, 0, 0, 0, 0⟩
def inR (v : Int) : Bool := decide (1 ≤ v ∧ v ≤ 65536)
def Rw.ok (r : Rw) : Bool := inR r.g && inR r.l && inR r.m && inR r.p && decide (0 ≤ r.b ∧ r.b ≤ 65536) && decide (0 ≤ r.s ∧ r.s ≤ 255)
def rnd (v t : Nat) : Nat := if v % t = 0 then v else v - v % t + t
def cfOf (r : Rw) : Cf :=
  let g := upN r.g.toNat
  let n := upN (max r.l.toNat g)
  let pg := upN (max r.p.toNat g)
  let m := rnd r.m.toNat (2 * max n pg)
  let l := Nat.log2 (n / g)
  ⟨g, n, m, l, pg, r.b.toNat, m + l * (m / 2), r.s.toNat⟩
def ofF (r : Rw) : Cf × Nat := if r.ok = true ∧ (cfOf r).H ≤ 65536 then (cfOf r, 0) else (cf0, 1)

/-- What holds of what there is. -/
structure Cf.Ok (c : Cf) : Prop where
  g : ∃ a, c.G = 2 ^ a
  n : c.N = c.G * 2 ^ c.L
  p : ∃ e, c.Pg = c.G * 2 ^ e
  m : ∃ q, c.M = 2 * max c.N c.Pg * q
  m1 : 1 ≤ c.M
  h : c.H = c.M + c.L * (c.M / 2)
  h2 : c.H ≤ 65536
  b : c.P ≤ 65536
  s : c.Sd ≤ 255
theorem pow_up {g v : Nat} (hg : ∃ a, g = 2 ^ a) : ∃ e, upN (max v g) = g * 2 ^ e := by
  obtain ⟨a, rfl⟩ := hg
  obtain ⟨b, hb⟩ := upN_pow (max v (2 ^ a))
  have h1 := le_upN (max v (2 ^ a))
  rw [hb] at h1 ⊢
  have : a ≤ b := (Nat.pow_le_pow_iff_right (a := 2) (by omega)).1 (Nat.le_trans (Nat.le_max_right _ _) h1)
  exact ⟨b - a, by rw [← Nat.pow_add]; congr 1; omega⟩
theorem rnd_spec {v t : Nat} (h : 1 ≤ t) : ∃ q, rnd v t = t * q ∧ v ≤ rnd v t ∧ rnd v t < v + t := by
  have h1 := Nat.div_add_mod v t
  have h2 := Nat.mod_lt v h
  unfold rnd
  split
  · exact ⟨v / t, by omega, by omega, by omega⟩
  · refine ⟨v / t + 1, ?_, by omega, by omega⟩
    rw [Nat.mul_add]; omega
theorem log_of {G N k : Nat} (hg : 1 ≤ G) (h : N = G * 2 ^ k) : Nat.log2 (N / G) = k := by
  rw [h, Nat.mul_div_cancel_left _ (by omega), Nat.log2_two_pow]
theorem ofF_ok {r : Rw} (h : (ofF r).2 = 0) : (ofF r).1.Ok ∧ r.ok = true ∧ (ofF r).1 = cfOf r := by
  unfold ofF at h ⊢
  split at h
  · rename_i hh
    rw [if_pos hh]
    obtain ⟨hr, hH⟩ := hh
    refine ⟨?_, hr, rfl⟩
    simp only [Rw.ok, inR, Bool.and_eq_true, decide_eq_true_eq] at hr
    obtain ⟨⟨⟨⟨⟨r1, r2⟩, r3⟩, r4⟩, r5⟩, r6⟩ := hr
    have g := upN_pow r.g.toNat
    obtain ⟨k, hk⟩ := pow_up (v := r.l.toNat) g
    obtain ⟨e, he⟩ := pow_up (v := r.p.toNat) g
    have hg1 := upN_pos r.g.toNat
    have hn1 := upN_pos (max r.l.toNat (upN r.g.toNat))
    have hlog := log_of hg1 hk
    obtain ⟨q, q1, q2, q3⟩ := rnd_spec (v := r.m.toNat) (t := 2 * max (upN (max r.l.toNat (upN r.g.toNat))) (upN (max r.p.toNat (upN r.g.toNat)))) (by omega)
    exact ⟨g, by show upN _ = upN _ * 2 ^ Nat.log2 _; rw [hlog]; exact hk, ⟨e, he⟩, ⟨q, q1⟩, by show 1 ≤ rnd _ _; omega, rfl, hH, by show r.b.toNat ≤ _; omega, by show r.s.toNat ≤ _; omega⟩
  · cases h

theorem Cf.Ok.gpos {c : Cf} (h : c.Ok) : 1 ≤ c.G := by obtain ⟨a, e⟩ := h.g; rw [e]; exact Nat.one_le_two_pow
theorem Cf.Ok.nM {c : Cf} (h : c.Ok) : 2 * c.N ≤ c.M := by
  obtain ⟨q, e⟩ := h.m
  have := h.m1
  cases q with
  | zero => rw [Nat.mul_zero] at e; omega
  | succ q =>
    rw [Nat.mul_succ] at e
    have := Nat.zero_le (2 * max c.N c.Pg * q)
    omega
theorem Cf.Ok.mH {c : Cf} (h : c.Ok) : c.M ≤ 65536 := by have := h.h; have := h.h2; omega
theorem Cf.Ok.lL {c : Cf} (h : c.Ok) : c.L ≤ 16 := by
  have h1 := h.nM
  have h2 := h.mH
  have h3 := h.n
  have h4 := h.gpos
  have h5 : 2 ^ c.L ≤ 2 ^ 15 := by
    have : 1 * 2 ^ c.L ≤ c.G * 2 ^ c.L := Nat.mul_le_mul_right _ h4
    omega
  have := (Nat.pow_le_pow_iff_right (a := 2) (by omega)).1 h5
  omega
end Go.Ev.W
namespace Go.Ev.X
open Go.Ev Go.Ev.N

/-- What six numbers are made of. -/
def rw3 (bs : List Int) (i : Nat) : Int := rd3 (bs.getD (3 * i) 0) (bs.getD (3 * i + 1) 0) (bs.getD (3 * i + 2) 0)
def rawK (bs : List Int) (k : Nat) : AV := .agg [.int .i64 (if 0 < k then rw3 bs 0 else 0), .int .i64 (if 1 < k then rw3 bs 1 else 0), .int .i64 (if 2 < k then rw3 bs 2 else 0), .int .i64 (if 3 < k then rw3 bs 3 else 0), .int .i64 (if 4 < k then rw3 bs 4 else 0), .int .i64 0]
def rawB (bs : List Int) : W.Rw := ⟨rw3 bs 0, rw3 bs 1, rw3 bs 2, rw3 bs 3, rw3 bs 4, bs.getD 15 0⟩
theorem idx_b {bs : List Int} {i : Int} {Q : AV → Prop} (k : Nat) (e : i = k) (h : k < bs.length) (q : Q (.int .u8 (bs.getD k 0))) : Idx (encB bs) i Q := by
  refine ⟨_, by omega, ?_, q⟩
  subst e
  simp [encB, List.getD_eq_getElem?_getD, h]
theorem at_bd {bs : List Int} (hb : IsB bs) (k : Nat) : 0 ≤ bs.getD k 0 ∧ bs.getD k 0 < 256 := by
  rw [List.getD_eq_getElem?_getD]
  by_cases h : k < bs.length
  · rw [List.getElem?_eq_getElem h]; exact hb _ (List.getElem_mem h)
  · rw [List.getElem?_eq_none (by omega)]; simp
set_option maxRecDepth 20000 in
set_option maxHeartbeats 4000000 in
theorem decode_short {bs : List Int} (h : bs.length < 16) : Told P T play_Decode [] [.lst t_uint8 (encB bs)] (.tup [W.eR ⟨0, 0, 0, 0, 0, 0⟩, .lst t_api_Op [], .bool false]) [] := by
  have hle : (encB bs).length = bs.length := by simp [encB]
  refine told_of_ev (fn := play_Decode_fn) tabOk mixed (by kernel_rfl) (by kernel_rfl) (by kernel_rfl) (by kernel_rfl) ?_
  (refine gw ?_; refine IfB.tt (by rw [hle]; simp; omega) ?_)
  (refine gw ?_)
  exact RetN.fz ⟨[false, true, false], [], rfl, rfl, rfl⟩
set_option maxRecDepth 20000 in
set_option maxHeartbeats 8000000 in
theorem decode_told {bs : List Int} (hb : IsB bs) (hl : bs.length ≤ 1000000) (h : 16 ≤ bs.length) : Told P T play_Decode [] [.lst t_uint8 (encB bs)] (.tup [W.eR (rawB bs), .lst t_api_Op ((take (bs.drop 16)).map encO), .bool true]) [] := by
  have hle : (encB bs).length = bs.length := by simp [encB]
  have c1 := take_told (bs.drop 16) (fun x hx => hb x (List.mem_of_mem_drop hx)) (by rw [List.length_drop]; omega)
  refine told_of_ev (fn := play_Decode_fn) tabOk mixed (by kernel_rfl) (by kernel_rfl) (by kernel_rfl) (by kernel_rfl) ?_
  (refine gw ?_; refine IfB.ff (by rw [hle]; simp; omega) ?_)
  (refine gw ?_; refine LoopN.mk ⟨[0,2,16,17,18], fun vs L => ∃ k : Nat, vs = [.lst t_uint8 (encB bs), .ptr 0 0 0, .fsub 1 5, .int .i64 5, .int .i64 k] ∧ L = [.var (rawK bs k), .var (.agg [.ptr 0 0 0, .ptr 0 0 1, .ptr 0 0 2, .ptr 0 0 3, .ptr 0 0 4])] ∧ k ≤ 5, fun vs L => match vs with | [_, _, _, _, .int _ i] => 5 - i.toNat | _ => 0, [], [0,2], rfl, ⟨0, rfl, rfl, by omega⟩, ?_⟩)
  rintro vs L ⟨k, rfl, rfl, hk⟩
  by_cases hk5 : k < 5
  · rcases (by omega : k = 0 ∨ k = 1 ∨ k = 2 ∨ k = 3 ∨ k = 4) with rfl | rfl | rfl | rfl | rfl
    · have b0 := at_bd hb 0
      have b1 := at_bd hb 1
      have b2 := at_bd hb 2
      have hor := rd3_or b0 b1 b2
      have hbits : IntKind.i64.bits = 64 := rfl
      have s1 : bs.getD 0 0 * 2 ^ min (16 : Int).toNat IntKind.i64.bits = bs.getD 0 0 * 65536 := by rw [hbits]; rfl
      have s2 : bs.getD 1 0 * 2 ^ min (8 : Int).toNat IntKind.i64.bits = bs.getD 1 0 * 256 := by rw [hbits]; rfl
      unfold rawK
      (refine gw ?_)
      refine idx_b 0 (by omega) (by omega) ?_
      (refine gw ?_)
      rw [s1]
      try (refine fits (wrap64 ?_ ?_) ?_; (focus omega); (focus omega))
      (refine gw ?_)
      refine idx_b 1 (by omega) (by omega) ?_
      (refine gw ?_)
      rw [s2]
      try (refine fits (wrap64 ?_ ?_) ?_; (focus omega); (focus omega))
      (refine gw ?_)
      refine idx_b 2 (by omega) (by omega) ?_
      (refine gw ?_)
      rw [hor]
      (refine gw ?_)
      refine ⟨[], [0, 1], rfl, ⟨1, rfl, rfl, by omega⟩, (by decide : 5 - (((0 : Nat) : Int) + 1).toNat < 5 - ((0 : Nat) : Int).toNat)⟩
    · have b0 := at_bd hb 3
      have b1 := at_bd hb 4
      have b2 := at_bd hb 5
      have hor := rd3_or b0 b1 b2
      have hbits : IntKind.i64.bits = 64 := rfl
      have s1 : bs.getD 3 0 * 2 ^ min (16 : Int).toNat IntKind.i64.bits = bs.getD 3 0 * 65536 := by rw [hbits]; rfl
      have s2 : bs.getD 4 0 * 2 ^ min (8 : Int).toNat IntKind.i64.bits = bs.getD 4 0 * 256 := by rw [hbits]; rfl
      unfold rawK
      (refine gw ?_)
      refine idx_b 3 (by omega) (by omega) ?_
      (refine gw ?_)
      rw [s1]
      try (refine fits (wrap64 ?_ ?_) ?_; (focus omega); (focus omega))
      (refine gw ?_)
      refine idx_b 4 (by omega) (by omega) ?_
      (refine gw ?_)
      rw [s2]
      try (refine fits (wrap64 ?_ ?_) ?_; (focus omega); (focus omega))
      (refine gw ?_)
      refine idx_b 5 (by omega) (by omega) ?_
      (refine gw ?_)
      rw [hor]
      (refine gw ?_)
      refine ⟨[], [0, 1], rfl, ⟨2, rfl, rfl, by omega⟩, (by decide : 5 - (((1 : Nat) : Int) + 1).toNat < 5 - ((1 : Nat) : Int).toNat)⟩
    · have b0 := at_bd hb 6
      have b1 := at_bd hb 7
      have b2 := at_bd hb 8
      have hor := rd3_or b0 b1 b2
      have hbits : IntKind.i64.bits = 64 := rfl
      have s1 : bs.getD 6 0 * 2 ^ min (16 : Int).toNat IntKind.i64.bits = bs.getD 6 0 * 65536 := by rw [hbits]; rfl
      have s2 : bs.getD 7 0 * 2 ^ min (8 : Int).toNat IntKind.i64.bits = bs.getD 7 0 * 256 := by rw [hbits]; rfl
      unfold rawK
      (refine gw ?_)
      refine idx_b 6 (by omega) (by omega) ?_
      (refine gw ?_)
      rw [s1]
      try (refine fits (wrap64 ?_ ?_) ?_; (focus omega); (focus omega))
      (refine gw ?_)
      refine idx_b 7 (by omega) (by omega) ?_
      (refine gw ?_)
      rw [s2]
      try (refine fits (wrap64 ?_ ?_) ?_; (focus omega); (focus omega))
      (refine gw ?_)
      refine idx_b 8 (by omega) (by omega) ?_
      (refine gw ?_)
      rw [hor]
      (refine gw ?_)
      refine ⟨[], [0, 1], rfl, ⟨3, rfl, rfl, by omega⟩, (by decide : 5 - (((2 : Nat) : Int) + 1).toNat < 5 - ((2 : Nat) : Int).toNat)⟩
    · have b0 := at_bd hb 9
      have b1 := at_bd hb 10
      have b2 := at_bd hb 11
      have hor := rd3_or b0 b1 b2
      have hbits : IntKind.i64.bits = 64 := rfl
      have s1 : bs.getD 9 0 * 2 ^ min (16 : Int).toNat IntKind.i64.bits = bs.getD 9 0 * 65536 := by rw [hbits]; rfl
      have s2 : bs.getD 10 0 * 2 ^ min (8 : Int).toNat IntKind.i64.bits = bs.getD 10 0 * 256 := by rw [hbits]; rfl
      unfold rawK
      (refine gw ?_)
      refine idx_b 9 (by omega) (by omega) ?_
      (refine gw ?_)
      rw [s1]
      try (refine fits (wrap64 ?_ ?_) ?_; (focus omega); (focus omega))
      (refine gw ?_)
      refine idx_b 10 (by omega) (by omega) ?_
      (refine gw ?_)
      rw [s2]
      try (refine fits (wrap64 ?_ ?_) ?_; (focus omega); (focus omega))
      (refine gw ?_)
      refine idx_b 11 (by omega) (by omega) ?_
      (refine gw ?_)
      rw [hor]
      (refine gw ?_)
      refine ⟨[], [0, 1], rfl, ⟨4, rfl, rfl, by omega⟩, (by decide : 5 - (((3 : Nat) : Int) + 1).toNat < 5 - ((3 : Nat) : Int).toNat)⟩
    · have b0 := at_bd hb 12
      have b1 := at_bd hb 13
      have b2 := at_bd hb 14
      have hor := rd3_or b0 b1 b2
      have hbits : IntKind.i64.bits = 64 := rfl
      have s1 : bs.getD 12 0 * 2 ^ min (16 : Int).toNat IntKind.i64.bits = bs.getD 12 0 * 65536 := by rw [hbits]; rfl
      have s2 : bs.getD 13 0 * 2 ^ min (8 : Int).toNat IntKind.i64.bits = bs.getD 13 0 * 256 := by rw [hbits]; rfl
      unfold rawK
      (refine gw ?_)
      refine idx_b 12 (by omega) (by omega) ?_
      (refine gw ?_)
      rw [s1]
      try (refine fits (wrap64 ?_ ?_) ?_; (focus omega); (focus omega))
      (refine gw ?_)
      refine idx_b 13 (by omega) (by omega) ?_
      (refine gw ?_)
      rw [s2]
      try (refine fits (wrap64 ?_ ?_) ?_; (focus omega); (focus omega))
      (refine gw ?_)
      refine idx_b 14 (by omega) (by omega) ?_
      (refine gw ?_)
      rw [hor]
      (refine gw ?_)
      refine ⟨[], [0, 1], rfl, ⟨5, rfl, rfl, by omega⟩, (by decide : 5 - (((4 : Nat) : Int) + 1).toNat < 5 - ((4 : Nat) : Int).toNat)⟩
  obtain rfl : k = 5 := by omega
  rw [show encB (bs.drop 16) = (encB bs).drop 16 from (encB_drop bs 16).symm] at c1
  (refine gw ?_)
  refine idx_b 15 (by omega) (by omega) ?_
  (refine gw ?_)
  have b15 := at_bd hb 15
  refine fits (wrap64 (by omega) (by omega)) ?_
  (refine gw ?_)
  refine Cut.mk (by omega) (by rw [hle]; omega) (by rw [hle]; omega) ?_
  (refine gw ?_; refine Choice.mk ⟨false, Choice.mk ⟨false, _, _, c1, ?_⟩⟩)
  (refine gw ?_)
  exact RetN.fz ⟨[false, true, false], [], rfl, rfl, rfl⟩
end Go.Ev.X
namespace Go.Ev.X
open Go.Ev Go.Ev.N
open Go.Ev.W (i64)

/-- The bytes of what there is, and of calls. -/
def headF (r : W.Rw) : List Int := three r.g ++ three r.l ++ three r.m ++ three r.p ++ three r.b ++ [w8 r.s]
def encF (r : W.Rw) (l : List O) : List Int := headF r ++ putAll l
theorem putAll_le : ∀ (l : List O), (putAll l).length ≤ 8 * l.length
  | [] => by simp [putAll]
  | o :: l => by
    have h := putAll_le l
    have h2 := put_len o
    have e : putAll (o :: l) = (if take (putO o) = [o] then putO o else []) ++ putAll l := by simp [putAll]
    rw [e, List.length_append, List.length_cons]
    split
    · omega
    · simp; omega
def fields5 (r : W.Rw) : List Int := [r.g, r.l, r.m, r.p, r.b]
set_option maxRecDepth 20000 in
set_option maxHeartbeats 8000000 in
theorem encode_told (r : W.Rw) {l : List O} (ho : ∀ o ∈ l, IsO o) (hl : l.length ≤ 100000) : Told P T play_Encode [] [W.eR r, .lst t_api_Op (l.map encO)] (.lst t_uint8 (encB (encF r l))) [] := by
  have c1 := putAll_told l ho (by omega)
  have hpl := putAll_le l
  have hle : (encB (putAll l)).length = (putAll l).length := by simp [encB]
  unfold W.eR
  refine told_of_ev (fn := play_Encode_fn) tabOk mixed (by kernel_rfl) (by kernel_rfl) (by kernel_rfl) (by kernel_rfl) ?_
  (refine gw ?_; refine LoopN.mk ⟨[1,2,4,17,18,19], fun vs L => ∃ (k : Nat) (bs : List Int), vs = [.lst t_api_Op (l.map encO), .ptr 0 0 0, .ref 1, .ref 2, i64 5, i64 k] ∧ L = [.var (W.eR r), .row t_uint8 (encB bs), .row t_int ((fields5 r).map i64)] ∧ k ≤ 5 ∧ bs = ((fields5 r).take k).flatMap three, fun vs L => match vs with | [_, _, _, _, _, .int _ i] => 5 - i.toNat | _ => 0, [], [0,1,2], rfl, ⟨0, [], rfl, rfl, by omega, rfl⟩, ?_⟩)
  rintro vs L ⟨k, bs, rfl, rfl, hk, hbs⟩
  have hbl : bs.length ≤ 15 := by
    rw [hbs]
    rcases (by omega : k = 0 ∨ k = 1 ∨ k = 2 ∨ k = 3 ∨ k = 4 ∨ k = 5) with rfl | rfl | rfl | rfl | rfl | rfl <;> simp [fields5, three]
  have hbe : (encB bs).length = bs.length := by simp [encB]
  by_cases hk5 : k < 5
  · have hkl : k < (fields5 r).length := hk5
    have hx : ∀ Q : AV → Prop, Q (i64 (fields5 r)[k]) → At ((fields5 r).map i64) ((k : Nat) : Int).toNat Q := fun Q q => W.at_map (k := k) hkl q
    have hs : ((fields5 r).take (k + 1)).flatMap three = bs ++ three (fields5 r)[k] := by
      rw [hbs, List.take_succ_eq_append_getElem hkl, List.flatMap_append, List.flatMap_cons, List.flatMap_nil, List.append_nil]
    generalize (fields5 r)[k] = v at *
    (refine gw ?_; refine IfB.tt (by simp; omega) ?_)
    (refine gw ?_)
    refine InB.mk (by omega) (by simp [fields5]; omega) ?_
    (refine gw ?_)
    refine hx _ ?_
    (refine gw ?_)
    refine Fits.mk ?_
    (refine gw ?_)
    refine Fits.mk ?_
    (refine gw ?_)
    refine Fits.mk ?_
    (refine gw ?_)
    refine Room.mk (by rw [hbe]; simp; omega) ?_
    have e3 : encB (bs ++ three v) = encB bs ++ encB (three v) := encB_app _ _
    (refine gw ?_)
    refine ⟨[], [0, 4, 2], rfl, ⟨k + 1, bs ++ three v, rfl, by rw [e3]; rfl, hk5, by rw [hs]⟩, (by omega : 5 - ((k : Int) + 1).toNat < 5 - (k : Int).toNat)⟩
  obtain rfl : k = 5 := by omega
  have hb5 : bs = three r.g ++ three r.l ++ three r.m ++ three r.p ++ three r.b := by rw [hbs]; simp [fields5]
  have e1 : encB (encF r l) = (encB bs ++ [.int .u8 (w8 r.s)]) ++ encB (putAll l) := by
    unfold encF headF
    rw [encB_app, encB_app, hb5]; rfl
  rw [e1]
  (refine gw ?_)
  refine Fits.mk ?_
  (refine gw ?_)
  refine Room.mk (by rw [hbe]; simp; omega) ?_
  (refine gw ?_; refine Choice.mk ⟨false, Choice.mk ⟨false, _, _, c1, ?_⟩⟩)
  (refine gw ?_)
  refine Room.mk (by rw [List.length_append, hbe, hle]; simp; omega) ?_
  (refine gw ?_)
  exact RetN.fz ⟨[true], [], rfl, rfl, rfl⟩
end Go.Ev.X
