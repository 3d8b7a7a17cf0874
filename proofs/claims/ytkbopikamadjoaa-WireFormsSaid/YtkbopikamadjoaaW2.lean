/- Words and lemmas for the law s of this seat (a part of its proof). -/
import Derived.Test.YtkbopikamadjoaaW1
set_option linter.unusedVariables false
set_option linter.unusedSimpArgs false
namespace Go.Ev
theorem IfB.tt {b : Bool} {P R : Prop} (h : b = true) (p : P) : IfB b P R := ⟨fun _ => p, fun e => (by rw [h] at e; cases e)⟩
theorem IfB.ff {b : Bool} {P R : Prop} (h : b = false) (p : R) : IfB b P R := ⟨fun e => (by rw [h] at e; cases e), fun _ => p⟩
end Go.Ev
namespace Go.Ev.W
open Go.Ev Go.Ev.N

def fieldsOf (k : Int) : List UInt8 :=
  if k = 1 then [83] else if k = 2 then [78, 83] else if k = 3 then [83, 65] else if k = 4 then [80, 83] else if k = 5 then [80] else if k = 6 then [80] else if k = 7 then [80, 78] else if k = 8 then [80, 78] else []

theorem fields_told (k : Int) : Told P T wire_fields [] [.int .i64 k] (.str ⟨(fieldsOf k).toArray⟩) [] := by
  refine told_of_ev (fn := wire_fields_fn) tabOk mixed (by kernel_rfl) (by kernel_rfl) (by kernel_rfl) (by kernel_rfl) ?_
  refine IfB.mk (fun h1 => ?_) (fun h1 => ?_)
  · refine RetN.mk ⟨[], rfl, ?_, rfl⟩
    simp only [beq_iff_eq] at h1; subst h1; rfl
  refine IfB.mk (fun h2 => ?_) (fun h2 => ?_)
  · refine RetN.mk ⟨[], rfl, ?_, rfl⟩
    simp only [beq_iff_eq] at h2; subst h2; rfl
  refine IfB.mk (fun h3 => ?_) (fun h3 => ?_)
  · refine RetN.mk ⟨[], rfl, ?_, rfl⟩
    simp only [beq_iff_eq] at h3; subst h3; rfl
  refine IfB.mk (fun h4 => ?_) (fun h4 => ?_)
  · refine RetN.mk ⟨[], rfl, ?_, rfl⟩
    simp only [beq_iff_eq] at h4; subst h4; rfl
  refine IfB.mk (fun h5 => ?_) (fun h5 => ?_)
  · refine IfB.tt h5 ?_
    refine RetN.mk ⟨[], rfl, ?_, rfl⟩
    simp only [beq_iff_eq] at h5; subst h5; rfl
  refine IfB.mk (fun h6 => ?_) (fun h6 => ?_)
  · refine RetN.mk ⟨[], rfl, ?_, rfl⟩
    simp only [beq_iff_eq] at h6; subst h6; rfl
  refine IfB.mk (fun h7 => ?_) (fun h7 => ?_)
  · refine IfB.tt h7 ?_
    refine RetN.mk ⟨[], rfl, ?_, rfl⟩
    simp only [beq_iff_eq] at h7; subst h7; rfl
  refine IfB.mk (fun h8 => ?_) (fun h8 => ?_)
  · refine RetN.mk ⟨[], rfl, ?_, rfl⟩
    simp only [beq_iff_eq] at h8; subst h8; rfl
  · refine RetN.mk ⟨[], rfl, ?_, rfl⟩
    show AV.str _ = AV.str _
    simp only [beq_eq_false_iff_ne, ne_eq] at h1 h2 h3 h4 h5 h6 h7 h8
    simp [fieldsOf, *]

/-- Which cell a letter names. -/
def cellOf (b : Int) : Nat := if b = 80 then 1 else if b = 83 then 2 else if b = 65 then 3 else 4

theorem field_told (o : O) (b : Int) : Told P T wire_field [.var (encO o)] [.ptr 0 0 0, .int .u8 b] (.ptr 0 0 (cellOf b)) [.var (encO o)] := by
  refine told_of_ev (fn := wire_field_fn) tabOk mixed (by kernel_rfl) (by kernel_rfl) (by kernel_rfl) (by kernel_rfl) ?_
  refine IfB.mk (fun h1 => ?_) (fun h1 => ?_)
  · refine RetN.mk ⟨[], rfl, ?_, rfl⟩
    simp only [beq_iff_eq] at h1; subst h1; rfl
  refine IfB.mk (fun h2 => ?_) (fun h2 => ?_)
  · refine RetN.mk ⟨[], rfl, ?_, rfl⟩
    simp only [beq_iff_eq] at h2; subst h2; rfl
  refine IfB.mk (fun h3 => ?_) (fun h3 => ?_)
  · refine RetN.mk ⟨[], rfl, ?_, rfl⟩
    simp only [beq_iff_eq] at h3; subst h3; rfl
  · refine RetN.mk ⟨[], rfl, ?_, rfl⟩
    show AV.ptr 0 0 4 = AV.ptr 0 0 _
    simp only [beq_eq_false_iff_ne, ne_eq] at h1 h2 h3
    simp [cellOf, *]

/-- A call's number. -/
def setO (o : O) (b : UInt8) (v : Int) : O := if b = 80 then { o with p := v } else if b = 83 then { o with s := v } else if b = 65 then { o with a := v } else { o with n := v }
def rd3 (a b c : Int) : Int := a * 65536 + b * 256 + c
def fillO : List UInt8 → List Int → O → O × Option (List Int)
  | [], bs, o => (o, some bs)
  | f :: fs, b0 :: b1 :: b2 :: bs, o => fillO fs bs (setO o f (rd3 b0 b1 b2))
  | _ :: _, _, o => (o, none)
def IsB (bs : List Int) : Prop := ∀ b ∈ bs, 0 ≤ b ∧ b < 256
def encB (bs : List Int) : List AV := bs.map fun b => .int .u8 b

/-- What stands behind a kind: the call, how many bytes, is it there? -/
def one (k : Int) (bs : List Int) : O × Nat × Bool :=
  match fillO (fieldsOf k) bs ⟨k, 0, 0, 0, 0, 0⟩ with
  | (o, .none) => (o, 0, false)
  | (o, some r) => if k ≠ 8 then (o, bs.length - r.length, true) else match r with
    | [] => (o, 0, false)
    | b :: _ => ({ o with b := b }, bs.length - r.length + 1, true)

theorem or_add (x y : Nat) (i : Nat) (hy : y < 2 ^ i) (hx : x * 2 ^ i + y < 9223372036854775808) : bitsOp .or .i64 ((x * 2 ^ i : Nat) : Int) (y : Int) = ((x * 2 ^ i + y : Nat) : Int) := by
  generalize hX : x * 2 ^ i = X at hx
  have h1 : X < 2 ^ 64 := by omega
  have h2 : y < 2 ^ 64 := by omega
  have e : (BitVec.ofInt 64 (X : Int) ||| BitVec.ofInt 64 (y : Int)).toNat = X + y := by
    rw [BitVec.toNat_or, BitVec.ofInt_natCast, BitVec.ofInt_natCast, BitVec.toNat_ofNat, BitVec.toNat_ofNat, Nat.mod_eq_of_lt h1, Nat.mod_eq_of_lt h2]
    rw [← hX, ← Nat.shiftLeft_eq, ← Nat.shiftLeft_add_eq_or_of_lt hy]
  show IntKind.i64.wrap ((BitVec.ofInt 64 (X : Int) ||| BitVec.ofInt 64 (y : Int)).toNat : Int) = _
  rw [e]
  exact wrap64 (by omega) (by omega)

theorem rd3_cast (x y z : Nat) : (((x * 256 + y) * 256 + z : Nat) : Int) = rd3 x y z := by
  simp only [rd3]
  omega
theorem rd3_or {a b c : Int} (ha : 0 ≤ a ∧ a < 256) (hb : 0 ≤ b ∧ b < 256) (hc : 0 ≤ c ∧ c < 256) : bitsOp .or .i64 (bitsOp .or .i64 (a * 65536) (b * 256)) c = rd3 a b c := by
  obtain ⟨x, rfl⟩ := Int.eq_ofNat_of_zero_le ha.1
  obtain ⟨y, rfl⟩ := Int.eq_ofNat_of_zero_le hb.1
  obtain ⟨z, rfl⟩ := Int.eq_ofNat_of_zero_le hc.1
  have h1 := or_add x (y * 256) 16 (by omega) (by omega)
  have e1 : ((x * 2 ^ 16 : Nat) : Int) = (x : Int) * 65536 := by simp
  have e2 : ((y * 256 : Nat) : Int) = (y : Int) * 256 := by simp
  rw [e1, e2] at h1
  rw [h1]
  have h2 := or_add (x * 256 + y) z 8 (by omega) (by omega)
  rw [show (2 : Nat) ^ 8 = 256 from rfl] at h2
  rw [show (2 : Nat) ^ 16 = 65536 from rfl]
  rw [show x * 65536 + y * 256 = (x * 256 + y) * 256 by omega, h2]
  exact rd3_cast x y z
end Go.Ev.W
