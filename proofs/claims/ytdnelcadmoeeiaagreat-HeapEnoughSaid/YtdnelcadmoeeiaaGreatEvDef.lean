/- An abstract evaluator over the model's Code: words alone. -/
import Derived.Tactics
set_option linter.unusedVariables false
set_option linter.unusedSimpArgs false
namespace Go.Ev

/-- Abstract values. lst: a slice whose cells nobody writes any more (element type, elements). ref: a whole slice that is the call's own (a row of the local heap); sub: a window of such. ptr: a place in the local heap (block, element, cell); eptr: a place in a value that nobody writes. -/
inductive AV where
  | und
  | skp
  | int (k : IntKind) (n : Int)
  | bool (b : Bool)
  | str (s : ByteArray)
  | lst (e : Nat) (es : List AV)
  | nsl (e : Nat)
  | ref (b : Nat)
  | sub (b i n : Nat)
  | fsub (b n : Nat)
  | ptr (b i off : Nat)
  | eptr (x : AV) (off : Nat)
  | npt
  | agg (cs : List AV)
  | tup (xs : List AV)
  | fn (f : Nat) (caps : List AV)
  | mp (b : Nat)
  | nmp
  | gref (b i : Nat)
  | gptr (b i j off : Nat)

/-- A block of the local heap. none: not there yet; dead: gone; fv, fz: nobody writes it any more; rowc: a row whose capacity is known; grid: a row of rows, of which some (true) are its own, the others lie where nobody writes; fzg: a grid that nobody writes any more, and that nothing leads to. -/
inductive Blk where
  | none
  | dead
  | var (x : AV)
  | fv (x : AV)
  | row (e : Nat) (es : List AV)
  | fz (e : Nat) (es : List AV)
  | map (kt : Nat) (es : List (AV × AV))
  | rowc (e : Nat) (es : List AV) (c : Nat)
  | grid (e e' : Nat) (gs : List (Bool × List AV))
  | fzg (e : Nat) (es : List AV)

abbrev AHeap := Nat → Blk
abbrev St := Nat → AV
abbrev Ups := List (Nat × Blk)

def hset (h : AHeap) (b : Nat) (x : Blk) : AHeap := fun j => bif Nat.beq j b then x else h j
def happ (h : AHeap) : Ups → AHeap
  | [] => h
  | (b, x) :: us => happ (hset h b x) us
def aset (s : St) (d : Nat) (v : AV) : St := fun j => bif Nat.beq j d then v else s j
def aput (s : St) : Option Nat → AV → St
  | some d, v => aset s d v
  | .none, _ => s
def ofL (L : List Blk) : AHeap := fun b => L.getD b .none
def ofA (vs : List AV) : St := fun t => vs.getD t .und

def cells : AV → List AV
  | .agg cs => cs
  | x => [x]

/-- What is known of a type. -/
inductive TK where
  | int (k : IntKind)
  | bool
  | str
  | slice (e : Nat)
  | arr (n : Nat) (e : Nat)
  | struct (fs : List (Nat × Nat))
  | ptr (e : Nat)
  | map (k e : Nat)
  | func
  | other
structure TI where
  k : TK
  size : Nat
  bytes : Nat
  zero : AV
abbrev Tab := Nat → TI

def kOk : TK → Bool
  | .other => false
  | _ => true
/-- A slice type's element type. -/
def TK.elem : TK → Nat
  | .slice e => e
  | _ => 0
def TI.agg (t : TI) : Bool := match t.k with | .arr _ _ => true | .struct _ => true | _ => false

-- the nodes at which the run stops
structure IfB (b : Bool) (P R : Prop) : Prop where
  t : b = true → P
  f : b = false → R
structure Fits (k : IntKind) (n : Int) (P : Int → Prop) : Prop where
  p : P (k.wrap n)
structure Idx (es : List AV) (i : Int) (P : AV → Prop) : Prop where
  p : ∃ x, 0 ≤ i ∧ es[i.toNat]? = some x ∧ P x
structure InB (i : Int) (n : Nat) (P : Prop) : Prop where
  lo : 0 ≤ i
  hi : i < n
  p : P
structure At (es : List AV) (i : Nat) (P : AV → Prop) : Prop where
  p : ∃ x, es[i]? = some x ∧ P x
structure Need (c : Prop) (P : Prop) : Prop where
  c : c
  p : P
structure Cut (l m n : Int) (P : Nat → Nat → Prop) : Prop where
  lo : 0 ≤ l
  mid : l ≤ m
  hi : m ≤ n
  p : P l.toNat m.toNat
structure Room (n : Nat) (P : Prop) : Prop where
  n : n ≤ 4294967296
  p : P
structure Get (es : List (AV × AV)) (k : AV) (P : Option AV → Prop) (m : Option AV) : Prop where
  p : P m
structure Bytes (es : List AV) (P : ByteArray → Prop) : Prop where
  p : ∃ s : ByteArray, es = s.data.toList.map (fun b => .int .u8 b.toNat) ∧ P s
structure Choice (P : Bool → Prop) : Prop where
  p : ∃ b, P b
/-- What is to be looked at by the kernel alone. -/
structure Sure (b : Bool) (P : Prop) : Prop where
  h : b = true
  p : P
/-- A bool, a number that is left open. -/
structure AnyB (c : Bool → Prop) (P : Bool → Prop) : Prop where
  p : ∀ b, c b → P b
structure AnyN (n : Nat) (P : Nat → Prop) : Prop where
  p : ∀ c, n ≤ c → P c
/-- A row of rows that nobody writes, as a grid. -/
structure GOf (e : Nat) (es : List AV) (P : List (List AV) → Prop) : Prop where
  p : ∃ fs, es = fs.map (.lst e) ∧ P fs
/-- One row of a grid. -/
structure GNode (gs : List (Bool × List AV)) (i : Nat) (P : Bool → List AV → Prop) : Prop where
  p : ∃ o es, gs[i]? = some (o, es) ∧ P o es
structure Stuck : Prop where
  p : False

/-- A value once its head is known. -/
def force (v : AV) (K : AV → Prop) : Prop :=
  match v with
  | .und => K .und
  | .skp => K .skp
  | .int k n => K (.int k n)
  | .bool b => K (.bool b)
  | .str s => K (.str s)
  | .lst e es => K (.lst e es)
  | .nsl e => K (.nsl e)
  | .ref b => K (.ref b)
  | .sub b i n => K (.sub b i n)
  | .fsub b n => K (.fsub b n)
  | .ptr b i off => K (.ptr b i off)
  | .eptr x off => K (.eptr x off)
  | .npt => K .npt
  | .agg cs => K (.agg cs)
  | .tup xs => K (.tup xs)
  | .fn f caps => K (.fn f caps)
  | .mp b => K (.mp b)
  | .nmp => K .nmp
  | .gref b i => K (.gref b i)
  | .gptr b i j off => K (.gptr b i j off)

-- the same, once it is known: so that nothing is worked out twice
def forceN (n : Nat) (K : Nat → Prop) : Prop :=
  match n with
  | 0 => K 0
  | 1 => K 1
  | 2 => K 2
  | 3 => K 3
  | 4 => K 4
  | 5 => K 5
  | 6 => K 6
  | 7 => K 7
  | 8 => K 8
  | 9 => K 9
  | 10 => K 10
  | 11 => K 11
  | 12 => K 12
  | 13 => K 13
  | 14 => K 14
  | 15 => K 15
  | 16 => K 16
  | 17 => K 17
  | 18 => K 18
  | 19 => K 19
  | 20 => K 20
  | 21 => K 21
  | 22 => K 22
  | 23 => K 23
  | 24 => K 24
  | 25 => K 25
  | 26 => K 26
  | 27 => K 27
  | 28 => K 28
  | 29 => K 29
  | 30 => K 30
  | 31 => K 31
  | 32 => K 32
  | 33 => K 33
  | 34 => K 34
  | 35 => K 35
  | 36 => K 36
  | 37 => K 37
  | 38 => K 38
  | 39 => K 39
  | n => K n
def forceL : List Nat → (List Nat → Prop) → Prop
  | [], K => K []
  | b :: l, K => forceN b fun b => forceL l fun l => K (b :: l)
def forceC : List AV → (List AV → Prop) → Prop
  | [], K => K []
  | c :: l, K => force c fun c => forceC l fun l => K (c :: l)
def forceV (v : AV) (K : AV → Prop) : Prop :=
  force v fun v => match v with
    | .agg cs => forceC cs fun cs => K (.agg cs)
    | .fn f cs => forceC cs fun cs => K (.fn f cs)
    | v => K v
def forceVs : List AV → (List AV → Prop) → Prop
  | [], K => K []
  | c :: l, K => forceV c fun c => forceVs l fun l => K (c :: l)
def forceT (v : AV) (K : AV → Prop) : Prop :=
  forceV v fun v => match v with
    | .tup xs => forceVs xs fun xs => K (.tup xs)
    | v => K v
def forceB (x : Blk) (K : Blk → Prop) : Prop :=
  match x with
  | .none => K .none
  | .dead => K .dead
  | .var x => forceV x fun x => K (.var x)
  | .fv x => forceV x fun x => K (.fv x)
  | .row e es => forceN e fun e => K (.row e es)
  | .fz e es => forceN e fun e => K (.fz e es)
  | .map kt es => forceN kt fun kt => K (.map kt es)
  | .rowc e es c => forceN e fun e => K (.rowc e es c)
  | .grid e e' gs => forceN e fun e => forceN e' fun e' => K (.grid e e' gs)
  | .fzg e es => forceN e fun e => K (.fzg e es)
def forceU : Ups → (Ups → Prop) → Prop
  | [], K => K []
  | (b, x) :: us, K => forceN b fun b => forceB x fun x => forceU us fun us => K ((b, x) :: us)
def forceR (v : AV) (us : Ups) (nx : Nat) (K : AV → Ups → Nat → Prop) : Prop := forceT v fun v => forceU us fun us => forceN nx fun nx => K v us nx

/-- A constant, of a type. -/
def ofV (T : Tab) (t : Nat) : Value → AV
  | .int k n => .int k n
  | .bool b => .bool b
  | .string s => .str s
  | .slice .none 0 0 => match (T t).k with | .slice e => .nsl e | _ => .und
  | .pointer .none => .npt
  | .map .none => .nmp
  | _ => .und

def opnd (T : Tab) (t : Nat) (s : St) : Operand → AV
  | .tmp x => s x
  | .const v => ofV T t v
  | .func f => .fn f []
  | .global _ => .und

/-- Slices of nothing become rows of their own. -/
def nils : List AV → Nat → List AV × Ups × Nat
  | [], nx => ([], [], nx)
  | .nsl e :: cs, nx => let r := nils cs (nx + 1); (.ref nx :: r.1, (nx, .row e []) :: r.2.1, r.2.2)
  | c :: cs, nx => let r := nils cs nx; (c :: r.1, r.2.1, r.2.2)

def readAt (t : TI) (x : AV) (off : Nat) (K : AV → Prop) : Prop :=
  match kOk t.k with
  | false => Stuck
  | true => match t.agg with
  | true => match Nat.ble (off + t.size) (cells x).length with
    | true => K (.agg (((cells x).drop off).take t.size))
    | false => Stuck
  | false => match (cells x)[off]? with
    | some c => force c K
    | .none => Stuck

def splice (cs : List AV) (off : Nat) (ds : List AV) : List AV := cs.take off ++ (ds ++ cs.drop (off + ds.length))

/-- What lies in a place once something was stored. -/
def writeAt (x : AV) (off : Nat) (y : AV) : AV :=
  match x with
  | .agg cs => .agg (splice cs off (cells y))
  | _ => y

def isFz : AV → Bool
  | .und => true
  | .skp => true
  | .int _ _ => true
  | .bool _ => true
  | .str _ => true
  | .lst _ _ => true
  | .eptr _ _ => true
  | .npt => true
  | .nmp => true
  | _ => false

/-- A cell's value of which all is known. -/
def isCell : AV → Bool
  | .und => false
  | .skp => false
  | .agg _ => false
  | .tup _ => false
  | .fn _ _ => false
  | _ => true

/-- A cell that may lie where nobody writes. -/
def fzc (h : AHeap) : AV → AV × Ups
  | .ref b => match h b with
    | .row e es => (.lst e es, [(b, .fz e es)])
    | .fz e es => (.lst e es, [])
    | .grid e e' gs => (.lst e (gs.map fun g => .lst e' g.2), [(b, .fzg e (gs.map fun g => .lst e' g.2))])
    | _ => (.und, [])
  | .sub b i n => match h b with
    | .row e es => (.lst e ((es.drop i).take n), [(b, .fz e es)])
    | .fz e es => (.lst e ((es.drop i).take n), [])
    | _ => (.und, [])
  | .fsub b n => match h b with
    | .row e es => (.lst e (es.take n), [(b, .fz e es)])
    | .fz e es => (.lst e (es.take n), [])
    | _ => (.und, [])
  | .nsl e => (.lst e [], [])
  | .ptr b i off => match i, h b with
    | 0, .var x => match (cells x).all isFz with
      | true => (.eptr x off, [(b, .fv x)])
      | false => (.und, [])
    | 0, .fv x => (.eptr x off, [])
    | _, _ => (.und, [])
  | .mp _ => (.und, [])
  | .gref _ _ => (.und, [])
  | .gptr _ _ _ _ => (.und, [])
  | .agg _ => (.und, [])
  | .tup _ => (.und, [])
  | .fn _ _ => (.und, [])
  | x => (x, [])

def fzl (h : AHeap) : List AV → List AV × Ups
  | [] => ([], [])
  | c :: cs => let a := fzc h c; let r := fzl h cs; (a.1 :: r.1, a.2 ++ r.2)

/-- A value as one that nobody writes. -/
def fzv (h : AHeap) : AV → AV × Ups
  | .agg cs => let r := fzl h cs; (.agg r.1, r.2)
  | .fn f caps => let r := fzl h caps; (.fn f r.1, r.2)
  | x => fzc h x

-- a value in other blocks' numbers
def ren1 (σ : Nat → Option Nat) : AV → AV
  | .ref b => match σ b with | some c => .ref c | .none => .und
  | .sub b i n => match σ b with | some c => .sub c i n | .none => .und
  | .fsub b n => match σ b with | some c => .fsub c n | .none => .und
  | .ptr b i off => match σ b with | some c => .ptr c i off | .none => .und
  | .mp b => match σ b with | some c => .mp c | .none => .und
  | .gref b i => match σ b with | some c => .gref c i | .none => .und
  | .gptr b i j off => match σ b with | some c => .gptr c i j off | .none => .und
  | .agg _ => .und
  | .tup _ => .und
  | .fn f [] => .fn f []
  | .fn _ _ => .und
  | x => x
def ren2 (σ : Nat → Option Nat) : AV → AV
  | .agg cs => .agg (cs.map (ren1 σ))
  | .fn f caps => .fn f (caps.map (ren1 σ))
  | x => ren1 σ x
def ren3 (σ : Nat → Option Nat) : AV → AV
  | .tup xs => .tup (xs.map (ren2 σ))
  | x => ren2 σ x
def renB (σ : Nat → Option Nat) : Blk → Blk
  | .var x => .var (ren2 σ x)
  | .fv x => .fv (ren2 σ x)
  | x => x

def pos (l : List Nat) (b : Nat) : Option Nat :=
  match l with
  | [] => .none
  | c :: l => bif Nat.beq c b then some 0 else (match pos l b with | some n => some (n + 1) | .none => .none)

/-- Which blocks a value's cells lead to. -/
def leads1 : AV → List Nat
  | .ref b => [b]
  | .sub b _ _ => [b]
  | .fsub b _ => [b]
  | .ptr b _ _ => [b]
  | .mp b => [b]
  | .gref b _ => [b]
  | .gptr b _ _ _ => [b]
  | _ => []
def leadsB : Blk → List Nat
  | .var x => (cells x).flatMap leads1
  | .fv x => (cells x).flatMap leads1
  | _ => []

def kIx : IntKind → Nat
  | .i8 => 0 | .i16 => 1 | .i32 => 2 | .i64 => 3 | .u8 => 4 | .u16 => 5 | .u32 => 6 | .u64 => 7

def bitsOp (op : BinOp) (k : IntKind) (x y : Int) : Int :=
  k.wrap (match op with
    | .and => BitVec.ofInt k.bits x &&& BitVec.ofInt k.bits y
    | .or => BitVec.ofInt k.bits x ||| BitVec.ofInt k.bits y
    | .xor => BitVec.ofInt k.bits x ^^^ BitVec.ofInt k.bits y
    | _ => BitVec.ofInt k.bits x &&& ~~~(BitVec.ofInt k.bits y)).toNat

def binInt (op : BinOp) (k k' : IntKind) (a b : Int) (K : AV → Prop) : Prop :=
  match op with
  | .shl => Need (0 ≤ b) (Fits k (a * 2 ^ min b.toNat k.bits) fun n => K (.int k n))
  | .shr => Need (0 ≤ b) (K (.int k (a.fdiv (2 ^ min b.toNat k.bits))))
  | _ => match Nat.beq (kIx k) (kIx k') with
    | false => Stuck
    | true => match op with
      | .add => Fits k (a + b) fun n => K (.int k n)
      | .sub => Fits k (a - b) fun n => K (.int k n)
      | .mul => Fits k (a * b) fun n => K (.int k n)
      | .quo => Need (b ≠ 0) (Fits k (a.tdiv b) fun n => K (.int k n))
      | .rem => Need (b ≠ 0) (K (.int k (a.tmod b)))
      | .eql => K (.bool (a == b))
      | .neq => K (.bool (a != b))
      | .lss => K (.bool (decide (a < b)))
      | .leq => K (.bool (decide (a ≤ b)))
      | .gtr => K (.bool (decide (a > b)))
      | .geq => K (.bool (decide (a ≥ b)))
      | .and => K (.int k (bitsOp .and k a b))
      | .or => K (.int k (bitsOp .or k a b))
      | .xor => K (.int k (bitsOp .xor k a b))
      | .andNot => K (.int k (bitsOp .andNot k a b))
      | _ => Stuck

/-- Are two rows of cells alike (whole numbers and bools)? -/
def eqCells : List TK → List AV → List AV → (Bool → Prop) → Prop
  | [], [], [], K => K true
  | .int _ :: ks, .int k a :: cs, .int k' b :: ds, K => match Nat.beq (kIx k) (kIx k') with
    | true => eqCells ks cs ds fun r => K ((a == b) && r)
    | false => Stuck
  | .bool :: ks, .bool a :: cs, .bool b :: ds, K => eqCells ks cs ds fun r => K ((a == b) && r)
  | _, _, _, _ => Stuck

/-- Does each of a struct's fields lie in a cell of its own, in order? -/
def flatEq (T : Tab) (t : Nat) : Bool := match (T t).k with
  | .struct fs => (fs.zipIdx.all fun p => Nat.beq p.1.1 p.2) && Nat.beq fs.length (T t).size
  | _ => false
def kindsOf (T : Tab) (t : Nat) : List TK := match (T t).k with
  | .struct fs => fs.map fun f => (T f.2).k
  | _ => []

def isVar : Blk → Bool
  | .var _ => true
  | .fv _ => true
  | _ => false

def binV (T : Tab) (h : AHeap) (op : BinOp) (t : Nat) (x y : AV) (K : AV → Prop) : Prop :=
  match x, y with
  | .int k a, .int k' b => binInt op k k' a b K
  | .bool a, .bool b => match (T t).k with
    | .bool => match op with
      | .eql => K (.bool (a == b))
      | .neq => K (.bool (!(a == b)))
      | _ => Stuck
    | _ => Stuck
  | .str a, .str b => match op with
    | .eql => K (.bool (a.toList == b.toList))
    | .neq => K (.bool (!(a.toList == b.toList)))
    | .add => Room (a.size + b.size) (K (.str (a ++ b)))
    | _ => Stuck
  | .agg cs, .agg ds => match flatEq T t, op with
    | true, .eql => eqCells (kindsOf T t) cs ds fun r => K (.bool r)
    | true, .neq => eqCells (kindsOf T t) cs ds fun r => K (.bool (!r))
    | _, _ => Stuck
  | .npt, .npt => match (T t).k, op with
    | .ptr _, .eql => K (.bool true)
    | .ptr _, .neq => K (.bool false)
    | _, _ => Stuck
  | .ptr b _ _, .npt => match isVar (h b), (T t).k, op with
    | true, .ptr _, .eql => K (.bool false)
    | true, .ptr _, .neq => K (.bool true)
    | _, _, _ => Stuck
  | _, _ => Stuck

def eqKeys : List AV → List AV → Bool
  | [], [] => true
  | .int _ a :: cs, .int _ b :: ds => (a == b) && eqKeys cs ds
  | _, _ => false
def eqKey : AV → AV → Bool
  | .int _ a, .int _ b => a == b
  | .agg cs, .agg ds => eqKeys cs ds
  | _, _ => false
def mget : List (AV × AV) → AV → Option AV
  | [], _ => .none
  | (k, v) :: es, x => bif eqKey x k then some v else mget es x
def mset : List (AV × AV) → AV → AV → List (AV × AV)
  | [], x, u => [(x, u)]
  | (k, v) :: es, x, u => bif eqKey x k then (x, u) :: es else (k, v) :: mset es x u
def mdel : List (AV × AV) → AV → List (AV × AV)
  | [], _ => []
  | (k, v) :: es, x => bif eqKey x k then es else (k, v) :: mdel es x

/-- The elements of what is appended or copied: of a slice. -/
def elems (h : AHeap) : AV → Option (List AV)
  | .lst _ es => some es
  | .nsl _ => some []
  | .ref b => match h b with | .row _ es => some es | .fz _ es => some es | _ => .none
  | .sub b i n => match h b with | .row _ es => some ((es.drop i).take n) | .fz _ es => some ((es.drop i).take n) | _ => .none
  | .fsub b n => match h b with | .row _ es => some (es.take n) | .fz _ es => some (es.take n) | _ => .none
  | _ => .none
def elemT (h : AHeap) : AV → Nat
  | .lst e _ => e
  | .nsl e => e
  | .ref b => match h b with | .row e _ => e | .fz e _ => e | _ => 0
  | .sub b _ _ => match h b with | .row e _ => e | .fz e _ => e | _ => 0
  | .fsub b _ => match h b with | .row e _ => e | .fz e _ => e | _ => 0
  | _ => 0
def lenV (h : AHeap) : AV → Option Nat
  | .lst _ es => some es.length
  | .nsl _ => some 0
  | .ref b => match h b with | .row _ es => some es.length | .fz _ es => some es.length | _ => .none
  | .sub b _ n => match h b with | .row _ _ => some n | .fz _ _ => some n | _ => .none
  | .fsub b n => match h b with | .row _ _ => some n | .fz _ _ => some n | _ => .none
  | .str s => some s.size
  | .mp b => match h b with | .map _ es => some es.length | _ => .none
  | .nmp => some 0
  | _ => .none

def scal : AV → Bool
  | .int _ _ => true
  | .bool _ => true
  | .str _ => true
  | .npt => true
  | _ => false
def scal2 : AV → Bool
  | .agg cs => cs.all scal
  | x => scal x
def scal3 : AV → Bool
  | .tup xs => xs.all scal2
  | x => scal2 x
def scalRow : Blk → Prop
  | .row _ es => ∀ x ∈ es, scal2 x = true
  | _ => False

/-- What a call tells: the function, the blocks that are lent, the arguments, the answer, the blocks behind it (those that were lent first). -/
abbrev Den := Nat → List Blk → List AV → AV → List Blk → Prop

def lent0 (lend : Bool) : List AV → List Nat
  | [] => []
  | .ptr b _ _ :: as => b :: lent0 lend as
  | .ref b :: as => bif lend then b :: lent0 lend as else lent0 lend as
  | .sub b _ _ :: as => bif lend then b :: lent0 lend as else lent0 lend as
  | .agg cs :: as => bif lend then cs.flatMap leads1 ++ lent0 lend as else lent0 lend as
  | _ :: as => lent0 lend as
def addNew (l : List Nat) : List Nat → List Nat
  | [] => l
  | b :: bs => bif l.contains b then addNew l bs else addNew (l ++ [b]) bs
def lentAll (h : AHeap) (l : List Nat) : List Nat := addNew [] (l ++ l.flatMap fun b => leadsB (h b))

def prep (lend : Bool) (σ : Nat → Option Nat) (h : AHeap) : List AV → List AV × Ups
  | [] => ([], [])
  | .ptr b i off :: as => let r := prep lend σ h as; (ren1 σ (.ptr b i off) :: r.1, r.2)
  | .ref b :: as => let r := prep lend σ h as
    match lend with
    | true => (ren1 σ (.ref b) :: r.1, r.2)
    | false => let c := fzc h (.ref b); (c.1 :: r.1, c.2 ++ r.2)
  | .sub b i n :: as => let r := prep lend σ h as
    match lend with
    | true => (ren1 σ (.sub b i n) :: r.1, r.2)
    | false => let c := fzc h (.sub b i n); (c.1 :: r.1, c.2 ++ r.2)
  | .agg cs :: as => let r := prep lend σ h as
    match lend with
    | true => (ren2 σ (.agg cs) :: r.1, r.2)
    | false => let c := fzv h (.agg cs); (c.1 :: r.1, c.2 ++ r.2)
  | a :: as => let r := prep lend σ h as; let c := fzv h a; (c.1 :: r.1, c.2 ++ r.2)

def back (l : List Nat) (nx : Nat) (k : Nat) : Option Nat :=
  match l, k with
  | [], k => some (nx + k)
  | b :: _, 0 => some b
  | _ :: l, k + 1 => back l nx k
def upsOf (σ : Nat → Option Nat) : List Nat → List Blk → Nat → Ups
  | _, [], _ => []
  | [], x :: xs, nx => (nx, renB σ x) :: upsOf σ [] xs (nx + 1)
  | b :: bs, x :: xs, nx => (b, renB σ x) :: upsOf σ bs xs nx
def isLive : Blk → Bool
  | .var _ => true
  | .row _ _ => true
  | .map _ _ => true
  | .rowc _ _ _ => true
  | .grid _ _ _ => true
  | _ => false

def evCall0 (D : Den) (f : Nat) (lend bor : Bool) (args : List AV) (h : AHeap) (nx : Nat) (K : AV → Ups → Nat → Prop) : Prop :=
    forceL (lentAll h (lent0 lend args)) fun l =>
    let p := prep lend (pos l) h args
    match (l.all fun b => isLive (h b)) && (p.2.all fun u => !(l.contains u.1)) with
    | false => Stuck
    | true => ∃ r L', D f (l.map fun b => renB (pos l) (h b)) p.1 r L' ∧
      match bor with
      | false => K (ren3 (back l nx) r) (p.2 ++ upsOf (back l nx) l L' nx) (nx + (L'.length - l.length))
      | true => match l, scal3 r with
        | [], true => match L' with
          | [] => K r [] nx
          | _ => Stuck
        | [], false => match r with
          | .ref 0 => match L' with
            | [B] => Need (scalRow B) (K (.ref nx) [(nx, B)] (nx + 1))
            | _ => Stuck
          | _ => Stuck
        | _, _ => Stuck

/-- What was lent is as it was: then it counts as not turned. -/
def evCallR (D : Den) (f : Nat) (lend : Bool) (l : List Nat) (args : List AV) (h : AHeap) (nx : Nat) (K : AV → Ups → Nat → Prop) : Prop :=
    let p := prep lend (pos l) h args
    match (l.all fun b => isLive (h b)) && (p.2.all fun u => !(l.contains u.1)) with
    | false => Stuck
    | true => ∃ r L', D f (l.map fun b => renB (pos l) (h b)) p.1 r L' ∧
      Need ((upsOf (back l nx) l L' nx).take l.length = l.map fun b => (b, h b)) (K (ren3 (back l nx) r) (p.2 ++ (upsOf (back l nx) l L' nx).drop l.length) (nx + (L'.length - l.length)))
def evCall1 (D : Den) (f : Nat) (lend bor : Bool) (args : List AV) (h : AHeap) (nx : Nat) (K : AV → Ups → Nat → Prop) : Prop :=
  match bor with
  | false => evCall0 D f lend false args h nx K
  | true => forceL (lentAll h (lent0 lend args)) fun l => match l with
    | [] => evCall0 D f lend true args h nx K
    | b :: l => evCallR D f lend (b :: l) args h nx K

def evCall (D : Den) (f : Nat) (args : List AV) (h : AHeap) (nx : Nat) (K : AV → Ups → Nat → Prop) : Prop :=
  Choice fun lend => Choice fun bor => evCall1 D f lend bor args h nx K

def fieldOff (t : TI) (f : Nat) : Option Nat :=
  match t.k with
  | .struct fs => match fs[f]? with | some p => some p.1 | .none => .none
  | _ => .none

def fillParts (t : TI) (cs : List AV) : List (Nat × AV) → Option (List AV)
  | [] => some cs
  | (i, v) :: ps => match fieldOff t i with
    | some off => fillParts t (splice cs off (cells v)) ps
    | .none => .none

/-- Values for elements of a row: frozen. -/
def fzs (h : AHeap) : List AV → List AV × Ups
  | [] => ([], [])
  | v :: vs => let a := fzv h v; let r := fzs h vs; (a.1 :: r.1, a.2 ++ r.2)

def nz : AV → AV
  | .nsl e => .lst e []
  | x => x
/-- A type's zero value, as an element of a row. -/
def zeroE (T : Tab) (e : Nat) : AV := match (T e).zero with
  | .agg cs => .agg (cs.map nz)
  | x => nz x

/-- A kind whose zero value the table tells. -/
def zOk : TK → Bool
  | .other => false
  | .arr _ _ => false
  | .func => false
  | _ => true
def headOf (v : AV) (r : List AV) : AV := match v with
  | .agg _ => .agg r
  | _ => r.headD .und

/-- A new variable. -/
def newVar (T : Tab) (t : Nat) (v : AV) (nx : Nat) (K : AV → Ups → Nat → Prop) : Prop :=
  match (T t).k with
  | .other => Stuck
  | .arr n e => match v with
    | .und => match zOk (T e).k with
      | false => Stuck
      | true => K (.ptr nx 0 0) [(nx, .row e (List.replicate n (zeroE T e)))] (nx + 1)
    | _ => Stuck
  | _ => match v with
    | .und => match zOk (T t).k with
      | false => Stuck
      | true => let r := nils (cells (T t).zero) (nx + 1)
      K (.ptr nx 0 0) (r.2.1 ++ [(nx, .var (headOf (T t).zero r.1))]) r.2.2
    | v => match (cells v).all isCell with
      | false => Stuck
      | true => let r := nils (cells v) (nx + 1)
      K (.ptr nx 0 0) (r.2.1 ++ [(nx, .var (headOf v r.1))]) r.2.2

def storeV (T : Tab) (t : Nat) (p y : AV) (h : AHeap) (nx : Nat) (K : AV → Ups → Nat → Prop) : Prop :=
  match Nat.beq (cells y).length (T t).size && (cells y).all isCell && kOk (T t).k && Nat.blt 0 (T t).size with
  | false => Stuck
  | true => match p with
    | .ptr b i off => match h b with
      | .var x => match i, Nat.ble (off + (T t).size) (cells x).length with
        | 0, true => let r := nils (cells y) nx
          K .und (r.2.1 ++ [(b, .var (writeAt x off (headOf y r.1)))]) r.2.2
        | _, _ => Stuck
      | .row e es => forceV (fzv h y).1 fun z1 => let z := fzv h y
        match z.2.all fun u => !(Nat.beq u.1 b) with
        | false => Stuck
        | true => match Nat.beq (T t).size (T e).size with
          | true => match off with
            | 0 => K .und (z.2 ++ [(b, .row e (es.set i z1))]) nx
            | _ => Stuck
          | false => At es i fun x => match x with
            | .agg cs => match Nat.ble (off + (T t).size) cs.length with
              | true => forceC (splice cs off (cells z1)) fun c1 => K .und (z.2 ++ [(b, .row e (es.set i (.agg c1)))]) nx
              | false => Stuck
            | _ => Stuck
      | _ => Stuck
    | _ => Stuck

def intOr (d : Int) : Option AV → Option Int
  | .none => some d
  | some (.int _ n) => some n
  | _ => .none

/-- A frozen slice's part, as it is written. -/
def sliceL (lo hi : Option AV) (e : Nat) (es : List AV) (l m : Nat) (Q : AV → Prop) : Prop :=
  match lo, hi with
  | .none, .none => Q (.lst e es)
  | some _, .none => Q (.lst e (es.drop l))
  | .none, some _ => Q (.lst e (es.take m))
  | some _, some _ => Q (.lst e ((es.take m).drop l))

def sliceV (T : Tab) (e : Nat) (x : AV) (lo hi mx : Option AV) (h : AHeap) (Q : AV → Prop) : Prop :=
  match mx with
  | some m => match x, lo, hi, m with
    | .ref b, .none, some (.int _ n), .int _ m => match h b with
      | .row e' es => match Nat.beq (T e).size (T e').size with
        | true => Need (m = n) (Cut 0 n es.length fun _ n => Q (.fsub b n))
        | false => Stuck
      | _ => Stuck
    | _, _, _, _ => Stuck
  | .none =>
    match lenV h x, Nat.beq (T (elemT h x)).size (T e).size with
    | some len, true => match intOr 0 lo, intOr len hi with
      | some l, some m => match x with
        | .lst e' es => Cut l m len fun l m => sliceL lo hi e' es l m Q
        | .ref b => match h b with
          | .fz e' es => Cut l m len fun l m => sliceL lo hi e' es l m Q
          | .row _ _ => Cut l m len fun l m => Q (.sub b l (m - l))
          | _ => Stuck
        | .sub b i _ => match h b with
          | .row _ _ => Cut l m len fun l m => Q (.sub b (i + l) (m - l))
          | _ => Stuck
        | _ => Stuck
      | _, _ => Stuck
    | _, _ => Stuck

def loadV (T : Tab) (t : Nat) (p : AV) (h : AHeap) (Q : AV → Prop) : Prop :=
  match p with
  | .ptr b i off => match h b with
    | .var x => match i with | 0 => readAt (T t) x off Q | _ => Stuck
    | .fv x => match i with | 0 => readAt (T t) x off Q | _ => Stuck
    | .row _ es => At es i fun x => readAt (T t) x off Q
    | .fz _ es => At es i fun x => readAt (T t) x off Q
    | _ => Stuck
  | .eptr x off => readAt (T t) x off Q
  | _ => Stuck

def pickV (c x y : AV) (Q : AV → Prop) : Prop :=
  match c, x, y with
  | .bool c, .bool x, .bool y => Q (.bool (bif c then x else y))
  | .bool true, x, _ => Q x
  | .bool false, _, y => Q y
  | _, _, _ => Stuck

def partOk (T : Tab) (fs : List (Nat × Nat)) (p : Nat × AV) : Bool :=
  match fs[p.1]? with
  | some f => Nat.beq (cells p.2).length (T f.2).size && (cells p.2).all isCell
  | .none => false
def buildV (T : Tab) (t : Nat) (ps : List (Nat × AV)) (Q : AV → Prop) : Prop :=
  match (T t).k with
  | .struct fs => match ps.all (partOk T fs), fillParts (T t) (cells (T t).zero) ps with
    | true, some cs => Q (.agg cs)
    | _, _ => Stuck
  | _ => Stuck

def bsliceV (T : Tab) (t n : Nat) (ps : List (Nat × AV)) (h : AHeap) (nx : Nat) (K : AV → Ups → Nat → Prop) : Prop :=
  match (T t).k with
  | .slice e =>
    match Nat.beq n ps.length && (ps.map (·.1) == List.range n) && (ps.all fun p => Nat.beq (cells p.2).length (T e).size && (cells p.2).all isCell) && Nat.ble (n * (T e).size) 16777216 with
    | true => let r := fzs h (ps.map (·.2)); forceVs r.1 fun r1 => K (.ref nx) (r.2 ++ [(nx, .row e r1)]) (nx + 1)
    | false => Stuck
  | _ => Stuck

def unV (op : UnOp) (v : AV) (Q : AV → Prop) : Prop :=
  match op, v with
  | .not, .bool b => Q (.bool (!b))
  | .neg, .int k n => Fits k (0 - n) fun n => Q (.int k n)
  | .xor, .int k n => Q (.int k (bitsOp .xor k (if k.signed then -1 else k.max) n))
  | _, _ => Stuck

def convV (T : Tab) (src dst : Nat) (v : AV) (h : AHeap) (nx : Nat) (K : AV → Ups → Nat → Prop) : Prop :=
  match (T src).k, (T dst).k with
  | .int _, .int k => match v with
    | .int _ n => Fits k n fun n => K (.int k n) [] nx
    | _ => Stuck
  | .str, .slice e => match v, (T e).k with
    | .str c, .int .u8 => Room c.size (K (.ref nx) [(nx, .row e (c.data.toList.map fun b => .int .u8 b.toNat))] (nx + 1))
    | _, _ => Stuck
  | .slice e, .str => match (T e).k, elems h v, Nat.beq (T (elemT h v)).size 1 with
    | .int .u8, some es, true => Bytes es fun c => K (.str c) [] nx
    | _, _, _ => Stuck
  | .str, .str => match v with
    | .str c => K (.str c) [] nx
    | _ => Stuck
  | _, _ => Stuck

def mksliceV (T : Tab) (t : Nat) (l c : AV) (nx : Nat) (K : AV → Ups → Nat → Prop) : Prop :=
  match (T t).k, l, c with
  | .slice e, .int _ n, .int _ m => match Nat.ble (T e).bytes 1024 && zOk (T e).k with
    | true => Need (m = n) (Need (0 ≤ n) (Room n.toNat (K (.ref nx) [(nx, .row e (List.replicate n.toNat (zeroE T e)))] (nx + 1))))
    | false => Stuck
  | _, _, _ => Stuck

def isPlace : Blk → Bool
  | .var _ => true
  | .fv _ => true
  | .row _ _ => true
  | .fz _ _ => true
  | _ => false
def fieldAddrV (T : Tab) (t : Nat) (p : AV) (f : Nat) (h : AHeap) (Q : AV → Prop) : Prop :=
  match fieldOff (T t) f with
  | some d => match p with
    | .ptr b i off => match isPlace (h b) with
      | true => Q (.ptr b i (off + d))
      | false => Stuck
    | .eptr y off => Q (.eptr y (off + d))
    | _ => Stuck
  | .none => Stuck

def fieldV (T : Tab) (t : Nat) (v : AV) (f : Nat) (Q : AV → Prop) : Prop :=
  match (T t).k with
  | .struct fs => match fs[f]?, v with
    | some p, .agg cs => readAt (T p.2) (.agg cs) p.1 Q
    | _, _ => Stuck
  | _ => Stuck

def indexV (T : Tab) (t : Nat) (x i : AV) (h : AHeap) (Q : AV → Prop) : Prop :=
  match i with
  | .int _ n => match (T t).k with
    | .slice e => match x with
      | .lst e' es => match Nat.beq (T e).size (T e').size with
        | true => Idx es n fun x => Q (.eptr x 0)
        | false => Stuck
      | .ref b => match h b with
        | .row e' es => match Nat.beq (T e).size (T e').size with
          | true => InB n es.length (Q (.ptr b n.toNat 0))
          | false => Stuck
        | .fz e' es => match Nat.beq (T e).size (T e').size with
          | true => Idx es n fun x => Q (.eptr x 0)
          | false => Stuck
        | _ => Stuck
      | .sub b j m => match h b with
        | .row e' _ => match Nat.beq (T e).size (T e').size with
          | true => InB n m (Q (.ptr b (j + n.toNat) 0))
          | false => Stuck
        | _ => Stuck
      | _ => Stuck
    | .arr m e => match x with
      | .ptr b 0 0 => match h b with
        | .row e' es => match Nat.beq (T e).size (T e').size && Nat.beq m es.length with
          | true => InB n m (Q (.ptr b n.toNat 0))
          | false => Stuck
        | _ => Stuck
      | .eptr y off => InB n m (Q (.eptr y (off + n.toNat * (T e).size)))
      | _ => Stuck
    | _ => Stuck
  | _ => Stuck

/-- A key that a map takes. -/
def keyCells : List TK → List AV → Bool
  | [], [] => true
  | .int q :: ks, .int k _ :: cs => Nat.beq (kIx q) (kIx k) && keyCells ks cs
  | _, _ => false
def keyOk (T : Tab) (t : Nat) (k : AV) : Bool :=
  match (T t).k, k with
  | .int q, .int q' _ => Nat.beq (kIx q) (kIx q')
  | .struct _, .agg cs => flatEq T t && keyCells (kindsOf T t) cs
  | _, _ => false

def lookupV (T : Tab) (t : Nat) (m k : AV) (ok : Bool) (h : AHeap) (Q : AV → Prop) : Prop :=
  match (T t).k with
  | .map kt e => match keyOk T kt k && zOk (T e).k, m with
    | true, .mp b => match h b with
      | .map kt' es => match Nat.beq kt kt' with
        | true => Get es k (fun r => match ok, r with
          | true, some v => Q (.tup [v, .bool true])
          | true, .none => Q (.tup [(T e).zero, .bool false])
          | false, some v => Q v
          | false, .none => Q (T e).zero) (mget es k)
        | false => Stuck
      | _ => Stuck
    | true, .nmp => match ok with
      | true => Q (.tup [(T e).zero, .bool false])
      | false => Q (T e).zero
    | _, _ => Stuck
  | _ => Stuck

def updV (T : Tab) (t : Nat) (m k v : AV) (h : AHeap) (nx : Nat) (K : AV → Ups → Nat → Prop) : Prop :=
  match (T t).k with
  | .map kt _ => match keyOk T kt k, m with
    | true, .mp b => match h b with
      | .map kt' es => match Nat.beq kt kt', isFz v with
        | true, true => K .und [(b, .map kt' (mset es k v))] nx
        | true, false => match v with
          | .agg cs => match cs.all isFz with
            | true => K .und [(b, .map kt' (mset es k v))] nx
            | false => Stuck
          | _ => Stuck
        | _, _ => Stuck
      | _ => Stuck
    | _, _ => Stuck
  | _ => Stuck

def delV (T : Tab) (t : Nat) (m k : AV) (h : AHeap) (nx : Nat) (K : AV → Ups → Nat → Prop) : Prop :=
  match (T t).k with
  | .map kt _ => match keyOk T kt k, m with
    | true, .mp b => match h b with
      | .map kt' es => match Nat.beq kt kt' with
        | true => K (.tup []) [(b, .map kt' (mdel es k))] nx
        | false => Stuck
      | _ => Stuck
    | _, _ => Stuck
  | _ => Stuck

def mkmapV (T : Tab) (t : Nat) (nx : Nat) (K : AV → Ups → Nat → Prop) : Prop :=
  match (T t).k with
  | .map kt _ => K (.mp nx) [(nx, .map kt [])] (nx + 1)
  | _ => Stuck

def lengthV (T : Tab) (t : Nat) (x : AV) (h : AHeap) (Q : AV → Prop) : Prop :=
  match (T t).k with
  | .arr n _ => Q (.int .i64 n)
  | .slice _ => match x with
    | .str _ => Stuck
    | .mp _ => Stuck
    | .nmp => Stuck
    | x => match lenV h x with
      | some n => Q (.int .i64 n)
      | .none => Stuck
  | .str => match x with
    | .str s => Q (.int .i64 s.size)
    | _ => Stuck
  | .map _ _ => match x with
    | .mp b => match h b with
      | .map _ es => Q (.int .i64 es.length)
      | _ => Stuck
    | .nmp => Q (.int .i64 0)
    | _ => Stuck
  | _ => Stuck

def maxV (l : List AV) (Q : AV → Prop) : Prop :=
  match l with
  | [.int k a, .int k' b] => match Nat.beq (kIx k) (kIx k') with | true => Q (.int k (if b > a then b else a)) | false => Stuck
  | [.int k a, .int k' b, .int k'' d] => match Nat.beq (kIx k) (kIx k') && Nat.beq (kIx k) (kIx k'') with
    | true => Q (.int k (if d > (if b > a then b else a) then d else (if b > a then b else a)))
    | false => Stuck
  | _ => Stuck
def minV (l : List AV) (Q : AV → Prop) : Prop :=
  match l with
  | [.int k a, .int k' b] => match Nat.beq (kIx k) (kIx k') with | true => Q (.int k (if b < a then b else a)) | false => Stuck
  | _ => Stuck

def appendV (T : Tab) (t : Nat) (x y : AV) (h : AHeap) (nx : Nat) (K : AV → Ups → Nat → Prop) : Prop :=
  match (T t).k with
  | .slice e => match Nat.ble (T e).bytes 1024 && Nat.beq (T (elemT h y)).size (T e).size && zOk (T e).k, elems h y with
    | true, some ys => match x with
      | .ref a => match h a with
        | .row e' es => match Nat.beq e e' with
          | true => Room (es.length + ys.length) (K (.ref nx) [(a, .dead), (nx, .row e (es ++ ys))] (nx + 1))
          | false => Stuck
        | _ => Stuck
      | .fsub a n => match h a with
        | .row e' es => match Nat.beq e e' with
          | true => Room (n + ys.length) (K (.ref nx) [(a, .dead), (nx, .row e (es.take n ++ ys))] (nx + 1))
          | false => Stuck
        | _ => Stuck
      | .nsl e' => match Nat.beq e e' with
        | true => Room ys.length (K (.ref nx) [(nx, .row e ys)] (nx + 1))
        | false => Stuck
      | _ => Stuck
    | _, _ => Stuck
  | _ => Stuck

def copyV (T : Tab) (t : Nat) (x y : AV) (h : AHeap) (nx : Nat) (K : AV → Ups → Nat → Prop) : Prop :=
  match (T t).k with
  | .slice e => match Nat.beq (T (elemT h y)).size (T e).size, elems h y with
    | true, some ys => match x with
      | .ref b => match h b with
        | .row e' es => match Nat.beq e e' with
          | true => K (.int .i64 (min ys.length es.length)) [(b, .row e (ys.take (min ys.length es.length) ++ es.drop (min ys.length es.length)))] nx
          | false => Stuck
        | _ => Stuck
      | .sub b i m => match h b with
        | .row e' es => match Nat.beq e e' with
          | true => K (.int .i64 (min ys.length m)) [(b, .row e (es.take i ++ (ys.take (min ys.length m) ++ es.drop (i + min ys.length m))))] nx
          | false => Stuck
        | _ => Stuck
      | _ => Stuck
    | _, _ => Stuck
  | _ => Stuck

def clearV (T : Tab) (t : Nat) (x : AV) (h : AHeap) (nx : Nat) (K : AV → Ups → Nat → Prop) : Prop :=
  match (T t).k with
  | .slice e => match x with
    | .sub b i m => match h b with
      | .row e' es => match Nat.beq e e' && zOk (T e).k with
        | true => K (.tup []) [(b, .row e (es.take i ++ (List.replicate m (zeroE T e) ++ es.drop (i + m))))] nx
        | false => Stuck
      | _ => Stuck
    | _ => Stuck
  | _ => Stuck

def moveV (v : AV) (nx : Nat) (K : AV → Ups → Nat → Prop) : Prop :=
  force v fun v => match v with
    | .nsl e => K (.ref nx) [(nx, .row e [])] (nx + 1)
    | v => K v [] nx

def extractV (v : AV) (i : Nat) (Q : AV → Prop) : Prop :=
  match v with
  | .tup xs => match xs[i]? with
    | some x => force x Q
    | .none => Stuck
  | _ => Stuck

def argsOf (T : Tab) (s : St) (c : Call) : List AV := c.args.toList.zipIdx.map fun p => opnd T (c.argTypes.getD p.2 0) s p.1

def evOp (D : Den) (T : Tab) (o : Op) (ty : Nat) (s : St) (h : AHeap) (nx : Nat) (K : AV → Ups → Nat → Prop) : Prop :=
  match o with
  | .move x => moveV (opnd T ty s x) nx K
  | .assign x => moveV (opnd T ty s x) nx K
  | .pick c a b => pickV (opnd T ty s c) (opnd T ty s a) (opnd T ty s b) fun v => K v [] nx
  | .alloc t => newVar T t .und nx K
  | .box t x => match opnd T t s x with
    | .und => Stuck
    | v => newVar T t v nx K
  | .build t ps => buildV T t (ps.toList.map fun p => (p.1, opnd T 0 s p.2)) fun v => K v [] nx
  | .buildSlice t n ps => bsliceV T t n (ps.toList.map fun p => (p.1, opnd T 0 s p.2)) h nx K
  | .load t p => loadV T t (opnd T ty s p) h fun v => K v [] nx
  | .store t p x => storeV T t (opnd T ty s p) (opnd T t s x) h nx K
  | .nilCheck x => match opnd T ty s x with
    | .ptr b i off => match isVar (h b) with
      | true => K (.ptr b i off) [] nx
      | false => Stuck
    | .eptr y off => K (.eptr y off) [] nx
    | _ => Stuck
  | .binOp op t x y _ => binV T h op t (opnd T t s x) (opnd T t s y) fun v => K v [] nx
  | .unOp op _ x => unV op (opnd T ty s x) fun v => K v [] nx
  | .convert src dst x => convV T src dst (opnd T src s x) h nx K
  | .makeSlice t l c => mksliceV T t (opnd T 0 s l) (opnd T 0 s c) nx K
  | .slice t x lo hi mx => match (T t).k with
    | .slice e => sliceV T e (opnd T ty s x) (lo.map (opnd T 0 s)) (hi.map (opnd T 0 s)) (mx.map (opnd T 0 s)) h fun v => K v [] nx
    | _ => Stuck
  | .fieldAddr t x f => fieldAddrV T t (opnd T ty s x) f h fun v => K v [] nx
  | .field t x f => fieldV T t (opnd T ty s x) f fun v => K v [] nx
  | .indexAddr t x i => indexV T t (opnd T ty s x) (opnd T 0 s i) h fun v => K v [] nx
  | .extract x i => extractV (opnd T ty s x) i fun v => K v [] nx
  | .makeFunc (.func f) first caps => match first.toList, (caps.toList.map (opnd T 0 s)).all isCell with
    | [], true => K (.fn f (caps.toList.map (opnd T 0 s))) [] nx
    | _, _ => Stuck
  | .call c => match c.callee with
    | .value (.func f) => evCall D f (argsOf T s c) h nx K
    | .value g => match opnd T 0 s g with
      | .fn f caps => evCall D f (argsOf T s c ++ caps) h nx K
      | _ => Stuck
    | .builtin .len => match argsOf T s c, c.argTypes.toList with
      | [x], [t] => lengthV T t x h fun v => K v [] nx
      | _, _ => Stuck
    | .builtin .max => maxV (argsOf T s c) fun v => K v [] nx
    | .builtin .min => minV (argsOf T s c) fun v => K v [] nx
    | .builtin .append => match argsOf T s c, c.argTypes.toList with
      | [x, y], [t, u] => match (T u).k with
        | .slice _ => appendV T t x y h nx K
        | _ => Stuck
      | _, _ => Stuck
    | .builtin .copy => match argsOf T s c, c.argTypes.toList with
      | [x, y], [t, _] => copyV T t x y h nx K
      | _, _ => Stuck
    | .builtin .clear => match argsOf T s c, c.argTypes.toList with
      | [x], [t] => clearV T t x h nx K
      | _, _ => Stuck
    | .builtin .delete => match argsOf T s c, c.argTypes.toList with
      | [x, y], [t, _] => delV T t x y h nx K
      | _, _ => Stuck
    | _ => Stuck
  | .lookup t x i ok => lookupV T t (opnd T t s x) (opnd T 0 s i) ok h fun v => K v [] nx
  | .mapUpdate t m k v => updV T t (opnd T t s m) (opnd T 0 s k) (opnd T 0 s v) h nx K
  | .makeMap t none => mkmapV T t nx K
  | _ => Stuck

/-- A row's other name. -/
def convSS (T : Tab) (e : Nat) (v : AV) (h : AHeap) (nx : Nat) (K : AV → Ups → Nat → Prop) : Prop :=
  match (T e).k, v with
  | .int .u8, .ref b => match h b with
    | .row e' es => match Nat.beq e e' with
      | true => Need (0 < es.length) (K (.lst e' es) [(b, .fz e' es)] nx)
      | false => Stuck
    | _ => Stuck
  | _, _ => Stuck

/-- A window's part. -/
def sliceSub (T : Tab) (e b i n : Nat) (lo hi mx : Option AV) (h : AHeap) (Q : AV → Prop) : Prop :=
  match h b, mx with
  | .row e' es, .none => match Nat.beq (T e').size (T e).size with
    | true => match intOr 0 lo, intOr n hi with
      | some l, some m => Cut l m (es.length - i : Nat) fun l m => Q (.sub b (i + l) (m - l))
      | _, _ => Stuck
    | false => Stuck
  | _, _ => Stuck

/-- A look at the bounds alone. -/
def slice3 (T : Tab) (e e' : Nat) (es : List AV) (lo : AV) (hi : Option AV) (mx : AV) (Q : AV → Prop) : Prop :=
  match Nat.beq (T e').size (T e).size, lo, hi, mx with
  | true, .int _ l, some (.int _ m), .int _ x => Cut l m x fun _ _ => Need (x ≤ es.length) (Q .und)
  | _, _, _, _ => Stuck

/-- What is there of a type, and not known. -/
def junkE (T : Tab) (e : Nat) : AV := match (T e).zero with
  | .agg cs => .agg (cs.map fun _ => .und)
  | _ => .und

/-- A part of a row whose capacity is known. -/
def sliceC (T : Tab) (e b e' : Nat) (es : List AV) (c : Nat) (lo hi mx : Option AV) (nx : Nat) (K : AV → Ups → Nat → Prop) : Prop :=
  match Nat.beq e' e && zOk (T e).k, lo, hi, mx with
  | true, .none, some (.int _ m), .none => Choice fun ext => match ext with
    | false => Cut 0 m es.length fun _ m => K (.sub b 0 m) [] nx
    | true => Cut es.length m c fun n m => K (.ref nx) [(b, .dead), (nx, .row e' (es ++ List.replicate (m - n) (junkE T e')))] (nx + 1)
  | _, _, _, _ => Stuck

def appendSub (T : Tab) (t u b i n : Nat) (y : AV) (h : AHeap) (nx : Nat) (K : AV → Ups → Nat → Prop) : Prop :=
  match (T t).k with
  | .slice e => match h b with
    | .row e' es => match (T u).k with
      | .slice _ => match Nat.beq e e' && Nat.beq (T (elemT h y)).size (T e).size, elems h y with
        | true, some ys => Need (i + n + ys.length ≤ es.length) (K (.sub b i (n + ys.length)) [(b, .row e (es.take (i + n) ++ (ys ++ es.drop (i + n + ys.length))))] nx)
        | _, _ => Stuck
      | _ => Stuck
    | .rowc e' es c => match (T u).k, y, i with
      | .int _, .int .i64 k, 0 => match Nat.beq e e' && Nat.ble (T e).bytes 1024 && zOk (T e).k with
        | true => Need (0 ≤ k) (Need (c < n + k.toNat) (Room (n + k.toNat) (K (.ref nx) [(b, .row e' es), (nx, .row e (es.take n ++ List.replicate k.toNat (zeroE T e)))] (nx + 1))))
        | false => Stuck
      | _, _, _ => Stuck
    | _ => Stuck
  | _ => Stuck

/-- Does a value lead into a grid? -/
def isGrid : Blk → Bool
  | .grid _ _ _ => true
  | _ => false
def isG (h : AHeap) : AV → Bool
  | .gptr _ _ _ _ => true
  | .gref _ _ => true
  | .ptr b _ _ => isGrid (h b)
  | .ref b => isGrid (h b)
  | _ => false
/-- A value of one cell. -/
def oneOk (t : TI) : Bool := Nat.beq t.size 1 && kOk t.k && !t.agg
def gLoad (T : Tab) (t : Nat) (p : AV) (h : AHeap) (Q : AV → Prop) : Prop :=
  match p with
  | .ptr b i off => match h b, off with
    | .grid _ e' gs, 0 => match oneOk (T t) with
      | true => GNode gs i fun o es => match o with
        | true => Q (.gref b i)
        | false => Q (.lst e' es)
      | false => Stuck
    | _, _ => Stuck
  | .gptr b i j off => match h b, off with
    | .grid _ _ gs, 0 => GNode gs i fun o es => match o with
      | true => At es j fun x => readAt (T t) x 0 Q
      | false => Stuck
    | _, _ => Stuck
  | _ => Stuck
def gIndex (T : Tab) (t : Nat) (x i : AV) (h : AHeap) (Q : AV → Prop) : Prop :=
  match i, (T t).k with
  | .int _ n, .slice e => match x with
    | .ref b => match h b with
      | .grid e0 _ gs => match Nat.beq (T e).size (T e0).size with
        | true => InB n gs.length (Q (.ptr b n.toNat 0))
        | false => Stuck
      | _ => Stuck
    | .gref b k => match h b with
      | .grid _ e' gs => match Nat.beq (T e).size (T e').size with
        | true => GNode gs k fun o es => match o with
          | true => InB n es.length (Q (.gptr b k n.toNat 0))
          | false => Stuck
        | false => Stuck
      | _ => Stuck
    | _ => Stuck
  | _, _ => Stuck
def gLen (T : Tab) (t : Nat) (x : AV) (h : AHeap) (Q : AV → Prop) : Prop :=
  match (T t).k, x with
  | .slice _, .ref b => match h b with
    | .grid _ _ gs => Q (.int .i64 gs.length)
    | _ => Stuck
  | .slice _, .gref b k => match h b with
    | .grid _ _ gs => GNode gs k fun o es => match o with
      | true => Q (.int .i64 es.length)
      | false => Stuck
    | _ => Stuck
  | _, _ => Stuck
def gStore (T : Tab) (t : Nat) (p y : AV) (h : AHeap) (nx : Nat) (K : AV → Ups → Nat → Prop) : Prop :=
  match p with
  | .gptr b i j off => match h b, off, y with
    | .grid e e' gs, 0, .int k n => match oneOk (T t) && Nat.beq (T e').size 1 with
      | true => GNode gs i fun o es => match o with
        | true => K .und [(b, .grid e e' (gs.set i (true, es.set j (.int k n))))] nx
        | false => Stuck
      | false => Stuck
    | _, _, _ => Stuck
  | .ptr b i off => match h b, off, y with
    | .grid e e' gs, 0, .ref c => match h c with
      | .row e2 es => match oneOk (T t) && Nat.beq e' e2 with
        | true => GNode gs i fun o _ => match o with
          | true => Stuck
          | false => K .und [(c, .dead), (b, .grid e e' (gs.set i (true, es)))] nx
        | false => Stuck
      | _ => Stuck
    | _, _, _ => Stuck
  | _ => Stuck
/-- A row of one row, which is its own; or nobody writes it any more. -/
def gBuild (T : Tab) (e c : Nat) (h : AHeap) (nx : Nat) (K : AV → Ups → Nat → Prop) : Prop :=
  match h c with
  | .row e' es => match Nat.beq (T e).size 1 && kOk (T e).k && Nat.blt 0 (T e').size with
    | true => K (.ref nx) [(c, .dead), (nx, .grid e e' [(true, es)])] (nx + 1)
    | false => Stuck
  | _ => Stuck
def gAppend (T : Tab) (t u a c : Nat) (h : AHeap) (nx : Nat) (K : AV → Ups → Nat → Prop) : Prop :=
  match (T t).k, (T u).k, h c with
  | .slice e0, .slice e1, .grid e e' gs2 => match Nat.beq e0 e && Nat.beq e1 e && Nat.ble (T e).bytes 1024 && zOk (T e).k && !(Nat.beq a c) with
    | true => match h a with
      | .row e2 es => match es, Nat.beq e2 e with
        | [], true => Room gs2.length (K (.ref nx) [(a, .dead), (c, .dead), (nx, .grid e e' gs2)] (nx + 1))
        | _, _ => Stuck
      | .grid e2 e3 gs => match Nat.beq e2 e && Nat.beq e3 e' with
        | true => Room (gs.length + gs2.length) (K (.ref nx) [(a, .dead), (c, .dead), (nx, .grid e e' (gs ++ gs2))] (nx + 1))
        | false => Stuck
      | _ => Stuck
    | false => Stuck
  | _, _, _ => Stuck
/-- Are elements slices? -/
def sliceK : TK → Bool
  | .slice _ => true
  | _ => false

/-- Operations on grids. -/
def evOpG (D : Den) (T : Tab) (o : Op) (ty : Nat) (s : St) (h : AHeap) (nx : Nat) (K : AV → Ups → Nat → Prop) : Prop :=
  match o with
  | .load t p => match isG h (opnd T ty s p) with
    | true => gLoad T t (opnd T ty s p) h fun v => K v [] nx
    | false => evOp D T (.load t p) ty s h nx K
  | .store t p x => match isG h (opnd T ty s p) with
    | true => gStore T t (opnd T ty s p) (opnd T t s x) h nx K
    | false => evOp D T (.store t p x) ty s h nx K
  | .indexAddr t x i => match isG h (opnd T ty s x) with
    | true => gIndex T t (opnd T ty s x) (opnd T 0 s i) h fun v => K v [] nx
    | false => evOp D T (.indexAddr t x i) ty s h nx K
  | .buildSlice t n ps => match (T t).k, n, ps.toList.map (fun p => (p.1, opnd T 0 s p.2)) with
    | .slice e, 1, [(0, .ref c)] => match sliceK (T e).k with
      | true => Choice fun own => match own with
        | true => gBuild T e c h nx K
        | false => evOp D T (.buildSlice t n ps) ty s h nx K
      | false => evOp D T (.buildSlice t n ps) ty s h nx K
    | _, _, _ => evOp D T (.buildSlice t n ps) ty s h nx K
  | .call c => match c.callee with
    | .builtin .len => match argsOf T s c, c.argTypes.toList with
      | [x], [t] => match isG h x with
        | true => gLen T t x h fun v => K v [] nx
        | false => evOp D T (.call c) ty s h nx K
      | _, _ => evOp D T (.call c) ty s h nx K
    | .builtin .append => match argsOf T s c, c.argTypes.toList with
      | [.ref a, .ref b], [t, u] => match isGrid (h b) with
        | true => gAppend T t u a b h nx K
        | false => evOp D T (.call c) ty s h nx K
      | _, _ => evOp D T (.call c) ty s h nx K
    | _ => evOp D T (.call c) ty s h nx K
  | o => evOp D T o ty s h nx K

/-- More operations. -/
def evOpZ (D : Den) (T : Tab) (o : Op) (ty : Nat) (s : St) (h : AHeap) (nx : Nat) (K : AV → Ups → Nat → Prop) : Prop :=
  match o with
  | .convert src dst x => match Nat.beq src dst, (T src).k with
    | true, .slice e => convSS T e (opnd T src s x) h nx K
    | _, _ => evOpG D T (.convert src dst x) ty s h nx K
  | .slice t x lo hi mx => match (T t).k, opnd T ty s x with
    | .slice e, .sub b i n => sliceSub T e b i n (lo.map (opnd T 0 s)) (hi.map (opnd T 0 s)) (mx.map (opnd T 0 s)) h fun v => K v [] nx
    | .slice e, .ref b => match h b, lo.map (opnd T 0 s), mx.map (opnd T 0 s) with
      | .row e' es, some l, some m => slice3 T e e' es l (hi.map (opnd T 0 s)) m fun v => K v [] nx
      | _, _, _ => evOpG D T (.slice t x lo hi mx) ty s h nx K
    | _, _ => evOpG D T (.slice t x lo hi mx) ty s h nx K
  | .call c => match c.callee with
    | .builtin .append => match argsOf T s c, c.argTypes.toList with
      | [.sub b i n, y], [t, u] => appendSub T t u b i n y h nx K
      | _, _ => evOpG D T (.call c) ty s h nx K
    | _ => evOpG D T (.call c) ty s h nx K
  | o => evOpG D T o ty s h nx K

/-- Is a slice nil? -/
def eqNil (h : AHeap) (x : AV) (Q : Bool → Prop) : Prop :=
  match x with
  | .nsl _ => Q true
  | .lst _ es => AnyB (fun b => b = true → es = []) Q
  | .ref b => match h b with
    | .row _ es => AnyB (fun b => b = true → es = []) Q
    | .fz _ es => AnyB (fun b => b = true → es = []) Q
    | _ => Stuck
  | _ => Stuck

/-- A row's capacity. -/
def capV (T : Tab) (t b : Nat) (h : AHeap) (nx : Nat) (K : AV → Ups → Nat → Prop) : Prop :=
  match (T t).k, h b with
  | .slice _, .row e es => AnyN es.length fun c => K (.int .i64 c) [(b, .rowc e es c)] nx
  | _, _ => Stuck

/-- And those that leave something open. -/
def evOpN (D : Den) (T : Tab) (o : Op) (ty : Nat) (s : St) (h : AHeap) (nx : Nat) (K : AV → Ups → Nat → Prop) : Prop :=
  match o with
  | .binOp op t x y z => match (T t).k, op, opnd T t s y with
    | .slice _, .eql, .nsl _ => eqNil h (opnd T t s x) fun b => K (.bool b) [] nx
    | .slice _, .neq, .nsl _ => eqNil h (opnd T t s x) fun b => K (.bool (!b)) [] nx
    | _, _, _ => evOpZ D T (.binOp op t x y z) ty s h nx K
  | .slice t x lo hi mx => match (T t).k, opnd T ty s x with
    | .slice e, .ref b => match h b with
      | .rowc e' es c => sliceC T e b e' es c (lo.map (opnd T 0 s)) (hi.map (opnd T 0 s)) (mx.map (opnd T 0 s)) nx K
      | _ => evOpZ D T (.slice t x lo hi mx) ty s h nx K
    | _, _ => evOpZ D T (.slice t x lo hi mx) ty s h nx K
  | .call c => match c.callee with
    | .builtin .cap => match argsOf T s c, c.argTypes.toList with
      | [.ref b], [t] => capV T t b h nx K
      | _, _ => Stuck
    | _ => evOpZ D T (.call c) ty s h nx K
  | o => evOpZ D T o ty s h nx K

/-- Which blocks a value leads to. -/
def leads2 : AV → List Nat
  | .agg cs => cs.flatMap leads1
  | .fn _ caps => caps.flatMap leads1
  | x => leads1 x
def leads3 : AV → List Nat
  | .tup xs => xs.flatMap leads2
  | x => leads2 x
def foot (h : AHeap) (vs : List AV) : List Nat :=
  let l := vs.flatMap leads3
  l ++ l.flatMap fun b => leadsB (h b)
/-- A pointer is moved: nothing is looked at. -/
def lightB (o : Op) (s : Nat → AV) : Bool := match o with
  | .move (.tmp t) => match s t with
    | .ptr _ _ _ => true
    | _ => false
  | _ => false
def closedB (h : AHeap) (R : List Nat) : Bool := R.all fun b => (leadsB (h b)).all fun c => R.contains c
def only (R : List Nat) (h : AHeap) : AHeap := fun b => bif R.contains b then h b else .none

/-- What an operation of a region whose order is open has read and written: local slots, blocks. -/
structure Tr where
  reads : List Nat
  dst : Option Nat
  R : List Nat
  W : List Nat
def meets (a b : List Nat) : Bool := a.any fun x => b.contains x
def wrote (x : Tr) : List Nat := match x.dst with | some d => [d] | .none => []
def clash (x y : Tr) : Bool :=
  meets (wrote x) y.reads || meets (wrote y) x.reads || meets (wrote x) (wrote y) || meets x.W y.R || meets x.W y.W || meets x.R y.W
def edgesOf (all : List Oper) (j : Nat) : List Nat := match all[j]? with
  | some o => o.after.toList.filterMap fun e => match e.ground with
    | .textOnly _ => .none
    | .gcOnly _ => .none
    | _ => some e.on
  | .none => []
def isAnc (all : List Oper) (i : Nat) : Nat → Nat → Bool
  | 0, j => (edgesOf all j).contains i
  | f + 1, j => (edgesOf all j).contains i || (edgesOf all j).any fun k => isAnc all i f k
def okPair (all : List Oper) (tr : List Tr) (j : Nat) (y : Tr) : Bool :=
  tr.zipIdx.all fun p => bif Nat.blt p.2 j then !(clash p.1 y) || (isAnc all p.2 3 j || isAnc all p.2 6 j) else true
def okTr (all : List Oper) (tr : List Tr) : Bool :=
  (tr.zipIdx.all fun p => okPair all tr p.2 p.1) && ((List.range all.length).all fun j => (edgesOf all j).all fun i => Nat.blt i j)

def readsOf (o : Oper) : List Nat := o.op.operands.toList.filterMap fun x => match x with | .tmp t => some t | _ => .none

def guardOf (all : List Oper) (j : Nat) : Option Nat := match all[j]? with
  | some g => g.dst
  | .none => .none

/-- What is new is numbered on from nx. -/
def okUp (nx : Nat) (us : Ups) (nx' : Nat) : Bool := Nat.ble nx nx' && us.all fun p => Nat.blt p.1 nx'
def Gate (b : Bool) (P : Prop) : Prop := match b with
  | true => P
  | false => Stuck

def evOps (D : Den) (T : Tab) (all : List Oper) (l : List Oper) : St → AHeap → Nat → (St → AHeap → Nat → Prop) → Prop :=
  List.rec (motive := fun _ => St → AHeap → Nat → (St → AHeap → Nat → Prop) → Prop) (fun s h nx K => K s h nx) (fun o _ ih s h nx K =>
    match o.guard with
    | .none => evOpN D T o.op o.type s h nx fun v us nx' => forceR v us nx' fun v us nx' => Gate (okUp nx us nx') (ih (aput s o.dst v) (happ h us) nx' K)
    | some (j, want) => match guardOf all j with
      | some d => match s d with
        | .bool b =>
          match want with
          | true => IfB b (evOpN D T o.op o.type (aset s d (.bool true)) h nx fun v us nx' => forceR v us nx' fun v us nx' => Gate (okUp nx us nx') (ih (aput (aset s d (.bool true)) o.dst v) (happ h us) nx' K))
            (ih (aput (aset s d (.bool false)) o.dst .skp) h nx K)
          | false => IfB b (ih (aput (aset s d (.bool true)) o.dst .skp) h nx K)
            (evOpN D T o.op o.type (aset s d (.bool false)) h nx fun v us nx' => forceR v us nx' fun v us nx' => Gate (okUp nx us nx') (ih (aput (aset s d (.bool false)) o.dst v) (happ h us) nx' K))
        | .skp => ih (aput s o.dst .skp) h nx K
        | _ => Stuck
      | .none => Stuck) l
theorem evOps_nil (D : Den) (T : Tab) (all : List Oper) (s : St) (h : AHeap) (nx : Nat) (K : St → AHeap → Nat → Prop) : evOps D T all [] s h nx K = K s h nx := rfl
theorem evOps_cons (D : Den) (T : Tab) (all : List Oper) (o : Oper) (rest : List Oper) (s : St) (h : AHeap) (nx : Nat) (K : St → AHeap → Nat → Prop) : evOps D T all (o :: rest) s h nx K = (
    match o.guard with
    | .none => evOpN D T o.op o.type s h nx fun v us nx' => forceR v us nx' fun v us nx' => Gate (okUp nx us nx') (evOps D T all rest (aput s o.dst v) (happ h us) nx' K)
    | some (j, want) => match guardOf all j with
      | some d => match s d with
        | .bool b =>
          match want with
          | true => IfB b (evOpN D T o.op o.type (aset s d (.bool true)) h nx fun v us nx' => forceR v us nx' fun v us nx' => Gate (okUp nx us nx') (evOps D T all rest (aput (aset s d (.bool true)) o.dst v) (happ h us) nx' K))
            (evOps D T all rest (aput (aset s d (.bool false)) o.dst .skp) h nx K)
          | false => IfB b (evOps D T all rest (aput (aset s d (.bool true)) o.dst .skp) h nx K)
            (evOpN D T o.op o.type (aset s d (.bool false)) h nx fun v us nx' => forceR v us nx' fun v us nx' => Gate (okUp nx us nx') (evOps D T all rest (aput (aset s d (.bool false)) o.dst v) (happ h us) nx' K))
        | .skp => evOps D T all rest (aput s o.dst .skp) h nx K
        | _ => Stuck
      | .none => Stuck) := rfl

/-- The blocks that turn are those that were looked at, and new ones. -/
def okUpD (R : List Nat) (nx : Nat) (us : Ups) (nx' : Nat) : Bool := okUp nx us nx' && us.all fun p => R.contains p.1 || Nat.ble nx p.1

def footO (T : Tab) (o : Oper) (s : St) (h : AHeap) : List Nat := match lightB o.op s with
  | true => []
  | false => foot h (o.op.operands.toList.map (opnd T o.type s))
/-- One operation, which sees what its operands lead to. -/
def stepD (D : Den) (T : Tab) (o : Oper) (s : St) (h : AHeap) (nx : Nat) (rd : List Nat) (K : Tr → AV → Ups → Nat → Prop) : Prop :=
  forceL (footO T o s h) fun R => Gate (closedB h R && R.all fun b => Nat.blt b nx) (evOpZ D T o.op o.type s (only R h) nx fun v us nx' =>
    forceR v us nx' fun v us nx' => Gate (okUpD R nx us nx') (K ⟨rd, o.dst, R, us.map (·.1)⟩ v us nx'))

def evOpsD (D : Den) (T : Tab) (all : List Oper) (l : List Oper) : List Tr → St → AHeap → Nat → (List Tr → St → AHeap → Nat → Prop) → Prop :=
  List.rec (motive := fun _ => List Tr → St → AHeap → Nat → (List Tr → St → AHeap → Nat → Prop) → Prop) (fun tr s h nx K => K tr s h nx) (fun o _ ih tr s h nx K =>
    match o.guard with
    | .none => stepD D T o s h nx (readsOf o) fun t v us nx' => ih (tr ++ [t]) (aput s o.dst v) (happ h us) nx' K
    | some (j, want) => match guardOf all j with
      | some d => match s d with
        | .bool b =>
          match want with
          | true => IfB b (stepD D T o (aset s d (.bool true)) h nx (d :: readsOf o) fun t v us nx' => ih (tr ++ [t]) (aput (aset s d (.bool true)) o.dst v) (happ h us) nx' K)
            (ih (tr ++ [⟨[d], o.dst, [], []⟩]) (aput (aset s d (.bool false)) o.dst .skp) h nx K)
          | false => IfB b (ih (tr ++ [⟨[d], o.dst, [], []⟩]) (aput (aset s d (.bool true)) o.dst .skp) h nx K)
            (stepD D T o (aset s d (.bool false)) h nx (d :: readsOf o) fun t v us nx' => ih (tr ++ [t]) (aput (aset s d (.bool false)) o.dst v) (happ h us) nx' K)
        | .skp => ih (tr ++ [⟨[d], o.dst, [], []⟩]) (aput s o.dst .skp) h nx K
        | _ => Stuck
      | .none => Stuck) l
theorem evOpsD_cons (D : Den) (T : Tab) (all : List Oper) (o : Oper) (rest : List Oper) (tr : List Tr) (s : St) (h : AHeap) (nx : Nat) (K : List Tr → St → AHeap → Nat → Prop) : evOpsD D T all (o :: rest) tr s h nx K = (
    match o.guard with
    | .none => stepD D T o s h nx (readsOf o) fun t v us nx' => evOpsD D T all rest (tr ++ [t]) (aput s o.dst v) (happ h us) nx' K
    | some (j, want) => match guardOf all j with
      | some d => match s d with
        | .bool b =>
          match want with
          | true => IfB b (stepD D T o (aset s d (.bool true)) h nx (d :: readsOf o) fun t v us nx' => evOpsD D T all rest (tr ++ [t]) (aput (aset s d (.bool true)) o.dst v) (happ h us) nx' K)
            (evOpsD D T all rest (tr ++ [⟨[d], o.dst, [], []⟩]) (aput (aset s d (.bool false)) o.dst .skp) h nx K)
          | false => IfB b (evOpsD D T all rest (tr ++ [⟨[d], o.dst, [], []⟩]) (aput (aset s d (.bool true)) o.dst .skp) h nx K)
            (stepD D T o (aset s d (.bool false)) h nx (d :: readsOf o) fun t v us nx' => evOpsD D T all rest (tr ++ [t]) (aput (aset s d (.bool false)) o.dst v) (happ h us) nx' K)
        | .skp => evOpsD D T all rest (tr ++ [⟨[d], o.dst, [], []⟩]) (aput s o.dst .skp) h nx K
        | _ => Stuck
      | .none => Stuck) := rfl

inductive Ex where
  | normal
  | exit (id : Nat)
  | ret

abbrev Post := Ex → St → AHeap → Nat → Prop

def masked : List Nat → List AV → St
  | t :: ts, v :: vs => fun j => bif Nat.beq j t then v else masked ts vs j
  | _, _ => fun _ => .und

def nodupB : List Nat → Bool
  | [] => true
  | b :: l => !(l.contains b) && nodupB l

/-- A value one cell of which is another. -/
def setCell (x : AV) (j : Nat) (c : AV) : AV := match x with
  | .agg cs => .agg (cs.set j c)
  | _ => c
/-- A variable one cell of which is laid where nobody writes. -/
def frzV (h : AHeap) (b j : Nat) : AHeap := match h b with
  | .var x => match (cells x)[j]? with
    | some c => match (fzc h c).2.all fun u => !(Nat.beq u.1 b) with
      | true => hset (happ h (fzc h c).2) b (.var (setCell x j (fzc h c).1))
      | false => h
    | .none => h
  | _ => h
def frzP (h : AHeap) (j : Nat) (p : AV) : AHeap := match p with
  | .ptr b _ _ => frzV h b j
  | _ => h
/-- Some slots' values, laid where nobody writes; 1000 (t + 1) + j: cell j of the variable that slot t leads to. -/
def frz (s : St) (h : AHeap) : List Nat → St × AHeap
  | [] => (s, h)
  | t :: ts => match Nat.ble 1000 t with
    | true => frz s (frzP h (t % 1000) (s (t / 1000 - 1))) ts
    | false => frz (aset s t (fzv h (s t)).1) (happ h (fzv h (s t)).2) ts
def noTup : AV → AV
  | .tup _ => .und
  | x => x
/-- The same of answers. -/
def fzM (h : AHeap) (m : List Bool) : List AV → List AV × AHeap
  | [] => ([], h)
  | v :: vs => match m.headD false with
    | true => ((fzv h v).1 :: (fzM (happ h (fzv h v).2) m.tail vs).1, (fzM (happ h (fzv h v).2) m.tail vs).2)
    | false => (noTup v :: (fzM h m.tail vs).1, (fzM h m.tail vs).2)

/-- A loop: what holds at each round's head of the live slots and of the blocks that are kept, and what each round makes less. -/
structure LoopN (n : Nat) (s : St) (h : AHeap) (body : St → AHeap → Nat → Post → Prop) (Q : Post) : Prop where
  p : ∃ (live : List Nat) (I : List AV → List Blk → Prop) (m : List AV → List Blk → Nat) (fz kept : List Nat), nodupB (List.range n ++ kept) = true ∧
    I (live.map fun t => ren3 (pos (List.range n ++ kept)) ((frz s h fz).1 t)) ((List.range n ++ kept).map fun b => renB (pos (List.range n ++ kept)) ((frz s h fz).2 b)) ∧
    ∀ vs L, I vs L → body (masked live vs) (ofL L) L.length fun e s' h' nx' => match e with
      | .normal => ∃ fz kept, nodupB (List.range n ++ kept) = true ∧ I (live.map fun t => ren3 (pos (List.range n ++ kept)) ((frz s' h' fz).1 t)) ((List.range n ++ kept).map fun b => renB (pos (List.range n ++ kept)) ((frz s' h' fz).2 b)) ∧
          m (live.map fun t => ren3 (pos (List.range n ++ kept)) ((frz s' h' fz).1 t)) ((List.range n ++ kept).map fun b => renB (pos (List.range n ++ kept)) ((frz s' h' fz).2 b)) < m vs L
      | e => Q e s' h' nx'

def EV (D : Den) (T : Tab) (n : Nat) (c : Code) : St → AHeap → Nat → Post → Prop :=
  Code.rec (motive := fun _ => St → AHeap → Nat → Post → Prop)
    (fun s h nx Q => Q .normal s h nx)
    (fun _ ops draw s h nx Q => match draw with
      | false => evOps D T ops.toList ops.toList s h nx (Q .normal)
      | true => evOpsD D T ops.toList ops.toList [] s h nx fun tr s h nx => Sure (okTr ops.toList tr) (Q .normal s h nx))
    (fun _ _ ia ib s h nx Q => ia s h nx fun e s h nx => match e with | .normal => ib s h nx Q | e => Q e s h nx)
    (fun c _ _ ia ib s h nx Q => match opnd T 0 s c with | .bool b => IfB b (ia s h nx Q) (ib s h nx Q) | _ => Stuck)
    (fun id _ ia s h nx Q => ia s h nx fun e s h nx => match e with | .exit j => bif Nat.beq j id then Q .normal s h nx else Q (.exit j) s h nx | e => Q e s h nx)
    (fun _ ia s h _ Q => LoopN n s h ia Q)
    (fun _ _ _ _ _ _ _ _ _ _ => Stuck)
    (fun id s h nx Q => Q (.exit id) s h nx)
    (fun _ _ _ _ _ _ => Stuck)
    (fun _ s h nx Q => Q .normal s h nx)
    (fun _ _ _ _ _ => Stuck)
    (fun s h nx Q => Q .ret s h nx)
    (fun _ _ _ _ _ => Stuck) c

def nils2 (v : AV) (nx : Nat) : AV × Ups × Nat :=
  match v with
  | .agg cs => let r := nils cs nx; (.agg r.1, r.2)
  | .nsl e => (.ref nx, [(nx, .row e [])], nx + 1)
  | .tup _ => (.und, [], nx)
  | v => (v, [], nx)
def nilsT : List AV → Nat → List AV × Ups × Nat
  | [], nx => ([], [], nx)
  | v :: vs, nx => let a := nils2 v nx; let r := nilsT vs a.2.2; (a.1 :: r.1, a.2.1 ++ r.2.1, r.2.2)

def resV (T : Tab) (s : St) (h : AHeap) (l : List ResultVar) : (List AV → Prop) → Prop :=
  List.rec (motive := fun _ => (List AV → Prop) → Prop) (fun K => K []) (fun r _ ih K => match r with
    | .tmp t => force (s t) fun v => ih fun vs => K (v :: vs)
    | .cell a t => match s a with
      | .ptr b 0 off => match h b with
        | .var x => readAt (T t) x off fun v => ih fun vs => K (v :: vs)
        | _ => Stuck
      | _ => Stuck) l
theorem resV_cell (T : Tab) (s : St) (h : AHeap) (a t : Nat) (rs : List ResultVar) (K : List AV → Prop) : resV T s h (.cell a t :: rs) K = (match s a with
    | .ptr b 0 off => match h b with
      | .var x => readAt (T t) x off fun v => resV T s h rs fun vs => K (v :: vs)
      | _ => Stuck
    | _ => Stuck) := rfl

structure RetN (P : List Nat → Prop) (R : List Bool → List Nat → Prop) : Prop where
  mk0 ::
  p : (∃ kept, P kept) ∨ ∃ m kept, R m kept
theorem RetN.mk {P : List Nat → Prop} {R : List Bool → List Nat → Prop} (h : ∃ kept, P kept) : RetN P R := ⟨.inl h⟩
theorem RetN.fz {P : List Nat → Prop} {R : List Bool → List Nat → Prop} (h : ∃ m kept, R m kept) : RetN P R := ⟨.inr h⟩

/-- Behind the body: the answer, and the blocks that are told: those that were lent (n of them), and what is kept. -/
def retQ (T : Tab) (rs : List ResultVar) (n : Nat) (R : AV → List Blk → Prop) : Post := fun e s h nx =>
  match e with
  | .exit _ => Stuck
  | _ => resV T s h rs fun vs =>
    let a := nilsT vs nx
    let h' := happ h a.2.1
    RetN (fun kept => nodupB (List.range n ++ kept) = true ∧ R (ren3 (pos (List.range n ++ kept)) (match a.1 with | [v] => v | vs => .tup vs)) ((List.range n ++ kept).map fun b => renB (pos (List.range n ++ kept)) (h' b)))
      (fun m kept => nodupB (List.range n ++ kept) = true ∧ R (ren3 (pos (List.range n ++ kept)) (match (fzM h m vs).1 with | [v] => v | vs => .tup vs)) ((List.range n ++ kept).map fun b => renB (pos (List.range n ++ kept)) ((fzM h m vs).2 b)))

/-- All slots written lie within the frame. -/
def dstB (N : Nat) : Code → Bool
  | .region _ ops _ => ops.toList.all fun o => match o.dst with | some d => Nat.blt d N | .none => true
  | .seq a b => dstB N a && dstB N b
  | .cond _ a b => dstB N a && dstB N b
  | .block _ c => dstB N c
  | .loop c => dstB N c
  | _ => true

def code (f : Func) : Code := f.body.getD .skip

end Go.Ev
