/- What an abstract state says of a world. -/
import Derived.Test.YtbhjocgepgpnmaaEvDef
import Derived.Laws.Cells
import Derived.Laws.World
import Derived.Laws.AppendOwn
import Derived.Laws.IdiomCopy
set_option linter.unusedVariables false
set_option linter.unusedSimpArgs false
namespace Go.Ev

def adr (p : Nat × Nat) : Addr := ⟨p.1, p.2, none⟩
/-- A cell that is there. -/
def Has (w : World) (a : Addr) : Prop := ∃ u, w.cell? a = some u ∧ u.oneCell' = true
theorem Has.some {w : World} {a : Addr} (h : Has w a) : (w.cell? a).isSome = true := by obtain ⟨u, h, _⟩ := h; rw [h]; rfl
theorem Has.of_block {w w' : World} {a : Addr} (hb : w'.heap[a.block]? = w.heap[a.block]?) (h : Has w a) : Has w' a := by
  obtain ⟨u, h1, h2⟩ := h
  exact ⟨u, (World.cell?_of_block hb).trans h1, h2⟩

/-- A value that lies in blocks of S, which nobody writes. -/
inductive VF (T : Tab) (S : Nat → Prop) (w : World) : AV → Value → Prop where
  | und (v : Value) : VF T S w .und v
  | skp : VF T S w .skp undef
  | int (k : IntKind) (n : Int) : VF T S w (.int k n) (.int k n)
  | bool (b : Bool) : VF T S w (.bool b) (.bool b)
  | str (s : ByteArray) : VF T S w (.str s) (.string s)
  | npt : VF T S w .npt (.pointer none)
  | nmp : VF T S w .nmp (.map none)
  | nsl (e : Nat) : VF T S w (.nsl e) (.slice none 0 0)
  | nil (e : Nat) (oa : Option Addr) (cap : Nat) : VF T S w (.lst e []) (.slice oa 0 cap)
  | lst (e : Nat) (es : List AV) (blk off cap : Nat) (g : Nat → Nat → Value) (hS : S blk) (hcap : es.length ≤ cap)
      (hz : ∀ x ∈ es, (cells x).length = (T e).size)
      (hc : ∀ (i : Nat) (x : AV) (j : Nat) (c : AV), es[i]? = some x → (cells x)[j]? = some c → w.cell? ⟨blk, off + (i * (T e).size + j), none⟩ = some (g i j))
      (h1 : ∀ (i : Nat) (x : AV) (j : Nat) (c : AV), es[i]? = some x → (cells x)[j]? = some c → (g i j).oneCell' = true)
      (hv : ∀ (i : Nat) (x : AV) (j : Nat) (c : AV), es[i]? = some x → (cells x)[j]? = some c → VF T S w c (g i j)) :
      VF T S w (.lst e es) (.slice (some ⟨blk, off, none⟩) es.length cap)
  | agg (cs : List AV) (vs : Array Value) (hl : vs.size = cs.length)
      (h1 : ∀ (j : Nat) (c : AV) (u : Value), cs[j]? = some c → vs[j]? = some u → u.oneCell' = true)
      (hv : ∀ (j : Nat) (c : AV) (u : Value), cs[j]? = some c → vs[j]? = some u → VF T S w c u) : VF T S w (.agg cs) (.agg vs)
  | eptr (x : AV) (off blk o : Nat) (g : Nat → Value) (hS : S blk)
      (hc : ∀ (j : Nat) (c : AV), (cells x)[j]? = some c → w.cell? ⟨blk, o + j, none⟩ = some (g j))
      (h1 : ∀ (j : Nat) (c : AV), (cells x)[j]? = some c → (g j).oneCell' = true)
      (hv : ∀ (j : Nat) (c : AV), (cells x)[j]? = some c → VF T S w c (g j)) : VF T S w (.eptr x off) (.pointer (some ⟨blk, o + off, none⟩))
  | fn (f : Nat) (caps : List AV) (vs : Array Value) (hl : vs.size = caps.length)
      (hv : ∀ (j : Nat) (c : AV) (u : Value), caps[j]? = some c → vs[j]? = some u → VF T S w c u) : VF T S w (.fn f caps) (.func (.func f) #[] vs)

theorem VF.mono {T : Tab} {S S' : Nat → Prop} {w w' : World} (hS : ∀ b, S b → S' b) (hw : ∀ b, S b → w'.heap[b]? = w.heap[b]?) {x : AV} {v : Value}
    (h : VF T S w x v) : VF T S' w' x v := by
  have hcell : ∀ b o, S b → w'.cell? ⟨b, o, none⟩ = w.cell? ⟨b, o, none⟩ := fun b o h => by simp [World.cell?, hw b h]
  induction h with
  | und v => exact .und v
  | skp => exact .skp
  | int k n => exact .int k n
  | bool b => exact .bool b
  | str s => exact .str s
  | npt => exact .npt
  | nmp => exact .nmp
  | nsl e => exact .nsl e
  | nil e oa cap => exact .nil e oa cap
  | lst e es blk off cap g h0 hcap hz hc h1 _ ih => exact .lst e es blk off cap g (hS _ h0) hcap hz (fun i x j c a b => (hcell _ _ h0).trans (hc i x j c a b)) h1 ih
  | agg cs vs hl h1 _ ih => exact .agg cs vs hl h1 ih
  | eptr x off blk o g h0 hc h1 _ ih => exact .eptr x off blk o g (hS _ h0) (fun j c a => (hcell _ _ h0).trans (hc j c a)) h1 ih
  | fn f caps vs hl _ ih => exact .fn f caps vs hl ih

/-- Where a local block lies. -/
inductive Loc where
  | no
  | at (blk off : Nat)
  | row (oa : Option (Nat × Nat)) (cap : Nat)
  | map (r : Nat)
  | grid (oa : Option (Nat × Nat)) (cap : Nat) (rs : List (Option (Nat × Nat) × Nat))
abbrev Rho := Nat → Loc
/-- What of a block matters to what leads to it. -/
inductive Vw where
  | no
  | dead
  | var
  | row (e n : Nat)
  | map
  | grid (e e' : Nat) (ns : List (Option Nat))
def gns (gs : List (Bool × List AV)) : List (Option Nat) := gs.map fun g => bif g.1 then some g.2.length else none
def vw : Blk → Vw
  | .none => .no
  | .dead => .dead
  | .var _ => .var
  | .fv _ => .var
  | .row e es => .row e es.length
  | .fz e es => .row e es.length
  | .map _ _ => .map
  | .rowc e es _ => .row e es.length
  | .grid e e' gs => .grid e e' (gns gs)
  | .fzg _ _ => .dead
def realR : Option (Nat × Nat) → Nat → List Nat
  | some p, _ + 1 => [p.1]
  | _, _ => []
/-- Which blocks of the world a local block is. -/
def realL : Loc → List Nat
  | .at blk _ => [blk]
  | .row oa cap => realR oa cap
  | .map r => [r]
  | .grid oa cap rs => realR oa cap ++ rs.flatMap fun r => realR r.1 r.2
  | .no => []

section
variable (T : Tab) (S : Nat → Prop) (w : World) (h : AHeap) (ρ : Rho)

/-- A cell's value. -/
def VLc : AV → Value → Prop
  | .ref b, v => match vw (h b) with
    | .no => False
    | .row _ n => ∃ oa cap, ρ b = .row oa cap ∧ v = .slice (oa.map adr) n cap
    | .grid _ _ ns => ∃ oa cap rs, ρ b = .grid oa cap rs ∧ v = .slice (oa.map adr) ns.length cap
    | _ => v.oneCell' = true
  | .sub b i n, v => match vw (h b) with
    | .no => False
    | .row e m => ∃ oa cap oa', ρ b = .row oa cap ∧ i + n ≤ m ∧ v = .slice oa' n (cap - i) ∧ (cap - i ≠ 0 → ∃ p, oa = some p ∧ oa' = some ⟨p.1, p.2 + i * (T e).size, none⟩)
    | _ => v.oneCell' = true
  | .fsub b n, v => match vw (h b) with
    | .no => False
    | .row _ m => ∃ oa cap, ρ b = .row oa cap ∧ n ≤ m ∧ v = .slice (oa.map adr) n n
    | .var => ∃ blk o, ρ b = .at blk o ∧ v = .slice (some ⟨blk, o, none⟩) n n
    | _ => v.oneCell' = true
  | .ptr b i off, v => match vw (h b) with
    | .no => False
    | .var => ∃ blk o, ρ b = .at blk o ∧ v = .pointer (some ⟨blk, o + off, none⟩)
    | .row e m => ∃ p cap, ρ b = .row (some p) cap ∧ i < m ∧ v = .pointer (some ⟨p.1, p.2 + (i * (T e).size + off), none⟩)
    | .grid e _ ns => ∃ p cap rs, ρ b = .grid (some p) cap rs ∧ i < ns.length ∧ v = .pointer (some ⟨p.1, p.2 + (i * (T e).size + off), none⟩)
    | _ => v.oneCell' = true
  | .mp b, v => match vw (h b) with
    | .no => False
    | .map => ∃ r, ρ b = .map r ∧ v = .map (some r)
    | _ => v.oneCell' = true
  | .gref b i, v => match vw (h b) with
    | .dead => v.oneCell' = true
    | .grid _ _ ns => ∃ oa cap rs n ia icap, ρ b = .grid oa cap rs ∧ ns[i]? = some (some n) ∧ rs[i]? = some (ia, icap) ∧ v = .slice (ia.map adr) n icap
    | _ => False
  | .gptr b i j off, v => match vw (h b) with
    | .dead => v.oneCell' = true
    | .grid _ e' ns => ∃ oa cap rs n ip icap, ρ b = .grid oa cap rs ∧ ns[i]? = some (some n) ∧ rs[i]? = some (some ip, icap) ∧ j < n ∧ v = .pointer (some ⟨ip.1, ip.2 + (j * (T e').size + off), none⟩)
    | _ => False
  | x, v => VF T S w x v

def VLv : AV → Value → Prop
  | .agg cs, v => ∃ vs : Array Value, v = .agg vs ∧ vs.size = cs.length ∧ ∀ (j : Nat) (c : AV) (u : Value), cs[j]? = some c → vs[j]? = some u → VLc T S w h ρ c u ∧ u.oneCell' = true
  | .fn f caps, v => ∃ vs : Array Value, v = .func (.func f) #[] vs ∧ vs.size = caps.length ∧ ∀ (j : Nat) (c : AV) (u : Value), caps[j]? = some c → vs[j]? = some u → VLc T S w h ρ c u
  | x, v => VLc T S w h ρ x v

def VLt : AV → Value → Prop
  | .tup xs, v => ∃ vs : Array Value, v = .tuple vs ∧ vs.size = xs.length ∧ ∀ (j : Nat) (c : AV) (u : Value), xs[j]? = some c → vs[j]? = some u → VLv T S w h ρ c u
  | x, v => VLv T S w h ρ x v

/-- The cells of a variable or an element, from a place on. -/
def CellsAt (V : AV → Value → Prop) (blk o : Nat) (x : AV) : Prop :=
  ∀ (j : Nat) (c : AV), (cells x)[j]? = some c → ∃ u, w.cell? ⟨blk, o + j, none⟩ = some u ∧ u.oneCell' = true ∧ V c u

def MapRel : List (AV × AV) → List MapEntry → Prop
  | [], [] => True
  | (k, v) :: es, r :: rs => VF T S w k r.key ∧ VF T S w v r.val ∧ MapRel es rs
  | _, _ => False

def isB : TK → Bool
  | .int .u8 => true
  | _ => false
/-- Cells have a size; no text lies in the block, if it is not one of bytes. -/
def Clean (e : Nat) (oa : Option (Nat × Nat)) (cap : Nat) : Prop := (0 < cap → 0 < (T e).size) ∧ (isB (T e).k = false → ∀ p, oa = some p → 0 < cap → ∀ k, w.frozen? ⟨p.1, k, none⟩ = false)
/-- A row of its own. -/
abbrev RowAt (e : Nat) (es : List AV) (oa : Option (Nat × Nat)) (cap : Nat) : Prop :=
  es.length ≤ cap ∧ (oa = none → cap = 0) ∧ (∀ x ∈ es, (cells x).length = (T e).size) ∧ Clean T w e oa cap ∧
      ∀ p, oa = some p → 0 < cap →
        (∀ i x, es[i]? = some x → CellsAt w (VF T S w) p.1 (p.2 + i * (T e).size) x) ∧
        (∀ j, j < cap * (T e).size → Has w ⟨p.1, p.2 + j, none⟩ ∧ w.frozen? ⟨p.1, p.2 + j, none⟩ = false)
/-- One row of a grid. -/
def GAt (e' : Nat) (g : Bool × List AV) (r : Option (Option (Nat × Nat) × Nat)) (u : Value) : Prop :=
  match g.1 with
  | false => r = some (none, 0) ∧ VF T S w (.lst e' g.2) u
  | true => ∃ ia icap, r = some (ia, icap) ∧ u = .slice (ia.map adr) g.2.length icap ∧ RowAt T S w e' g.2 ia icap
/-- A grid: its own row of slices, and its rows. -/
structure GridAt (e e' : Nat) (gs : List (Bool × List AV)) (oa : Option (Nat × Nat)) (cap : Nat) (rs : List (Option (Nat × Nat) × Nat)) : Prop where
  hcap : gs.length ≤ cap
  no : oa = none → cap = 0
  one : (T e).size = 1
  pos : 0 < (T e').size
  len : rs.length = gs.length
  nd : (realL (.grid oa cap rs)).Nodup
  row : ∀ p, oa = some p → ∀ j, j < cap → Has w ⟨p.1, p.2 + j, none⟩ ∧ w.frozen? ⟨p.1, p.2 + j, none⟩ = false
  each : ∀ i g, gs[i]? = some g → ∃ p u, oa = some p ∧ w.cell? ⟨p.1, p.2 + i, none⟩ = some u ∧ u.oneCell' = true ∧ GAt T S w e' g rs[i]? u

/-- What a block says. -/
def HB (b : Nat) : Prop :=
  match h b with
  | .none => True
  | .dead => True
  | .var x => ∃ blk o, ρ b = .at blk o ∧ CellsAt w (VLc T S w h ρ) blk o x ∧ ∀ j, j < (cells x).length → w.frozen? ⟨blk, o + j, none⟩ = false
  | .fv x => ∃ blk o, ρ b = .at blk o ∧ S blk ∧ CellsAt w (VF T S w) blk o x
  | .row e es => ∃ oa cap, ρ b = .row oa cap ∧ es.length ≤ cap ∧ (oa = none → cap = 0) ∧ (∀ x ∈ es, (cells x).length = (T e).size) ∧ Clean T w e oa cap ∧
      ∀ p, oa = some p → 0 < cap →
        (∀ i x, es[i]? = some x → CellsAt w (VF T S w) p.1 (p.2 + i * (T e).size) x) ∧
        (∀ j, j < cap * (T e).size → Has w ⟨p.1, p.2 + j, none⟩ ∧ w.frozen? ⟨p.1, p.2 + j, none⟩ = false)
  | .fz e es => ∃ oa cap, ρ b = .row oa cap ∧ VF T S w (.lst e es) (.slice (oa.map adr) es.length cap)
  | .map kt es => ∃ r, ρ b = .map r ∧ ∃ rs clock, w.heap[r]? = some (.map rs clock) ∧ MapRel T S w es rs.toList ∧ ∀ p ∈ es, keyOk T kt p.1 = true
  | .rowc e es c => ∃ oa, ρ b = .row oa c ∧ RowAt T S w e es oa c
  | .grid e e' gs => ∃ oa cap rs, ρ b = .grid oa cap rs ∧ GridAt T S w e e' gs oa cap rs
  | .fzg e es => ∃ oa cap rs, ρ b = .grid oa cap rs ∧ VF T S w (.lst e es) (.slice (oa.map adr) es.length cap)

end

/-- The world at a call's begin: what is protected, and where what came in lies. -/
structure Base where
  w : World
  B : Nat → Prop
  S : Nat → Prop

/-- All that holds of the local heap. -/
structure HR (T : Tab) (Z : Base) (S : Nat → Prop) (h : AHeap) (ρ : Rho) (w : World) : Prop where
  hb : ∀ b, HB T S w h ρ b
  own : ∀ b blk, isLive (h b) = true → blk ∈ realL (ρ b) → blk < w.heap.size ∧ ¬ S blk ∧ ¬ Z.B blk
  apart : ∀ b c blk, b ≠ c → isLive (h b) = true → isLive (h c) = true → blk ∈ realL (ρ b) → blk ∉ realL (ρ c)
  sS : ∀ blk, S blk → blk < w.heap.size
  sub : ∀ blk, S blk → Z.S blk ∨ ¬ Z.B blk
  prot : ∀ blk, Z.B blk → w.heap[blk]? = Z.w.heap[blk]?
  big : Z.w.heap.size ≤ w.heap.size
  os : w.os = Z.w.os
  tape : w.tape = Z.w.tape
  output : w.output = Z.w.output
  zB : ∀ blk, Z.B blk → blk < Z.w.heap.size

/-- How a block may turn, so that what leads to it still says what it said. -/
def GLe (ns ms : List (Option Nat)) (rs qs : List (Option (Nat × Nat) × Nat)) : Prop := ms.length = ns.length ∧ ∀ i n : Nat, ns[i]? = some (some n) → ms[i]? = some (some n) ∧ qs[i]? = rs[i]?
/-- A row turns into a grid, a grid into one of which more is its own. -/
def GSt (x : Blk) (l : Loc) (y : Blk) (m : Loc) : Prop := ∃ e e' oa cap ms qs, vw y = .grid e e' ms ∧ m = .grid oa cap qs ∧
  ((vw x = .row e ms.length ∧ l = .row oa cap) ∨ ∃ ns rs, vw x = .grid e e' ns ∧ l = .grid oa cap rs ∧ GLe ns ms rs qs)
def BSt (x : Blk) (l : Loc) (y : Blk) (m : Loc) : Prop := vw x = .no ∨ vw y = .dead ∨ (vw y = vw x ∧ m = l) ∨ GSt x l y m

section
variable {T : Tab} {S S' : Nat → Prop} {w w' : World} {h h' : AHeap} {ρ ρ' : Rho}

/-- One state behind another: what was said of values is still so. -/
structure Goes (T : Tab) (S : Nat → Prop) (w : World) (h : AHeap) (ρ : Rho) (S' : Nat → Prop) (w' : World) (h' : AHeap) (ρ' : Rho) : Prop where
  s : ∀ b, S b → S' b
  w : ∀ b, S b → w'.heap[b]? = w.heap[b]?
  b : ∀ b, BSt (h b) (ρ b) (h' b) (ρ' b)

theorem BSt.same {x : Blk} {l : Loc} {y : Blk} {m : Loc} (h : vw y = vw x ∧ m = l) : BSt x l y m := .inr (.inr (.inl h))
theorem BSt.refl (x : Blk) (l : Loc) : BSt x l x l := BSt.same ⟨rfl, rfl⟩
theorem BSt.trans {x y z : Blk} {l m n : Loc} (a : BSt x l y m) (b : BSt y m z n) : BSt x l z n := by
  rcases a with a | a | ⟨a, rfl⟩ | ⟨e, e', oa, cap, ms, qs, a, rfl, c⟩
  · exact .inl a
  · rcases b with b | b | ⟨b, rfl⟩ | ⟨e, e', oa, cap, ms, qs, b, rfl, c⟩
    · rw [a] at b; cases b
    · exact .inr (.inl b)
    · exact .inr (.inl (b.trans a))
    · rcases c with ⟨c, _⟩ | ⟨ns, rs, c, _⟩ <;> rw [a] at c <;> cases c
  · rcases b with b | b | ⟨b, rfl⟩ | ⟨e, e', oa, cap, ms, qs, b, rfl, c⟩
    · exact .inl (a ▸ b)
    · exact .inr (.inl b)
    · exact .inr (.inr (.inl ⟨b.trans a, rfl⟩))
    · rw [a] at c; exact .inr (.inr (.inr ⟨e, e', oa, cap, ms, qs, b, rfl, c⟩))
  · rcases b with b | b | ⟨b, rfl⟩ | ⟨e2, e2', oa2, cap2, ms2, qs2, b, rfl, c2⟩
    · rw [a] at b; cases b
    · exact .inr (.inl b)
    · exact .inr (.inr (.inr ⟨e, e', oa, cap, ms, qs, b.trans a, rfl, c⟩))
    · rcases c2 with ⟨c2, _⟩ | ⟨ns2, rs2, c2, c3, c4⟩
      · rw [a] at c2; cases c2
      · rw [a] at c2; cases c2; cases c3
        refine .inr (.inr (.inr ⟨e, e', oa, cap, ms2, qs2, b, rfl, ?_⟩))
        rcases c with ⟨c, c5⟩ | ⟨ns, rs, c, c5, c6⟩
        · exact .inl ⟨(c4.1 ▸ c : vw x = .row e ms2.length), c5⟩
        · exact .inr ⟨ns, rs, c, c5, c4.1.trans c6.1, fun i n hi => ⟨(c4.2 i n (c6.2 i n hi).1).1, (c4.2 i n (c6.2 i n hi).1).2.trans (c6.2 i n hi).2⟩⟩
theorem BSt.flat {x y : Blk} {l m : Loc} (a : BSt x l y m) (h : ∀ e e' ns, vw y ≠ .grid e e' ns) : vw x = .no ∨ vw y = .dead ∨ (vw y = vw x ∧ m = l) := by
  rcases a with a | a | a | ⟨e, e', oa, cap, ms, qs, a, _⟩
  · exact .inl a
  · exact .inr (.inl a)
  · exact .inr (.inr a)
  · exact absurd a (h _ _ _)
theorem Goes.refl (T : Tab) (S : Nat → Prop) (w : World) (h : AHeap) (ρ : Rho) : Goes T S w h ρ S w h ρ := ⟨fun _ h => h, fun _ _ => rfl, fun _ => BSt.refl ..⟩
theorem Goes.trans {S'' : Nat → Prop} {w'' : World} {h'' : AHeap} {ρ'' : Rho} (a : Goes T S w h ρ S' w' h' ρ') (b : Goes T S' w' h' ρ' S'' w'' h'' ρ'') :
    Goes T S w h ρ S'' w'' h'' ρ'' := ⟨fun k h => b.s k (a.s k h), fun k h => (b.w k (a.s k h)).trans (a.w k h), fun k => BSt.trans (a.b k) (b.b k)⟩

/-- What leads to a block takes one cell. -/
def isLead : AV → Bool
  | .ref _ => true
  | .sub _ _ _ => true
  | .fsub _ _ => true
  | .ptr _ _ _ => true
  | .mp _ => true
  | .gref _ _ => true
  | .gptr _ _ _ _ => true
  | _ => false
theorem VLc.one {x : AV} {v : Value} (a : VLc T S w h ρ x v) (hx : isLead x = true) : v.oneCell' = true := by
  cases x with
  | ref b | sub b i n | fsub b n | ptr b i off | mp b | gref b i | gptr b i j off =>
    all_goals
      simp only [VLc] at a
      split at a
      all_goals first
        | exact a.elim
        | exact a
        | (obtain ⟨_, _, _, _, _, _, _, _, _, rfl⟩ := a; rfl)
        | (obtain ⟨_, _, _, _, _, _, _, _, _, _, rfl⟩ := a; rfl)
        | (obtain ⟨_, _, _, _, _, rfl, _⟩ := a; rfl)
        | (obtain ⟨_, _, _, _, _, rfl⟩ := a; rfl)
        | (obtain ⟨_, _, _, _, rfl⟩ := a; rfl)
        | (obtain ⟨_, _, _, rfl⟩ := a; rfl)
        | (obtain ⟨_, _, rfl⟩ := a; rfl)
  | _ => cases hx

theorem Goes.vlc (g : Goes T S w h ρ S' w' h' ρ') {x : AV} {v : Value} (a : VLc T S w h ρ x v) : VLc T S' w' h' ρ' x v := by
  have key : VF T S w x v → VF T S' w' x v := VF.mono g.s g.w
  cases x with
  | ref b | sub b i n | fsub b n | ptr b i off | mp b | gref b i | gptr b i j off =>
    all_goals
      have one := a.one rfl
      revert a
      simp only [VLc]
      rcases g.b b with hb | hb | ⟨hb, hr⟩ | ⟨e, e', oa, cap, ms, qs, hb, hr, hc⟩
      · rw [hb]; exact False.elim
      · rw [hb]; exact fun _ => one
      · rw [hb, hr]; exact id
      · rw [hb, hr]
        rcases hc with ⟨c1, c2⟩ | ⟨ns, rs, c1, c2, c3⟩
        · rw [c1, c2]
          intro hh
          dsimp only at hh ⊢
          all_goals first
            | exact hh.elim
            | exact one
            | (obtain ⟨oa', cap', h1, h2⟩ := hh; cases h1; exact ⟨_, _, _, rfl, h2⟩)
            | (obtain ⟨p, cap', h1, h2, h3⟩ := hh; cases h1; exact ⟨_, _, _, rfl, h2, h3⟩)
        · rw [c1, c2]
          intro hh
          dsimp only at hh ⊢
          all_goals first
            | exact one
            | (obtain ⟨oa', cap', rs', h1, h2⟩ := hh; cases h1; exact ⟨_, _, _, rfl, by rw [c3.1]; exact h2⟩)
            | (obtain ⟨p, cap', rs', h1, h2, h3⟩ := hh; cases h1; exact ⟨_, _, _, rfl, by rw [c3.1]; exact h2, h3⟩)
            | (obtain ⟨oa', cap', rs', n, ia, icap, h1, h2, h3, h4⟩ := hh; cases h1; obtain ⟨d1, d2⟩ := c3.2 _ _ h2; exact ⟨_, _, _, n, ia, icap, rfl, d1, d2.trans h3, h4⟩)
  | _ => exact key a

theorem Goes.vlv (g : Goes T S w h ρ S' w' h' ρ') {x : AV} {v : Value} (a : VLv T S w h ρ x v) : VLv T S' w' h' ρ' x v := by
  cases x with
  | agg cs => obtain ⟨vs, hv, hl, hc⟩ := a; exact ⟨vs, hv, hl, fun j c u h1 h2 => ⟨g.vlc (hc j c u h1 h2).1, (hc j c u h1 h2).2⟩⟩
  | fn f caps => obtain ⟨vs, hv, hl, hc⟩ := a; exact ⟨vs, hv, hl, fun j c u h1 h2 => g.vlc (hc j c u h1 h2)⟩
  | _ => simp only [VLv] at a ⊢; exact g.vlc a
theorem Goes.vlt (g : Goes T S w h ρ S' w' h' ρ') {x : AV} {v : Value} (a : VLt T S w h ρ x v) : VLt T S' w' h' ρ' x v := by
  cases x with
  | tup xs => obtain ⟨vs, hv, hl, hc⟩ := a; exact ⟨vs, hv, hl, fun j c u h1 h2 => g.vlv (hc j c u h1 h2)⟩
  | _ => simp only [VLt] at a ⊢; exact g.vlv a
end

section
variable {T : Tab} {Z : Base} {S S' : Nat → Prop} {w w' : World} {h h' : AHeap} {ρ ρ' : Rho}

theorem CellsAt.mono {V V' : AV → Value → Prop} {blk o : Nat} {x : AV} (a : CellsAt w V blk o x) (hw : w'.heap[blk]? = w.heap[blk]?) (hV : ∀ c v, V c v → V' c v) :
    CellsAt w' V' blk o x := fun j c hc => by
  obtain ⟨u, h1, h2, h3⟩ := a j c hc
  exact ⟨u, (World.cell?_of_block (a := ⟨blk, o + j, none⟩) hw).trans h1, h2, hV _ _ h3⟩
theorem MapRel.mono (hV : ∀ c v, VF T S w c v → VF T S' w' c v) : ∀ {es : List (AV × AV)} {rs : List MapEntry}, MapRel T S w es rs → MapRel T S' w' es rs
  | [], [], _ => trivial
  | (_, _) :: es, _ :: rs, h => ⟨hV _ _ h.1, hV _ _ h.2.1, MapRel.mono hV h.2.2⟩
  | [], _ :: _, h => h.elim
  | _ :: _, [], h => h.elim

theorem mem_row {p : Nat × Nat} {cap : Nat} (h : 0 < cap) : p.1 ∈ realL (.row (some p) cap) := by
  cases cap with
  | zero => omega
  | succ n => simp [realL, realR]
theorem mem_grid {p : Nat × Nat} {cap : Nat} {rs : List (Option (Nat × Nat) × Nat)} (h : 0 < cap) : p.1 ∈ realL (.grid (some p) cap rs) := by
  cases cap with
  | zero => omega
  | succ n => simp [realL, realR]
theorem mem_inner {oa ia : Option (Nat × Nat)} {cap icap : Nat} {rs : List (Option (Nat × Nat) × Nat)} {i : Nat} {q : Nat × Nat} (h : rs[i]? = some (ia, icap)) (hq : ia = some q) (hc : 0 < icap) : q.1 ∈ realL (.grid oa cap rs) := by
  subst hq
  cases icap with
  | zero => omega
  | succ n =>
    simp only [realL, List.mem_append, List.mem_flatMap]
    exact .inr ⟨_, List.mem_of_getElem? h, by simp [realR]⟩
theorem realL_row {oa : Option (Nat × Nat)} {cap k : Nat} (h : k ∈ realL (.row oa cap)) : ∃ p, oa = some p ∧ 0 < cap ∧ k = p.1 := by
  cases oa with
  | none => simp [realL, realR] at h
  | some p =>
    cases cap with
    | zero => simp [realL, realR] at h
    | succ n => simp [realL, realR] at h; exact ⟨p, rfl, by omega, h⟩
theorem RowAt.keep {e : Nat} {es : List AV} {oa : Option (Nat × Nat)} {cap : Nat} (H : RowAt T S w e es oa cap) (g : Goes T S w h ρ S' w' h' ρ') (hl : ∀ p, oa = some p → 0 < cap → w'.heap[p.1]? = w.heap[p.1]?) : RowAt T S' w' e es oa cap := by
  obtain ⟨h2, h3, h4, h4', h5⟩ := H
  refine ⟨h2, h3, h4, ⟨h4'.1, fun hb p hp hc k => (World.frozen?_of_block (a := ⟨p.1, k, none⟩) (hl p hp hc)).trans (h4'.2 hb p hp hc k)⟩, fun p hp hc => ?_⟩
  have hw := hl p hp hc
  obtain ⟨h6, h7⟩ := h5 p hp hc
  exact ⟨fun i x hx => (h6 i x hx).mono hw fun _ _ => VF.mono g.s g.w, fun j hj => by
    rw [World.frozen?_of_block (a := ⟨p.1, p.2 + j, none⟩) hw]; exact ⟨(h7 j hj).1.of_block (a := ⟨p.1, p.2 + j, none⟩) hw, (h7 j hj).2⟩⟩

/-- A block that nothing has touched says what it said. -/
theorem HB.keep {b : Nat} (H : HB T S w h ρ b) (g : Goes T S w h ρ S' w' h' ρ') (hb : h' b = h b) (hr : ρ' b = ρ b)
    (hl : ∀ blk, isLive (h b) = true → blk ∈ realL (ρ b) → w'.heap[blk]? = w.heap[blk]?) : HB T S' w' h' ρ' b := by
  have kF : ∀ c v, VF T S w c v → VF T S' w' c v := fun _ _ => VF.mono g.s g.w
  unfold HB at H ⊢
  rw [hb, hr]
  cases hx : h b with
  | none => trivial
  | dead => trivial
  | var x =>
    rw [hx] at H hl
    obtain ⟨blk, o, h1, h2, h3⟩ := H
    have hw := hl blk rfl (by rw [h1]; simp [realL])
    exact ⟨blk, o, h1, h2.mono hw (fun _ _ => g.vlc), fun j hj => (World.frozen?_of_block (a := ⟨blk, o + j, none⟩) hw).trans (h3 j hj)⟩
  | fv x =>
    rw [hx] at H
    obtain ⟨blk, o, h1, h2, h3⟩ := H
    exact ⟨blk, o, h1, g.s _ h2, h3.mono (g.w _ h2) kF⟩
  | row e es =>
    rw [hx] at H hl
    obtain ⟨oa, cap, h1, h2⟩ := H
    exact ⟨oa, cap, h1, RowAt.keep h2 g fun p hp hc => hl p.1 rfl (by rw [h1, hp]; exact mem_row hc)⟩
  | rowc e es c =>
    rw [hx] at H hl
    obtain ⟨oa, h1, h2⟩ := H
    exact ⟨oa, h1, RowAt.keep h2 g fun p hp hc => hl p.1 rfl (by rw [h1, hp]; exact mem_row hc)⟩
  | grid e e' gs =>
    rw [hx] at H hl
    obtain ⟨oa, cap, rs, h1, h2⟩ := H
    refine ⟨oa, cap, rs, h1, h2.hcap, h2.no, h2.one, h2.pos, h2.len, h2.nd, fun p hp j hj => ?_, fun i gg hi => ?_⟩
    · have hw := hl p.1 rfl (by rw [h1, hp]; exact mem_grid (by omega))
      rw [World.frozen?_of_block (a := ⟨p.1, p.2 + j, none⟩) hw]; exact ⟨(h2.row p hp j hj).1.of_block (a := ⟨p.1, p.2 + j, none⟩) hw, (h2.row p hp j hj).2⟩
    · obtain ⟨p, u, k1, k2, k3, k4⟩ := h2.each i gg hi
      have hil := (List.getElem?_eq_some_iff.1 hi).1
      have hw := hl p.1 rfl (by rw [h1, k1]; exact mem_grid (by have := h2.hcap; omega))
      refine ⟨p, u, k1, (World.cell?_of_block (a := ⟨p.1, p.2 + i, none⟩) hw).trans k2, k3, ?_⟩
      unfold GAt at k4 ⊢
      split
      · rename_i hg
        rw [hg] at k4
        exact ⟨k4.1, kF _ _ k4.2⟩
      · rename_i hg
        rw [hg] at k4
        obtain ⟨ia, icap, k5, k6, k7⟩ := k4
        exact ⟨ia, icap, k5, k6, RowAt.keep k7 g fun q hq hc => hl q.1 rfl (by rw [h1]; exact mem_inner k5 hq hc)⟩
  | fz e es =>
    rw [hx] at H
    obtain ⟨oa, cap, h1, h2⟩ := H
    exact ⟨oa, cap, h1, kF _ _ h2⟩
  | fzg e es =>
    rw [hx] at H
    obtain ⟨oa, cap, rs, h1, h2⟩ := H
    exact ⟨oa, cap, rs, h1, kF _ _ h2⟩
  | map kt es =>
    rw [hx] at H hl
    obtain ⟨r, h1, rs, clock, h2, h3, h4⟩ := H
    exact ⟨r, h1, rs, clock, (hl r rfl (by rw [h1]; simp [realL])).trans h2, h3.mono kF, h4⟩

/-- The blocks X turn, and with them one block of the world at most; new ones may come. -/
theorem HR.upd (H : HR T Z S h ρ w) (X : Nat → Prop) {r : Option Nat} (g : w.grownBy w' r)
    (hr : ∀ k, r = some k → ∃ b, X b ∧ isLive (h b) = true ∧ k ∈ realL (ρ b))
    (hX : ∀ b, ¬ X b → h' b = h b ∧ ρ' b = ρ b)
    (hB : ∀ b, X b → BSt (h b) (ρ b) (h' b) (ρ' b))
    (hS : ∀ b, S b → S' b)
    (hS' : ∀ k, S' k → S k ∨ (w.heap.size ≤ k ∧ k < w'.heap.size) ∨ ∃ b, X b ∧ isLive (h b) = true ∧ k ∈ realL (ρ b))
    (hbX : Goes T S w h ρ S' w' h' ρ' → ∀ b, X b → HB T S' w' h' ρ' b)
    (ownX : ∀ b k, X b → isLive (h' b) = true → k ∈ realL (ρ' b) → ((w.heap.size ≤ k ∧ k < w'.heap.size) ∨ ∃ b0, X b0 ∧ isLive (h b0) = true ∧ k ∈ realL (ρ b0)) ∧ ¬ S' k)
    (apX : ∀ b c k, X b → X c → b ≠ c → isLive (h' b) = true → isLive (h' c) = true → k ∈ realL (ρ' b) → k ∉ realL (ρ' c)) :
    HR T Z S' h' ρ' w' ∧ Goes T S w h ρ S' w' h' ρ' := by
  have same : ∀ k, k < w.heap.size → some k ≠ r → w'.heap[k]? = w.heap[k]? := g.block
  have go : Goes T S w h ρ S' w' h' ρ' := ⟨hS, fun b hb => same b (H.sS b hb) (fun e => by
      obtain ⟨b0, _, h2, h3⟩ := hr b e.symm
      exact (H.own b0 b h2 h3).2.1 hb), fun b => by
      rcases Classical.em (X b) with hx | hx
      · exact hB b hx
      · rw [(hX b hx).1, (hX b hx).2]; exact BSt.refl ..⟩
  have keepReal : ∀ b k, ¬ X b → isLive (h b) = true → k ∈ realL (ρ b) → some k ≠ r := fun b k hx hl hk e => by
    obtain ⟨b0, h1, h2, h3⟩ := hr k e.symm
    exact H.apart b0 b k (fun e => hx (e ▸ h1)) h2 hl h3 hk
  refine ⟨⟨fun b => ?_, fun b k hl hk => ?_, fun b c k hne hb hc hk hk' => ?_, fun k hk => ?_, fun k hk => ?_, fun k hk => ?_, Nat.le_trans H.big g.size, g.os.trans H.os, g.tape.trans H.tape, g.output.trans H.output, H.zB⟩, go⟩
  · rcases Classical.em (X b) with hx | hx
    · exact hbX go b hx
    · exact (H.hb b).keep go (hX b hx).1 (hX b hx).2 (fun k hl hk => same k (H.own b k hl hk).1 (keepReal b k hx hl hk))
  · rcases Classical.em (X b) with hx | hx
    · obtain ⟨h1, h2⟩ := ownX b k hx hl hk
      rcases h1 with h1 | ⟨b0, h3, h4, h5⟩
      · exact ⟨h1.2, h2, fun hz => by have := H.zB k hz; have := H.big; omega⟩
      · have := H.own b0 k h4 h5
        exact ⟨Nat.lt_of_lt_of_le this.1 g.size, h2, this.2.2⟩
    · rw [(hX b hx).1] at hl; rw [(hX b hx).2] at hk
      have := H.own b k hl hk
      refine ⟨Nat.lt_of_lt_of_le this.1 g.size, fun hs => ?_, this.2.2⟩
      rcases hS' k hs with h1 | h1 | ⟨b0, h3, h4, h5⟩
      · exact this.2.1 h1
      · omega
      · exact H.apart b0 b k (fun e => hx (e ▸ h3)) h4 hl h5 hk
  · rcases Classical.em (X b) with hx | hx
    · rcases Classical.em (X c) with hy | hy
      · exact apX b c k hx hy hne hb hc hk hk'
      · rw [(hX c hy).1] at hc; rw [(hX c hy).2] at hk'
        rcases (ownX b k hx hb hk).1 with h1 | ⟨b0, h3, h4, h5⟩
        · have := (H.own c k hc hk').1; omega
        · exact H.apart b0 c k (fun e => hy (e ▸ h3)) h4 hc h5 hk'
    · rw [(hX b hx).1] at hb; rw [(hX b hx).2] at hk
      rcases Classical.em (X c) with hy | hy
      · rcases (ownX c k hy hc hk').1 with h1 | ⟨b0, h3, h4, h5⟩
        · have := (H.own b k hb hk).1; omega
        · exact H.apart b0 b k (fun e => hx (e ▸ h3)) h4 hb h5 hk
      · rw [(hX c hy).1] at hc; rw [(hX c hy).2] at hk'
        exact H.apart b c k hne hb hc hk hk'
  · rcases hS' k hk with h1 | h1 | ⟨b0, h3, h4, h5⟩
    · exact Nat.lt_of_lt_of_le (H.sS k h1) g.size
    · exact h1.2
    · exact Nat.lt_of_lt_of_le (H.own b0 k h4 h5).1 g.size
  · rcases hS' k hk with h1 | h1 | ⟨b0, h3, h4, h5⟩
    · exact H.sub k h1
    · exact .inr fun hz => by have := H.zB k hz; have := H.big; omega
    · exact .inr (H.own b0 k h4 h5).2.2
  · have hlt := H.zB k hk
    rw [same k (Nat.lt_of_lt_of_le hlt H.big) (fun e => by
      obtain ⟨b0, _, h2, h3⟩ := hr k e.symm
      exact (H.own b0 k h2 h3).2.2 hk)]
    exact H.prot k hk
end

end Go.Ev
