/-
  No cell of these rows narrows 'for every input' (looked for: loops, veiled, ifaces, maps, wideKeys, modest, calm, conditions, laid).
  DERIVED. THE GIVEN ROWS OF THIS SEAT. 6 by the template 'for every input the law returns true; each argument reads behind the call as it read before'; 0 by the template 'total and deterministic' (their statements: YtnjhonpgmljigaaGreatTotals.lean).
  GIVEN WITH THE SEED: the statements are not yours to turn. If you find one false, say at which input.
  Laid BY PROGRAM, IN A SANDBOX (cutbox-rows.mjs): the forced cells as the released guide's own fill.sh prints them over the translation c68a1d4e86ee375f… (all of the seat's roots in one cut). By AI agents, Wed Nov 11 2026. No macro, syntax, notation, axiom, sorry.
-/
import Derived.Test.YtnjhonpgmljigaaGreatChecked
import GoSem.Claim
import GoSem.ClaimJoined
import GoSem.ClaimMapViews
import Derived.JoinedTies
import Derived.KernelRfl
namespace Go.Proofs.YtnjhonpgmljigaaGreat
/- THE CELL 'sum', in the pinned program and in every row, IS THE sha256 OF THE DUMP (.gsa) THAT YtnjhonpgmljigaaGreatProg.lean LOADS. Nothing in Lean hashes anything: it is a label: what it is worth is what the hold of that sum in a sandbox is worth. -/
noncomputable def Tryz.pinned : Pinned := { name := "ytnjhonpgmljigaagreat", sum := "c68a1d4e86ee375fbc84bb2f8b5d4c4463889ec54bce88de36cd68cbb53893b1", checked := Tryz.checked }
namespace Rows
def none {H : Type} : Left H := { results := [], args := [] }

/-- 'hodmantop.TopFigures': WHATEVER THE INPUT: true; the input reads as it did. -/
def topFiguresSpec : ChangeSpec := { name := "topFigures", fn := fun _ => fun
  | [d1, d2] => { results := [.lit (.bool true)], args := [d1, d2] }
  | _ => none }
def topFiguresRow : OpenClaim := { program := "ytnjhonpgmljigaagreat", sum := "c68a1d4e86ee375fbc84bb2f8b5d4c4463889ec54bce88de36cd68cbb53893b1", func := "hodman/hodmantop.TopFigures", spec := "topFigures", inPlace := ["slices.overlaps[hodman/api.Mark]"], unfollowed := true, recurses := true, plainKeys := false, apart := false }
def TopFiguresSaid : Prop := topFiguresRow.holds Tryz.pinned (OpenSpec.ofChange topFiguresSpec)

/-- ITS FALSE NEIGHBOUR: 'it returns false'. Refute it at one input. -/
def topFiguresWrong : ChangeSpec := { name := "topFigures", fn := fun _ => fun
  | [d1, d2] => { results := [.lit (.bool false)], args := [d1, d2] }
  | _ => none }
def TopFiguresWrongFalsely : Prop := topFiguresRow.holds Tryz.pinned (OpenSpec.ofChange topFiguresWrong)

/-- 'hodmantop.TopTightOn': WHATEVER THE INPUT: true; the input reads as it did. -/
def topTightOnSpec : ChangeSpec := { name := "topTightOn", fn := fun _ => fun
  | [d1, d2] => { results := [.lit (.bool true)], args := [d1, d2] }
  | _ => none }
def topTightOnRow : OpenClaim := { program := "ytnjhonpgmljigaagreat", sum := "c68a1d4e86ee375fbc84bb2f8b5d4c4463889ec54bce88de36cd68cbb53893b1", func := "hodman/hodmantop.TopTightOn", spec := "topTightOn", inPlace := ["slices.overlaps[hodman/api.Mark]"], unfollowed := true, recurses := true, plainKeys := false, apart := false }
def TopTightOnSaid : Prop := topTightOnRow.holds Tryz.pinned (OpenSpec.ofChange topTightOnSpec)

/-- ITS FALSE NEIGHBOUR: 'it returns false'. Refute it at one input. -/
def topTightOnWrong : ChangeSpec := { name := "topTightOn", fn := fun _ => fun
  | [d1, d2] => { results := [.lit (.bool false)], args := [d1, d2] }
  | _ => none }
def TopTightOnWrongFalsely : Prop := topTightOnRow.holds Tryz.pinned (OpenSpec.ofChange topTightOnWrong)

/-- 'hodmantop.TopGame': WHATEVER THE INPUT: true; the input reads as it did. -/
def topGameSpec : ChangeSpec := { name := "topGame", fn := fun _ => fun
  | [d] => { results := [.lit (.bool true)], args := [d] }
  | _ => none }
def topGameRow : OpenClaim := { program := "ytnjhonpgmljigaagreat", sum := "c68a1d4e86ee375fbc84bb2f8b5d4c4463889ec54bce88de36cd68cbb53893b1", func := "hodman/hodmantop.TopGame", spec := "topGame", inPlace := ["slices.overlaps[hodman/api.Mark]", "slices.overlaps[hodman/api.Span]"], unfollowed := true, recurses := true, plainKeys := false, apart := false }
def TopGameSaid : Prop := topGameRow.holds Tryz.pinned (OpenSpec.ofChange topGameSpec)

/-- ITS FALSE NEIGHBOUR: 'it returns false'. Refute it at one input. -/
def topGameWrong : ChangeSpec := { name := "topGame", fn := fun _ => fun
  | [d] => { results := [.lit (.bool false)], args := [d] }
  | _ => none }
def TopGameWrongFalsely : Prop := topGameRow.holds Tryz.pinned (OpenSpec.ofChange topGameWrong)

/-- 'hodmantop.TopSame': WHATEVER THE INPUT: true; the input reads as it did. -/
def topSameSpec : ChangeSpec := { name := "topSame", fn := fun _ => fun
  | [d1, d2, d3] => { results := [.lit (.bool true)], args := [d1, d2, d3] }
  | _ => none }
def topSameRow : OpenClaim := { program := "ytnjhonpgmljigaagreat", sum := "c68a1d4e86ee375fbc84bb2f8b5d4c4463889ec54bce88de36cd68cbb53893b1", func := "hodman/hodmantop.TopSame", spec := "topSame", inPlace := ["slices.overlaps[hodman/api.Mark]"], unfollowed := true, recurses := true, plainKeys := false, apart := false }
def TopSameSaid : Prop := topSameRow.holds Tryz.pinned (OpenSpec.ofChange topSameSpec)

/-- ITS FALSE NEIGHBOUR: 'it returns false'. Refute it at one input. -/
def topSameWrong : ChangeSpec := { name := "topSame", fn := fun _ => fun
  | [d1, d2, d3] => { results := [.lit (.bool false)], args := [d1, d2, d3] }
  | _ => none }
def TopSameWrongFalsely : Prop := topSameRow.holds Tryz.pinned (OpenSpec.ofChange topSameWrong)

/-- 'hodmantop.TopPlain': WHATEVER THE INPUT: true; the input reads as it did. -/
def topPlainSpec : ChangeSpec := { name := "topPlain", fn := fun _ => fun
  | [d1, d2, d3] => { results := [.lit (.bool true)], args := [d1, d2, d3] }
  | _ => none }
def topPlainRow : OpenClaim := { program := "ytnjhonpgmljigaagreat", sum := "c68a1d4e86ee375fbc84bb2f8b5d4c4463889ec54bce88de36cd68cbb53893b1", func := "hodman/hodmantop.TopPlain", spec := "topPlain", inPlace := ["slices.overlaps[hodman/api.Mark]", "slices.overlaps[hodman/api.Block]"], unfollowed := true, recurses := true, plainKeys := false, apart := false }
def TopPlainSaid : Prop := topPlainRow.holds Tryz.pinned (OpenSpec.ofChange topPlainSpec)

/-- ITS FALSE NEIGHBOUR: 'it returns false'. Refute it at one input. -/
def topPlainWrong : ChangeSpec := { name := "topPlain", fn := fun _ => fun
  | [d1, d2, d3] => { results := [.lit (.bool false)], args := [d1, d2, d3] }
  | _ => none }
def TopPlainWrongFalsely : Prop := topPlainRow.holds Tryz.pinned (OpenSpec.ofChange topPlainWrong)

/-- 'hodmantop.TopWhole': WHATEVER THE INPUT: true; the input reads as it did. -/
def topWholeSpec : ChangeSpec := { name := "topWhole", fn := fun _ => fun
  | [d1, d2] => { results := [.lit (.bool true)], args := [d1, d2] }
  | _ => none }
def topWholeRow : OpenClaim := { program := "ytnjhonpgmljigaagreat", sum := "c68a1d4e86ee375fbc84bb2f8b5d4c4463889ec54bce88de36cd68cbb53893b1", func := "hodman/hodmantop.TopWhole", spec := "topWhole", inPlace := ["slices.overlaps[hodman/api.Mark]", "slices.overlaps[hodman/api.Block]"], unfollowed := true, recurses := true, plainKeys := false, apart := false }
def TopWholeSaid : Prop := topWholeRow.holds Tryz.pinned (OpenSpec.ofChange topWholeSpec)

/-- ITS FALSE NEIGHBOUR: 'it returns false'. Refute it at one input. -/
def topWholeWrong : ChangeSpec := { name := "topWhole", fn := fun _ => fun
  | [d1, d2] => { results := [.lit (.bool false)], args := [d1, d2] }
  | _ => none }
def TopWholeWrongFalsely : Prop := topWholeRow.holds Tryz.pinned (OpenSpec.ofChange topWholeWrong)

/- THE SECOND FORM. 'bulk': how many values and letters a reading holds, each counted each time it is reached (what is shared counts as often as it is met; a slice's spare places count too). A statement '..UptoSaid' is the law's where the arguments, and the package variables that the reading takes, are together of bulk at most 1048576: NARROWER than '..Said'. Prove '..Said' where nothing that the law and all that it calls make is longer than what came in: it says more and counts as full. Else prove '..UptoSaid'. A law counts once. -/
mutual
def uptoBulk {H : Type} : DataW H → Nat
  | .lit (.string bytes) => bytes.length + 1
  | .lit _ => 1
  | .nil => 1
  | .ptr d => uptoBulk d + 1
  | .slice elems spare => uptoBulkAll elems + uptoBulkAll spare + 1
  | .agg parts => uptoBulkAll parts + 1
  | .iface _ d => uptoBulk d + 1
  | .map entries => uptoBulkEntries entries + 1
  | .held _ => 1
def uptoBulkAll {H : Type} : List (DataW H) → Nat
  | [] => 0
  | d :: r => uptoBulk d + uptoBulkAll r
def uptoBulkEntries {H : Type} : List (Lit × DataW H) → Nat
  | [] => 0
  | x :: r => uptoBulkEntry x + uptoBulkEntries r
def uptoBulkEntry {H : Type} : Lit × DataW H → Nat
  | (.string bytes, d) => bytes.length + uptoBulk d + 1
  | (_, d) => uptoBulk d + 1
 end
def uptoSmall : (H : Type) → List (DataW H) → Bool := fun _ ds => decide (uptoBulkAll ds ≤ 1048576)
def OpenSpec.upto (s : _root_.Go.ChangeSpec) : _root_.Go.OpenSpec := { _root_.Go.OpenSpec.ofChange s with cond := some uptoSmall }

/-- 'hodmantop.TopFigures', WHERE WHAT IT READS IS OF BULK AT MOST 1048576: true; the input reads as it did. -/
def topFiguresUptoRow : OpenClaim := { program := "ytnjhonpgmljigaagreat", sum := "c68a1d4e86ee375fbc84bb2f8b5d4c4463889ec54bce88de36cd68cbb53893b1", func := "hodman/hodmantop.TopFigures", spec := "topFigures", inPlace := ["slices.overlaps[hodman/api.Mark]"], unfollowed := true, recurses := true, plainKeys := false, apart := false, narrowed := true }
def TopFiguresUptoSaid : Prop := topFiguresUptoRow.holds Tryz.pinned (OpenSpec.upto topFiguresSpec)

/-- 'hodmantop.TopTightOn', WHERE WHAT IT READS IS OF BULK AT MOST 1048576: true; the input reads as it did. -/
def topTightOnUptoRow : OpenClaim := { program := "ytnjhonpgmljigaagreat", sum := "c68a1d4e86ee375fbc84bb2f8b5d4c4463889ec54bce88de36cd68cbb53893b1", func := "hodman/hodmantop.TopTightOn", spec := "topTightOn", inPlace := ["slices.overlaps[hodman/api.Mark]"], unfollowed := true, recurses := true, plainKeys := false, apart := false, narrowed := true }
def TopTightOnUptoSaid : Prop := topTightOnUptoRow.holds Tryz.pinned (OpenSpec.upto topTightOnSpec)

/-- 'hodmantop.TopGame', WHERE WHAT IT READS IS OF BULK AT MOST 1048576: true; the input reads as it did. -/
def topGameUptoRow : OpenClaim := { program := "ytnjhonpgmljigaagreat", sum := "c68a1d4e86ee375fbc84bb2f8b5d4c4463889ec54bce88de36cd68cbb53893b1", func := "hodman/hodmantop.TopGame", spec := "topGame", inPlace := ["slices.overlaps[hodman/api.Mark]", "slices.overlaps[hodman/api.Span]"], unfollowed := true, recurses := true, plainKeys := false, apart := false, narrowed := true }
def TopGameUptoSaid : Prop := topGameUptoRow.holds Tryz.pinned (OpenSpec.upto topGameSpec)

/-- 'hodmantop.TopSame', WHERE WHAT IT READS IS OF BULK AT MOST 1048576: true; the input reads as it did. -/
def topSameUptoRow : OpenClaim := { program := "ytnjhonpgmljigaagreat", sum := "c68a1d4e86ee375fbc84bb2f8b5d4c4463889ec54bce88de36cd68cbb53893b1", func := "hodman/hodmantop.TopSame", spec := "topSame", inPlace := ["slices.overlaps[hodman/api.Mark]"], unfollowed := true, recurses := true, plainKeys := false, apart := false, narrowed := true }
def TopSameUptoSaid : Prop := topSameUptoRow.holds Tryz.pinned (OpenSpec.upto topSameSpec)

/-- 'hodmantop.TopPlain', WHERE WHAT IT READS IS OF BULK AT MOST 1048576: true; the input reads as it did. -/
def topPlainUptoRow : OpenClaim := { program := "ytnjhonpgmljigaagreat", sum := "c68a1d4e86ee375fbc84bb2f8b5d4c4463889ec54bce88de36cd68cbb53893b1", func := "hodman/hodmantop.TopPlain", spec := "topPlain", inPlace := ["slices.overlaps[hodman/api.Mark]", "slices.overlaps[hodman/api.Block]"], unfollowed := true, recurses := true, plainKeys := false, apart := false, narrowed := true }
def TopPlainUptoSaid : Prop := topPlainUptoRow.holds Tryz.pinned (OpenSpec.upto topPlainSpec)

/-- 'hodmantop.TopWhole', WHERE WHAT IT READS IS OF BULK AT MOST 1048576: true; the input reads as it did. -/
def topWholeUptoRow : OpenClaim := { program := "ytnjhonpgmljigaagreat", sum := "c68a1d4e86ee375fbc84bb2f8b5d4c4463889ec54bce88de36cd68cbb53893b1", func := "hodman/hodmantop.TopWhole", spec := "topWhole", inPlace := ["slices.overlaps[hodman/api.Mark]", "slices.overlaps[hodman/api.Block]"], unfollowed := true, recurses := true, plainKeys := false, apart := false, narrowed := true }
def TopWholeUptoSaid : Prop := topWholeUptoRow.holds Tryz.pinned (OpenSpec.upto topWholeSpec)

end Rows
end Go.Proofs.YtnjhonpgmljigaaGreat
