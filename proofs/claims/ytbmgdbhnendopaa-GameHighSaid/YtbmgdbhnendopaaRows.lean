/-
  No cell of these rows narrows 'for every input' (looked for: loops, veiled, ifaces, maps, wideKeys, modest, calm, conditions, laid).
  DERIVED. THE GIVEN ROWS OF THIS SEAT. 10 by the template 'for every input the law returns true; each argument reads behind the call as it read before'; 0 by the template 'total and deterministic' (their statements: YtbmgdbhnendopaaTotals.lean).
  GIVEN WITH THE SEED: the statements are not yours to turn. If you find one false, say at which input.
  Laid BY PROGRAM, IN A SANDBOX (cutbox-rows.mjs): the forced cells as the released guide's own fill.sh prints them over the translation 3a820f1eaad3d69f… (all of the seat's roots in one cut). By AI agents, Wed Nov 11 2026. No macro, syntax, notation, axiom, sorry.
-/
import Derived.Test.YtbmgdbhnendopaaChecked
import GoSem.Claim
import GoSem.ClaimJoined
import GoSem.ClaimMapViews
import Derived.JoinedTies
import Derived.KernelRfl
namespace Go.Proofs.Ytbmgdbhnendopaa
/- THE CELL 'sum', in the pinned program and in every row, IS THE sha256 OF THE DUMP (.gsa) THAT YtbmgdbhnendopaaProg.lean LOADS. Nothing in Lean hashes anything: it is a label: what it is worth is what the hold of that sum in a sandbox is worth. -/
noncomputable def Try.pinned : Pinned := { name := "ytbmgdbhnendopaa", sum := "3a820f1eaad3d69f786b6da96770c3838814a83f83e3424c996b5e21b8a2e235", checked := Try.checked }
namespace Rows
def none {H : Type} : Left H := { results := [], args := [] }

/-- 'hodmanlaw8.SpanAll': WHATEVER THE INPUT: true; the input reads as it did. -/
def spanAllSpec : ChangeSpec := { name := "spanAll", fn := fun _ => fun
  | [d1, d2, d3, d4, d5] => { results := [.lit (.bool true)], args := [d1, d2, d3, d4, d5] }
  | _ => none }
def spanAllRow : OpenClaim := { program := "ytbmgdbhnendopaa", sum := "3a820f1eaad3d69f786b6da96770c3838814a83f83e3424c996b5e21b8a2e235", func := "hodman/hodmanlaw8.SpanAll", spec := "spanAll", inPlace := ["slices.overlaps[hodman/api.Span]"], plainKeys := false, apart := false }
def SpanAllSaid : Prop := spanAllRow.holds Try.pinned (OpenSpec.ofChange spanAllSpec)

/-- ITS FALSE NEIGHBOUR: 'it returns false'. Refute it at one input. -/
def spanAllWrong : ChangeSpec := { name := "spanAll", fn := fun _ => fun
  | [d1, d2, d3, d4, d5] => { results := [.lit (.bool false)], args := [d1, d2, d3, d4, d5] }
  | _ => none }
def SpanAllWrongFalsely : Prop := spanAllRow.holds Try.pinned (OpenSpec.ofChange spanAllWrong)

/-- 'hodmanlaw8.SpanApart': WHATEVER THE INPUT: true; the input reads as it did. -/
def spanApartSpec : ChangeSpec := { name := "spanApart", fn := fun _ => fun
  | [d] => { results := [.lit (.bool true)], args := [d] }
  | _ => none }
def spanApartRow : OpenClaim := { program := "ytbmgdbhnendopaa", sum := "3a820f1eaad3d69f786b6da96770c3838814a83f83e3424c996b5e21b8a2e235", func := "hodman/hodmanlaw8.SpanApart", spec := "spanApart", inPlace := ["slices.overlaps[hodman/api.Span]"], plainKeys := false, apart := false }
def SpanApartSaid : Prop := spanApartRow.holds Try.pinned (OpenSpec.ofChange spanApartSpec)

/-- ITS FALSE NEIGHBOUR: 'it returns false'. Refute it at one input. -/
def spanApartWrong : ChangeSpec := { name := "spanApart", fn := fun _ => fun
  | [d] => { results := [.lit (.bool false)], args := [d] }
  | _ => none }
def SpanApartWrongFalsely : Prop := spanApartRow.holds Try.pinned (OpenSpec.ofChange spanApartWrong)

/-- 'hodmanlaw8.SpanCut': WHATEVER THE INPUT: true; the input reads as it did. -/
def spanCutSpec : ChangeSpec := { name := "spanCut", fn := fun _ => fun
  | [d1, d2] => { results := [.lit (.bool true)], args := [d1, d2] }
  | _ => none }
def spanCutRow : OpenClaim := { program := "ytbmgdbhnendopaa", sum := "3a820f1eaad3d69f786b6da96770c3838814a83f83e3424c996b5e21b8a2e235", func := "hodman/hodmanlaw8.SpanCut", spec := "spanCut", inPlace := ["slices.overlaps[hodman/api.Span]"], plainKeys := false, apart := false }
def SpanCutSaid : Prop := spanCutRow.holds Try.pinned (OpenSpec.ofChange spanCutSpec)

/-- ITS FALSE NEIGHBOUR: 'it returns false'. Refute it at one input. -/
def spanCutWrong : ChangeSpec := { name := "spanCut", fn := fun _ => fun
  | [d1, d2] => { results := [.lit (.bool false)], args := [d1, d2] }
  | _ => none }
def SpanCutWrongFalsely : Prop := spanCutRow.holds Try.pinned (OpenSpec.ofChange spanCutWrong)

/-- 'hodmanlaw8.SpanForms': WHATEVER THE INPUT: true; the input reads as it did. -/
def spanFormsSpec : ChangeSpec := { name := "spanForms", fn := fun _ => fun
  | [] => { results := [.lit (.bool true)], args := [] }
  | _ => none }
def spanFormsRow : OpenClaim := { program := "ytbmgdbhnendopaa", sum := "3a820f1eaad3d69f786b6da96770c3838814a83f83e3424c996b5e21b8a2e235", func := "hodman/hodmanlaw8.SpanForms", spec := "spanForms", inPlace := ["slices.overlaps[hodman/api.Span]"], plainKeys := false, apart := false }
def SpanFormsSaid : Prop := spanFormsRow.holds Try.pinned (OpenSpec.ofChange spanFormsSpec)

/-- ITS FALSE NEIGHBOUR: 'it returns false'. Refute it at one input. -/
def spanFormsWrong : ChangeSpec := { name := "spanForms", fn := fun _ => fun
  | [] => { results := [.lit (.bool false)], args := [] }
  | _ => none }
def SpanFormsWrongFalsely : Prop := spanFormsRow.holds Try.pinned (OpenSpec.ofChange spanFormsWrong)

/-- 'hodmanlaw22.GameAll': WHATEVER THE INPUT: true; the input reads as it did. -/
def gameAllSpec : ChangeSpec := { name := "gameAll", fn := fun _ => fun
  | [d1, d2, d3] => { results := [.lit (.bool true)], args := [d1, d2, d3] }
  | _ => none }
def gameAllRow : OpenClaim := { program := "ytbmgdbhnendopaa", sum := "3a820f1eaad3d69f786b6da96770c3838814a83f83e3424c996b5e21b8a2e235", func := "hodman/hodmanlaw22.GameAll", spec := "gameAll", inPlace := ["slices.overlaps[hodman/api.Span]"], unfollowed := true, recurses := true, plainKeys := false, apart := false }
def GameAllSaid : Prop := gameAllRow.holds Try.pinned (OpenSpec.ofChange gameAllSpec)

/-- ITS FALSE NEIGHBOUR: 'it returns false'. Refute it at one input. -/
def gameAllWrong : ChangeSpec := { name := "gameAll", fn := fun _ => fun
  | [d1, d2, d3] => { results := [.lit (.bool false)], args := [d1, d2, d3] }
  | _ => none }
def GameAllWrongFalsely : Prop := gameAllRow.holds Try.pinned (OpenSpec.ofChange gameAllWrong)

/-- 'hodmanlaw22.GameFair': WHATEVER THE INPUT: true; the input reads as it did. -/
def gameFairSpec : ChangeSpec := { name := "gameFair", fn := fun _ => fun
  | [d1, d2] => { results := [.lit (.bool true)], args := [d1, d2] }
  | _ => none }
def gameFairRow : OpenClaim := { program := "ytbmgdbhnendopaa", sum := "3a820f1eaad3d69f786b6da96770c3838814a83f83e3424c996b5e21b8a2e235", func := "hodman/hodmanlaw22.GameFair", spec := "gameFair", inPlace := ["slices.overlaps[hodman/api.Span]"], unfollowed := true, recurses := true, plainKeys := false, apart := false }
def GameFairSaid : Prop := gameFairRow.holds Try.pinned (OpenSpec.ofChange gameFairSpec)

/-- ITS FALSE NEIGHBOUR: 'it returns false'. Refute it at one input. -/
def gameFairWrong : ChangeSpec := { name := "gameFair", fn := fun _ => fun
  | [d1, d2] => { results := [.lit (.bool false)], args := [d1, d2] }
  | _ => none }
def GameFairWrongFalsely : Prop := gameFairRow.holds Try.pinned (OpenSpec.ofChange gameFairWrong)

/-- 'hodmanlaw22.GameHigh': WHATEVER THE INPUT: true; the input reads as it did. -/
def gameHighSpec : ChangeSpec := { name := "gameHigh", fn := fun _ => fun
  | [d1, d2, d3] => { results := [.lit (.bool true)], args := [d1, d2, d3] }
  | _ => none }
def gameHighRow : OpenClaim := { program := "ytbmgdbhnendopaa", sum := "3a820f1eaad3d69f786b6da96770c3838814a83f83e3424c996b5e21b8a2e235", func := "hodman/hodmanlaw22.GameHigh", spec := "gameHigh", inPlace := ["slices.overlaps[hodman/api.Span]"], unfollowed := true, recurses := true, plainKeys := false, apart := false }
def GameHighSaid : Prop := gameHighRow.holds Try.pinned (OpenSpec.ofChange gameHighSpec)

/-- ITS FALSE NEIGHBOUR: 'it returns false'. Refute it at one input. -/
def gameHighWrong : ChangeSpec := { name := "gameHigh", fn := fun _ => fun
  | [d1, d2, d3] => { results := [.lit (.bool false)], args := [d1, d2, d3] }
  | _ => none }
def GameHighWrongFalsely : Prop := gameHighRow.holds Try.pinned (OpenSpec.ofChange gameHighWrong)

/-- 'hodmanlaw22.GameForms': WHATEVER THE INPUT: true; the input reads as it did. -/
def gameFormsSpec : ChangeSpec := { name := "gameForms", fn := fun _ => fun
  | [] => { results := [.lit (.bool true)], args := [] }
  | _ => none }
def gameFormsRow : OpenClaim := { program := "ytbmgdbhnendopaa", sum := "3a820f1eaad3d69f786b6da96770c3838814a83f83e3424c996b5e21b8a2e235", func := "hodman/hodmanlaw22.GameForms", spec := "gameForms", inPlace := ["slices.overlaps[hodman/api.Span]"], unfollowed := true, recurses := true, plainKeys := false, apart := false }
def GameFormsSaid : Prop := gameFormsRow.holds Try.pinned (OpenSpec.ofChange gameFormsSpec)

/-- ITS FALSE NEIGHBOUR: 'it returns false'. Refute it at one input. -/
def gameFormsWrong : ChangeSpec := { name := "gameForms", fn := fun _ => fun
  | [] => { results := [.lit (.bool false)], args := [] }
  | _ => none }
def GameFormsWrongFalsely : Prop := gameFormsRow.holds Try.pinned (OpenSpec.ofChange gameFormsWrong)

/-- 'hodmanlaw22.GamePlays': WHATEVER THE INPUT: true; the input reads as it did. -/
def gamePlaysSpec : ChangeSpec := { name := "gamePlays", fn := fun _ => fun
  | [d1, d2, d3] => { results := [.lit (.bool true)], args := [d1, d2, d3] }
  | _ => none }
def gamePlaysRow : OpenClaim := { program := "ytbmgdbhnendopaa", sum := "3a820f1eaad3d69f786b6da96770c3838814a83f83e3424c996b5e21b8a2e235", func := "hodman/hodmanlaw22.GamePlays", spec := "gamePlays", inPlace := ["slices.overlaps[hodman/api.Span]"], unfollowed := true, recurses := true, plainKeys := false, apart := false }
def GamePlaysSaid : Prop := gamePlaysRow.holds Try.pinned (OpenSpec.ofChange gamePlaysSpec)

/-- ITS FALSE NEIGHBOUR: 'it returns false'. Refute it at one input. -/
def gamePlaysWrong : ChangeSpec := { name := "gamePlays", fn := fun _ => fun
  | [d1, d2, d3] => { results := [.lit (.bool false)], args := [d1, d2, d3] }
  | _ => none }
def GamePlaysWrongFalsely : Prop := gamePlaysRow.holds Try.pinned (OpenSpec.ofChange gamePlaysWrong)

/-- 'hodmanlaw22.GameMoved': WHATEVER THE INPUT: true; the input reads as it did. -/
def gameMovedSpec : ChangeSpec := { name := "gameMoved", fn := fun _ => fun
  | [d1, d2, d3] => { results := [.lit (.bool true)], args := [d1, d2, d3] }
  | _ => none }
def gameMovedRow : OpenClaim := { program := "ytbmgdbhnendopaa", sum := "3a820f1eaad3d69f786b6da96770c3838814a83f83e3424c996b5e21b8a2e235", func := "hodman/hodmanlaw22.GameMoved", spec := "gameMoved", inPlace := ["slices.overlaps[hodman/api.Span]"], unfollowed := true, recurses := true, plainKeys := false, apart := false }
def GameMovedSaid : Prop := gameMovedRow.holds Try.pinned (OpenSpec.ofChange gameMovedSpec)

/-- ITS FALSE NEIGHBOUR: 'it returns false'. Refute it at one input. -/
def gameMovedWrong : ChangeSpec := { name := "gameMoved", fn := fun _ => fun
  | [d1, d2, d3] => { results := [.lit (.bool false)], args := [d1, d2, d3] }
  | _ => none }
def GameMovedWrongFalsely : Prop := gameMovedRow.holds Try.pinned (OpenSpec.ofChange gameMovedWrong)

/- THE SECOND FORM. 'bulk': how many values and letters a reading holds, each counted each time it is reached (what is shared counts as often as it is met; a slice's spare places count too). A statement '..UptoSaid' is the law's where the arguments, and the package variables that the reading takes, are together of bulk at most 1048576: NARROWER than '..Said'. Prove '..Said' where nothing that the law and all that it calls make is longer than what came in: it says more and counts as full. Else prove '..UptoSaid'. A law counts once. -/
mutual
def uptoBulk {H : Type} : DataW H → Nat
  | .lit (.string bytes) => bytes.length + 1
  | .lit _ => 1
  | .nil => 1
  | .ptr d => uptoBulk d + 1
  | .slice elems spare => uptoBulkAll elems + uptoBulkAll spare + 1
  | .agg parts => uptoBulkAll parts + 1
  | .iface _ d => uptoBulk d + 1
  | .map entries => uptoBulkEntries entries + 1
  | .held _ => 1
def uptoBulkAll {H : Type} : List (DataW H) → Nat
  | [] => 0
  | d :: r => uptoBulk d + uptoBulkAll r
def uptoBulkEntries {H : Type} : List (Lit × DataW H) → Nat
  | [] => 0
  | x :: r => uptoBulkEntry x + uptoBulkEntries r
def uptoBulkEntry {H : Type} : Lit × DataW H → Nat
  | (.string bytes, d) => bytes.length + uptoBulk d + 1
  | (_, d) => uptoBulk d + 1
 end
def uptoSmall : (H : Type) → List (DataW H) → Bool := fun _ ds => decide (uptoBulkAll ds ≤ 1048576)
def OpenSpec.upto (s : _root_.Go.ChangeSpec) : _root_.Go.OpenSpec := { _root_.Go.OpenSpec.ofChange s with cond := some uptoSmall }

/-- 'hodmanlaw8.SpanAll', WHERE WHAT IT READS IS OF BULK AT MOST 1048576: true; the input reads as it did. -/
def spanAllUptoRow : OpenClaim := { program := "ytbmgdbhnendopaa", sum := "3a820f1eaad3d69f786b6da96770c3838814a83f83e3424c996b5e21b8a2e235", func := "hodman/hodmanlaw8.SpanAll", spec := "spanAll", inPlace := ["slices.overlaps[hodman/api.Span]"], plainKeys := false, apart := false, narrowed := true }
def SpanAllUptoSaid : Prop := spanAllUptoRow.holds Try.pinned (OpenSpec.upto spanAllSpec)

/-- 'hodmanlaw8.SpanApart', WHERE WHAT IT READS IS OF BULK AT MOST 1048576: true; the input reads as it did. -/
def spanApartUptoRow : OpenClaim := { program := "ytbmgdbhnendopaa", sum := "3a820f1eaad3d69f786b6da96770c3838814a83f83e3424c996b5e21b8a2e235", func := "hodman/hodmanlaw8.SpanApart", spec := "spanApart", inPlace := ["slices.overlaps[hodman/api.Span]"], plainKeys := false, apart := false, narrowed := true }
def SpanApartUptoSaid : Prop := spanApartUptoRow.holds Try.pinned (OpenSpec.upto spanApartSpec)

/-- 'hodmanlaw8.SpanCut', WHERE WHAT IT READS IS OF BULK AT MOST 1048576: true; the input reads as it did. -/
def spanCutUptoRow : OpenClaim := { program := "ytbmgdbhnendopaa", sum := "3a820f1eaad3d69f786b6da96770c3838814a83f83e3424c996b5e21b8a2e235", func := "hodman/hodmanlaw8.SpanCut", spec := "spanCut", inPlace := ["slices.overlaps[hodman/api.Span]"], plainKeys := false, apart := false, narrowed := true }
def SpanCutUptoSaid : Prop := spanCutUptoRow.holds Try.pinned (OpenSpec.upto spanCutSpec)

/-- 'hodmanlaw8.SpanForms', WHERE WHAT IT READS IS OF BULK AT MOST 1048576: true; the input reads as it did. -/
def spanFormsUptoRow : OpenClaim := { program := "ytbmgdbhnendopaa", sum := "3a820f1eaad3d69f786b6da96770c3838814a83f83e3424c996b5e21b8a2e235", func := "hodman/hodmanlaw8.SpanForms", spec := "spanForms", inPlace := ["slices.overlaps[hodman/api.Span]"], plainKeys := false, apart := false, narrowed := true }
def SpanFormsUptoSaid : Prop := spanFormsUptoRow.holds Try.pinned (OpenSpec.upto spanFormsSpec)

/-- 'hodmanlaw22.GameAll', WHERE WHAT IT READS IS OF BULK AT MOST 1048576: true; the input reads as it did. -/
def gameAllUptoRow : OpenClaim := { program := "ytbmgdbhnendopaa", sum := "3a820f1eaad3d69f786b6da96770c3838814a83f83e3424c996b5e21b8a2e235", func := "hodman/hodmanlaw22.GameAll", spec := "gameAll", inPlace := ["slices.overlaps[hodman/api.Span]"], unfollowed := true, recurses := true, plainKeys := false, apart := false, narrowed := true }
def GameAllUptoSaid : Prop := gameAllUptoRow.holds Try.pinned (OpenSpec.upto gameAllSpec)

/-- 'hodmanlaw22.GameFair', WHERE WHAT IT READS IS OF BULK AT MOST 1048576: true; the input reads as it did. -/
def gameFairUptoRow : OpenClaim := { program := "ytbmgdbhnendopaa", sum := "3a820f1eaad3d69f786b6da96770c3838814a83f83e3424c996b5e21b8a2e235", func := "hodman/hodmanlaw22.GameFair", spec := "gameFair", inPlace := ["slices.overlaps[hodman/api.Span]"], unfollowed := true, recurses := true, plainKeys := false, apart := false, narrowed := true }
def GameFairUptoSaid : Prop := gameFairUptoRow.holds Try.pinned (OpenSpec.upto gameFairSpec)

/-- 'hodmanlaw22.GameHigh', WHERE WHAT IT READS IS OF BULK AT MOST 1048576: true; the input reads as it did. -/
def gameHighUptoRow : OpenClaim := { program := "ytbmgdbhnendopaa", sum := "3a820f1eaad3d69f786b6da96770c3838814a83f83e3424c996b5e21b8a2e235", func := "hodman/hodmanlaw22.GameHigh", spec := "gameHigh", inPlace := ["slices.overlaps[hodman/api.Span]"], unfollowed := true, recurses := true, plainKeys := false, apart := false, narrowed := true }
def GameHighUptoSaid : Prop := gameHighUptoRow.holds Try.pinned (OpenSpec.upto gameHighSpec)

/-- 'hodmanlaw22.GameForms', WHERE WHAT IT READS IS OF BULK AT MOST 1048576: true; the input reads as it did. -/
def gameFormsUptoRow : OpenClaim := { program := "ytbmgdbhnendopaa", sum := "3a820f1eaad3d69f786b6da96770c3838814a83f83e3424c996b5e21b8a2e235", func := "hodman/hodmanlaw22.GameForms", spec := "gameForms", inPlace := ["slices.overlaps[hodman/api.Span]"], unfollowed := true, recurses := true, plainKeys := false, apart := false, narrowed := true }
def GameFormsUptoSaid : Prop := gameFormsUptoRow.holds Try.pinned (OpenSpec.upto gameFormsSpec)

/-- 'hodmanlaw22.GamePlays', WHERE WHAT IT READS IS OF BULK AT MOST 1048576: true; the input reads as it did. -/
def gamePlaysUptoRow : OpenClaim := { program := "ytbmgdbhnendopaa", sum := "3a820f1eaad3d69f786b6da96770c3838814a83f83e3424c996b5e21b8a2e235", func := "hodman/hodmanlaw22.GamePlays", spec := "gamePlays", inPlace := ["slices.overlaps[hodman/api.Span]"], unfollowed := true, recurses := true, plainKeys := false, apart := false, narrowed := true }
def GamePlaysUptoSaid : Prop := gamePlaysUptoRow.holds Try.pinned (OpenSpec.upto gamePlaysSpec)

/-- 'hodmanlaw22.GameMoved', WHERE WHAT IT READS IS OF BULK AT MOST 1048576: true; the input reads as it did. -/
def gameMovedUptoRow : OpenClaim := { program := "ytbmgdbhnendopaa", sum := "3a820f1eaad3d69f786b6da96770c3838814a83f83e3424c996b5e21b8a2e235", func := "hodman/hodmanlaw22.GameMoved", spec := "gameMoved", inPlace := ["slices.overlaps[hodman/api.Span]"], unfollowed := true, recurses := true, plainKeys := false, apart := false, narrowed := true }
def GameMovedUptoSaid : Prop := gameMovedUptoRow.holds Try.pinned (OpenSpec.upto gameMovedSpec)

end Rows
end Go.Proofs.Ytbmgdbhnendopaa
