/-
  No cell of these rows narrows 'for every input' (looked for: loops, veiled, ifaces, maps, wideKeys, modest, calm, conditions, laid).
  DERIVED. THE GIVEN ROWS OF THIS SEAT. 5 by the template 'for every input the law returns true; each argument reads behind the call as it read before'; 0 by the template 'total and deterministic' (their statements: YtdnelcadmoeeiaaTotals.lean).
  GIVEN WITH THE SEED: the statements are not yours to turn. If you find one false, say at which input.
  Laid BY PROGRAM, IN A SANDBOX (cutbox-rows.mjs): the forced cells as the released guide's own fill.sh prints them over the translation 451579547b9e23ef… (all of the seat's roots in one cut). By AI agents, Wed Nov 11 2026. No macro, syntax, notation, axiom, sorry.
-/
import Derived.Test.YtdnelcadmoeeiaaChecked
import GoSem.Claim
import GoSem.ClaimJoined
import GoSem.ClaimMapViews
import Derived.JoinedTies
import Derived.KernelRfl
namespace Go.Proofs.Ytdnelcadmoeeiaa
/- THE CELL 'sum', in the pinned program and in every row, IS THE sha256 OF THE DUMP (.gsa) THAT YtdnelcadmoeeiaaProg.lean LOADS. Nothing in Lean hashes anything: it is a label: what it is worth is what the hold of that sum in a sandbox is worth. -/
noncomputable def Try.pinned : Pinned := { name := "ytdnelcadmoeeiaa", sum := "451579547b9e23ef7187d0457e3179690cb6c5a44f4762e483ff2a4c807f9364", checked := Try.checked }
namespace Rows
def none {H : Type} : Left H := { results := [], args := [] }

/-- 'hodmanlaw11.PlaceAll': WHATEVER THE INPUT: true; the input reads as it did. -/
def placeAllSpec : ChangeSpec := { name := "placeAll", fn := fun _ => fun
  | [d1, d2, d3, d4, d5] => { results := [.lit (.bool true)], args := [d1, d2, d3, d4, d5] }
  | _ => none }
def placeAllRow : OpenClaim := { program := "ytdnelcadmoeeiaa", sum := "451579547b9e23ef7187d0457e3179690cb6c5a44f4762e483ff2a4c807f9364", func := "hodman/hodmanlaw11.PlaceAll", spec := "placeAll", inPlace := ["slices.overlaps[hodman/api.Mark]"], unfollowed := true, recurses := true, plainKeys := false, apart := false }
def PlaceAllSaid : Prop := placeAllRow.holds Try.pinned (OpenSpec.ofChange placeAllSpec)

/-- ITS FALSE NEIGHBOUR: 'it returns false'. Refute it at one input. -/
def placeAllWrong : ChangeSpec := { name := "placeAll", fn := fun _ => fun
  | [d1, d2, d3, d4, d5] => { results := [.lit (.bool false)], args := [d1, d2, d3, d4, d5] }
  | _ => none }
def PlaceAllWrongFalsely : Prop := placeAllRow.holds Try.pinned (OpenSpec.ofChange placeAllWrong)

/-- 'hodmanlaw11.PlaceLowest': WHATEVER THE INPUT: true; the input reads as it did. -/
def placeLowestSpec : ChangeSpec := { name := "placeLowest", fn := fun _ => fun
  | [d] => { results := [.lit (.bool true)], args := [d] }
  | _ => none }
def placeLowestRow : OpenClaim := { program := "ytdnelcadmoeeiaa", sum := "451579547b9e23ef7187d0457e3179690cb6c5a44f4762e483ff2a4c807f9364", func := "hodman/hodmanlaw11.PlaceLowest", spec := "placeLowest", inPlace := ["slices.overlaps[hodman/api.Mark]"], unfollowed := true, recurses := true, plainKeys := false, apart := false }
def PlaceLowestSaid : Prop := placeLowestRow.holds Try.pinned (OpenSpec.ofChange placeLowestSpec)

/-- ITS FALSE NEIGHBOUR: 'it returns false'. Refute it at one input. -/
def placeLowestWrong : ChangeSpec := { name := "placeLowest", fn := fun _ => fun
  | [d] => { results := [.lit (.bool false)], args := [d] }
  | _ => none }
def PlaceLowestWrongFalsely : Prop := placeLowestRow.holds Try.pinned (OpenSpec.ofChange placeLowestWrong)

/-- 'hodmanlaw11.PlaceBack': WHATEVER THE INPUT: true; the input reads as it did. -/
def placeBackSpec : ChangeSpec := { name := "placeBack", fn := fun _ => fun
  | [d1, d2] => { results := [.lit (.bool true)], args := [d1, d2] }
  | _ => none }
def placeBackRow : OpenClaim := { program := "ytdnelcadmoeeiaa", sum := "451579547b9e23ef7187d0457e3179690cb6c5a44f4762e483ff2a4c807f9364", func := "hodman/hodmanlaw11.PlaceBack", spec := "placeBack", inPlace := ["slices.overlaps[hodman/api.Mark]"], unfollowed := true, recurses := true, plainKeys := false, apart := false }
def PlaceBackSaid : Prop := placeBackRow.holds Try.pinned (OpenSpec.ofChange placeBackSpec)

/-- ITS FALSE NEIGHBOUR: 'it returns false'. Refute it at one input. -/
def placeBackWrong : ChangeSpec := { name := "placeBack", fn := fun _ => fun
  | [d1, d2] => { results := [.lit (.bool false)], args := [d1, d2] }
  | _ => none }
def PlaceBackWrongFalsely : Prop := placeBackRow.holds Try.pinned (OpenSpec.ofChange placeBackWrong)

/-- 'hodmanlaw11.PlaceForms': WHATEVER THE INPUT: true; the input reads as it did. -/
def placeFormsSpec : ChangeSpec := { name := "placeForms", fn := fun _ => fun
  | [] => { results := [.lit (.bool true)], args := [] }
  | _ => none }
def placeFormsRow : OpenClaim := { program := "ytdnelcadmoeeiaa", sum := "451579547b9e23ef7187d0457e3179690cb6c5a44f4762e483ff2a4c807f9364", func := "hodman/hodmanlaw11.PlaceForms", spec := "placeForms", inPlace := ["slices.overlaps[hodman/api.Mark]"], unfollowed := true, recurses := true, plainKeys := false, apart := false }
def PlaceFormsSaid : Prop := placeFormsRow.holds Try.pinned (OpenSpec.ofChange placeFormsSpec)

/-- ITS FALSE NEIGHBOUR: 'it returns false'. Refute it at one input. -/
def placeFormsWrong : ChangeSpec := { name := "placeForms", fn := fun _ => fun
  | [] => { results := [.lit (.bool false)], args := [] }
  | _ => none }
def PlaceFormsWrongFalsely : Prop := placeFormsRow.holds Try.pinned (OpenSpec.ofChange placeFormsWrong)

/-- 'hodmanlaw18.HeapNew': WHATEVER THE INPUT: true; the input reads as it did. -/
def heapNewSpec : ChangeSpec := { name := "heapNew", fn := fun _ => fun
  | [d1, d2] => { results := [.lit (.bool true)], args := [d1, d2] }
  | _ => none }
def heapNewRow : OpenClaim := { program := "ytdnelcadmoeeiaa", sum := "451579547b9e23ef7187d0457e3179690cb6c5a44f4762e483ff2a4c807f9364", func := "hodman/hodmanlaw18.HeapNew", spec := "heapNew", inPlace := ["slices.overlaps[hodman/api.Mark]"], unfollowed := true, recurses := true, plainKeys := false, apart := false }
def HeapNewSaid : Prop := heapNewRow.holds Try.pinned (OpenSpec.ofChange heapNewSpec)

/-- ITS FALSE NEIGHBOUR: 'it returns false'. Refute it at one input. -/
def heapNewWrong : ChangeSpec := { name := "heapNew", fn := fun _ => fun
  | [d1, d2] => { results := [.lit (.bool false)], args := [d1, d2] }
  | _ => none }
def HeapNewWrongFalsely : Prop := heapNewRow.holds Try.pinned (OpenSpec.ofChange heapNewWrong)

/- THE SECOND FORM. 'bulk': how many values and letters a reading holds, each counted each time it is reached (what is shared counts as often as it is met; a slice's spare places count too). A statement '..UptoSaid' is the law's where the arguments, and the package variables that the reading takes, are together of bulk at most 1048576: NARROWER than '..Said'. Prove '..Said' where nothing that the law and all that it calls make is longer than what came in: it says more and counts as full. Else prove '..UptoSaid'. A law counts once. -/
mutual
def uptoBulk {H : Type} : DataW H → Nat
  | .lit (.string bytes) => bytes.length + 1
  | .lit _ => 1
  | .nil => 1
  | .ptr d => uptoBulk d + 1
  | .slice elems spare => uptoBulkAll elems + uptoBulkAll spare + 1
  | .agg parts => uptoBulkAll parts + 1
  | .iface _ d => uptoBulk d + 1
  | .map entries => uptoBulkEntries entries + 1
  | .held _ => 1
def uptoBulkAll {H : Type} : List (DataW H) → Nat
  | [] => 0
  | d :: r => uptoBulk d + uptoBulkAll r
def uptoBulkEntries {H : Type} : List (Lit × DataW H) → Nat
  | [] => 0
  | x :: r => uptoBulkEntry x + uptoBulkEntries r
def uptoBulkEntry {H : Type} : Lit × DataW H → Nat
  | (.string bytes, d) => bytes.length + uptoBulk d + 1
  | (_, d) => uptoBulk d + 1
 end
def uptoSmall : (H : Type) → List (DataW H) → Bool := fun _ ds => decide (uptoBulkAll ds ≤ 1048576)
def OpenSpec.upto (s : _root_.Go.ChangeSpec) : _root_.Go.OpenSpec := { _root_.Go.OpenSpec.ofChange s with cond := some uptoSmall }

/-- 'hodmanlaw11.PlaceAll', WHERE WHAT IT READS IS OF BULK AT MOST 1048576: true; the input reads as it did. -/
def placeAllUptoRow : OpenClaim := { program := "ytdnelcadmoeeiaa", sum := "451579547b9e23ef7187d0457e3179690cb6c5a44f4762e483ff2a4c807f9364", func := "hodman/hodmanlaw11.PlaceAll", spec := "placeAll", inPlace := ["slices.overlaps[hodman/api.Mark]"], unfollowed := true, recurses := true, plainKeys := false, apart := false, narrowed := true }
def PlaceAllUptoSaid : Prop := placeAllUptoRow.holds Try.pinned (OpenSpec.upto placeAllSpec)

/-- 'hodmanlaw11.PlaceLowest', WHERE WHAT IT READS IS OF BULK AT MOST 1048576: true; the input reads as it did. -/
def placeLowestUptoRow : OpenClaim := { program := "ytdnelcadmoeeiaa", sum := "451579547b9e23ef7187d0457e3179690cb6c5a44f4762e483ff2a4c807f9364", func := "hodman/hodmanlaw11.PlaceLowest", spec := "placeLowest", inPlace := ["slices.overlaps[hodman/api.Mark]"], unfollowed := true, recurses := true, plainKeys := false, apart := false, narrowed := true }
def PlaceLowestUptoSaid : Prop := placeLowestUptoRow.holds Try.pinned (OpenSpec.upto placeLowestSpec)

/-- 'hodmanlaw11.PlaceBack', WHERE WHAT IT READS IS OF BULK AT MOST 1048576: true; the input reads as it did. -/
def placeBackUptoRow : OpenClaim := { program := "ytdnelcadmoeeiaa", sum := "451579547b9e23ef7187d0457e3179690cb6c5a44f4762e483ff2a4c807f9364", func := "hodman/hodmanlaw11.PlaceBack", spec := "placeBack", inPlace := ["slices.overlaps[hodman/api.Mark]"], unfollowed := true, recurses := true, plainKeys := false, apart := false, narrowed := true }
def PlaceBackUptoSaid : Prop := placeBackUptoRow.holds Try.pinned (OpenSpec.upto placeBackSpec)

/-- 'hodmanlaw11.PlaceForms', WHERE WHAT IT READS IS OF BULK AT MOST 1048576: true; the input reads as it did. -/
def placeFormsUptoRow : OpenClaim := { program := "ytdnelcadmoeeiaa", sum := "451579547b9e23ef7187d0457e3179690cb6c5a44f4762e483ff2a4c807f9364", func := "hodman/hodmanlaw11.PlaceForms", spec := "placeForms", inPlace := ["slices.overlaps[hodman/api.Mark]"], unfollowed := true, recurses := true, plainKeys := false, apart := false, narrowed := true }
def PlaceFormsUptoSaid : Prop := placeFormsUptoRow.holds Try.pinned (OpenSpec.upto placeFormsSpec)

/-- 'hodmanlaw18.HeapNew', WHERE WHAT IT READS IS OF BULK AT MOST 1048576: true; the input reads as it did. -/
def heapNewUptoRow : OpenClaim := { program := "ytdnelcadmoeeiaa", sum := "451579547b9e23ef7187d0457e3179690cb6c5a44f4762e483ff2a4c807f9364", func := "hodman/hodmanlaw18.HeapNew", spec := "heapNew", inPlace := ["slices.overlaps[hodman/api.Mark]"], unfollowed := true, recurses := true, plainKeys := false, apart := false, narrowed := true }
def HeapNewUptoSaid : Prop := heapNewUptoRow.holds Try.pinned (OpenSpec.upto heapNewSpec)

end Rows
end Go.Proofs.Ytdnelcadmoeeiaa
