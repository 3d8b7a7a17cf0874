/-
  No cell of these rows narrows 'for every input' (looked for: loops, veiled, ifaces, maps, wideKeys, modest, calm, conditions, laid).
  DERIVED. THE GIVEN ROWS OF THIS SEAT. 8 by the template 'for every input the law returns true; each argument reads behind the call as it read before'; 0 by the template 'total and deterministic' (their statements: YtbhjocgepgpnmaaGreatTotals.lean).
  GIVEN WITH THE SEED: the statements are not yours to turn. If you find one false, say at which input.
  Laid BY PROGRAM, IN A SANDBOX (cutbox-rows.mjs): the forced cells as the released guide's own fill.sh prints them over the translation 287f4b5c9bab75f4… (all of the seat's roots in one cut). By AI agents, Wed Nov 11 2026. No macro, syntax, notation, axiom, sorry.
-/
import Derived.Test.YtbhjocgepgpnmaaGreatChecked
import GoSem.Claim
import GoSem.ClaimJoined
import GoSem.ClaimMapViews
import Derived.JoinedTies
import Derived.KernelRfl
namespace Go.Proofs.YtbhjocgepgpnmaaGreat
/- THE CELL 'sum', in the pinned program and in every row, IS THE sha256 OF THE DUMP (.gsa) THAT YtbhjocgepgpnmaaGreatProg.lean LOADS. Nothing in Lean hashes anything: it is a label: what it is worth is what the hold of that sum in a sandbox is worth. -/
noncomputable def Tryz.pinned : Pinned := { name := "ytbhjocgepgpnmaagreat", sum := "287f4b5c9bab75f4c3ea05726c042bebfb255a95b08dc14bfed6de7ac6212e7d", checked := Tryz.checked }
namespace Rows
def none {H : Type} : Left H := { results := [], args := [] }

/-- 'hodmanlaw27.PlayAll': WHATEVER THE INPUT: true; the input reads as it did. -/
def playAllSpec : ChangeSpec := { name := "playAll", fn := fun _ => fun
  | [d1, d2, d3] => { results := [.lit (.bool true)], args := [d1, d2, d3] }
  | _ => none }
def playAllRow : OpenClaim := { program := "ytbhjocgepgpnmaagreat", sum := "287f4b5c9bab75f4c3ea05726c042bebfb255a95b08dc14bfed6de7ac6212e7d", func := "hodman/hodmanlaw27.PlayAll", spec := "playAll", inPlace := ["slices.overlaps[hodman/api.Mark]"], unfollowed := true, recurses := true, plainKeys := false, apart := false }
def PlayAllSaid : Prop := playAllRow.holds Tryz.pinned (OpenSpec.ofChange playAllSpec)

/-- ITS FALSE NEIGHBOUR: 'it returns false'. Refute it at one input. -/
def playAllWrong : ChangeSpec := { name := "playAll", fn := fun _ => fun
  | [d1, d2, d3] => { results := [.lit (.bool false)], args := [d1, d2, d3] }
  | _ => none }
def PlayAllWrongFalsely : Prop := playAllRow.holds Tryz.pinned (OpenSpec.ofChange playAllWrong)

/-- 'hodmanlaw27.PlayBack': WHATEVER THE INPUT: true; the input reads as it did. -/
def playBackSpec : ChangeSpec := { name := "playBack", fn := fun _ => fun
  | [d1, d2] => { results := [.lit (.bool true)], args := [d1, d2] }
  | _ => none }
def playBackRow : OpenClaim := { program := "ytbhjocgepgpnmaagreat", sum := "287f4b5c9bab75f4c3ea05726c042bebfb255a95b08dc14bfed6de7ac6212e7d", func := "hodman/hodmanlaw27.PlayBack", spec := "playBack", inPlace := ["slices.overlaps[hodman/api.Mark]"], unfollowed := true, recurses := true, plainKeys := false, apart := false }
def PlayBackSaid : Prop := playBackRow.holds Tryz.pinned (OpenSpec.ofChange playBackSpec)

/-- ITS FALSE NEIGHBOUR: 'it returns false'. Refute it at one input. -/
def playBackWrong : ChangeSpec := { name := "playBack", fn := fun _ => fun
  | [d1, d2] => { results := [.lit (.bool false)], args := [d1, d2] }
  | _ => none }
def PlayBackWrongFalsely : Prop := playBackRow.holds Tryz.pinned (OpenSpec.ofChange playBackWrong)

/-- 'hodmanlaw27.PlayRuns': WHATEVER THE INPUT: true; the input reads as it did. -/
def playRunsSpec : ChangeSpec := { name := "playRuns", fn := fun _ => fun
  | [d1, d2] => { results := [.lit (.bool true)], args := [d1, d2] }
  | _ => none }
def playRunsRow : OpenClaim := { program := "ytbhjocgepgpnmaagreat", sum := "287f4b5c9bab75f4c3ea05726c042bebfb255a95b08dc14bfed6de7ac6212e7d", func := "hodman/hodmanlaw27.PlayRuns", spec := "playRuns", inPlace := ["slices.overlaps[hodman/api.Mark]"], unfollowed := true, recurses := true, plainKeys := false, apart := false }
def PlayRunsSaid : Prop := playRunsRow.holds Tryz.pinned (OpenSpec.ofChange playRunsSpec)

/-- ITS FALSE NEIGHBOUR: 'it returns false'. Refute it at one input. -/
def playRunsWrong : ChangeSpec := { name := "playRuns", fn := fun _ => fun
  | [d1, d2] => { results := [.lit (.bool false)], args := [d1, d2] }
  | _ => none }
def PlayRunsWrongFalsely : Prop := playRunsRow.holds Tryz.pinned (OpenSpec.ofChange playRunsWrong)

/-- 'hodmanlaw26.RunAll': WHATEVER THE INPUT: true; the input reads as it did. -/
def runAllSpec : ChangeSpec := { name := "runAll", fn := fun _ => fun
  | [d1, d2, d3, d4] => { results := [.lit (.bool true)], args := [d1, d2, d3, d4] }
  | _ => none }
def runAllRow : OpenClaim := { program := "ytbhjocgepgpnmaagreat", sum := "287f4b5c9bab75f4c3ea05726c042bebfb255a95b08dc14bfed6de7ac6212e7d", func := "hodman/hodmanlaw26.RunAll", spec := "runAll", inPlace := ["slices.overlaps[hodman/api.Mark]", "slices.overlaps[hodman/api.Block]"], unfollowed := true, recurses := true, plainKeys := false, apart := false }
def RunAllSaid : Prop := runAllRow.holds Tryz.pinned (OpenSpec.ofChange runAllSpec)

/-- ITS FALSE NEIGHBOUR: 'it returns false'. Refute it at one input. -/
def runAllWrong : ChangeSpec := { name := "runAll", fn := fun _ => fun
  | [d1, d2, d3, d4] => { results := [.lit (.bool false)], args := [d1, d2, d3, d4] }
  | _ => none }
def RunAllWrongFalsely : Prop := runAllRow.holds Tryz.pinned (OpenSpec.ofChange runAllWrong)

/-- 'hodmanlaw26.RunParts': WHATEVER THE INPUT: true; the input reads as it did. -/
def runPartsSpec : ChangeSpec := { name := "runParts", fn := fun _ => fun
  | [d1, d2, d3] => { results := [.lit (.bool true)], args := [d1, d2, d3] }
  | _ => none }
def runPartsRow : OpenClaim := { program := "ytbhjocgepgpnmaagreat", sum := "287f4b5c9bab75f4c3ea05726c042bebfb255a95b08dc14bfed6de7ac6212e7d", func := "hodman/hodmanlaw26.RunParts", spec := "runParts", inPlace := ["slices.overlaps[hodman/api.Mark]", "slices.overlaps[hodman/api.Block]"], unfollowed := true, recurses := true, plainKeys := false, apart := false }
def RunPartsSaid : Prop := runPartsRow.holds Tryz.pinned (OpenSpec.ofChange runPartsSpec)

/-- ITS FALSE NEIGHBOUR: 'it returns false'. Refute it at one input. -/
def runPartsWrong : ChangeSpec := { name := "runParts", fn := fun _ => fun
  | [d1, d2, d3] => { results := [.lit (.bool false)], args := [d1, d2, d3] }
  | _ => none }
def RunPartsWrongFalsely : Prop := runPartsRow.holds Tryz.pinned (OpenSpec.ofChange runPartsWrong)

/-- 'hodmanlaw26.RunMany': WHATEVER THE INPUT: true; the input reads as it did. -/
def runManySpec : ChangeSpec := { name := "runMany", fn := fun _ => fun
  | [d] => { results := [.lit (.bool true)], args := [d] }
  | _ => none }
def runManyRow : OpenClaim := { program := "ytbhjocgepgpnmaagreat", sum := "287f4b5c9bab75f4c3ea05726c042bebfb255a95b08dc14bfed6de7ac6212e7d", func := "hodman/hodmanlaw26.RunMany", spec := "runMany", inPlace := ["slices.overlaps[hodman/api.Mark]", "slices.overlaps[hodman/api.Block]"], unfollowed := true, recurses := true, plainKeys := false, apart := false }
def RunManySaid : Prop := runManyRow.holds Tryz.pinned (OpenSpec.ofChange runManySpec)

/-- ITS FALSE NEIGHBOUR: 'it returns false'. Refute it at one input. -/
def runManyWrong : ChangeSpec := { name := "runMany", fn := fun _ => fun
  | [d] => { results := [.lit (.bool false)], args := [d] }
  | _ => none }
def RunManyWrongFalsely : Prop := runManyRow.holds Tryz.pinned (OpenSpec.ofChange runManyWrong)

/-- 'hodmanlaw26.RunBoth': WHATEVER THE INPUT: true; the input reads as it did. -/
def runBothSpec : ChangeSpec := { name := "runBoth", fn := fun _ => fun
  | [d1, d2] => { results := [.lit (.bool true)], args := [d1, d2] }
  | _ => none }
def runBothRow : OpenClaim := { program := "ytbhjocgepgpnmaagreat", sum := "287f4b5c9bab75f4c3ea05726c042bebfb255a95b08dc14bfed6de7ac6212e7d", func := "hodman/hodmanlaw26.RunBoth", spec := "runBoth", inPlace := ["slices.overlaps[hodman/api.Mark]", "slices.overlaps[hodman/api.Block]"], unfollowed := true, recurses := true, plainKeys := false, apart := false }
def RunBothSaid : Prop := runBothRow.holds Tryz.pinned (OpenSpec.ofChange runBothSpec)

/-- ITS FALSE NEIGHBOUR: 'it returns false'. Refute it at one input. -/
def runBothWrong : ChangeSpec := { name := "runBoth", fn := fun _ => fun
  | [d1, d2] => { results := [.lit (.bool false)], args := [d1, d2] }
  | _ => none }
def RunBothWrongFalsely : Prop := runBothRow.holds Tryz.pinned (OpenSpec.ofChange runBothWrong)

/-- 'hodmanlaw26.RunSeeds': WHATEVER THE INPUT: true; the input reads as it did. -/
def runSeedsSpec : ChangeSpec := { name := "runSeeds", fn := fun _ => fun
  | [d1, d2, d3] => { results := [.lit (.bool true)], args := [d1, d2, d3] }
  | _ => none }
def runSeedsRow : OpenClaim := { program := "ytbhjocgepgpnmaagreat", sum := "287f4b5c9bab75f4c3ea05726c042bebfb255a95b08dc14bfed6de7ac6212e7d", func := "hodman/hodmanlaw26.RunSeeds", spec := "runSeeds", inPlace := ["slices.overlaps[hodman/api.Mark]", "slices.overlaps[hodman/api.Block]"], unfollowed := true, recurses := true, plainKeys := false, apart := false }
def RunSeedsSaid : Prop := runSeedsRow.holds Tryz.pinned (OpenSpec.ofChange runSeedsSpec)

/-- ITS FALSE NEIGHBOUR: 'it returns false'. Refute it at one input. -/
def runSeedsWrong : ChangeSpec := { name := "runSeeds", fn := fun _ => fun
  | [d1, d2, d3] => { results := [.lit (.bool false)], args := [d1, d2, d3] }
  | _ => none }
def RunSeedsWrongFalsely : Prop := runSeedsRow.holds Tryz.pinned (OpenSpec.ofChange runSeedsWrong)

/- THE SECOND FORM. 'bulk': how many values and letters a reading holds, each counted each time it is reached (what is shared counts as often as it is met; a slice's spare places count too). A statement '..UptoSaid' is the law's where the arguments, and the package variables that the reading takes, are together of bulk at most 1048576: NARROWER than '..Said'. Prove '..Said' where nothing that the law and all that it calls make is longer than what came in: it says more and counts as full. Else prove '..UptoSaid'. A law counts once. -/
mutual
def uptoBulk {H : Type} : DataW H → Nat
  | .lit (.string bytes) => bytes.length + 1
  | .lit _ => 1
  | .nil => 1
  | .ptr d => uptoBulk d + 1
  | .slice elems spare => uptoBulkAll elems + uptoBulkAll spare + 1
  | .agg parts => uptoBulkAll parts + 1
  | .iface _ d => uptoBulk d + 1
  | .map entries => uptoBulkEntries entries + 1
  | .held _ => 1
def uptoBulkAll {H : Type} : List (DataW H) → Nat
  | [] => 0
  | d :: r => uptoBulk d + uptoBulkAll r
def uptoBulkEntries {H : Type} : List (Lit × DataW H) → Nat
  | [] => 0
  | x :: r => uptoBulkEntry x + uptoBulkEntries r
def uptoBulkEntry {H : Type} : Lit × DataW H → Nat
  | (.string bytes, d) => bytes.length + uptoBulk d + 1
  | (_, d) => uptoBulk d + 1
 end
def uptoSmall : (H : Type) → List (DataW H) → Bool := fun _ ds => decide (uptoBulkAll ds ≤ 1048576)
def OpenSpec.upto (s : _root_.Go.ChangeSpec) : _root_.Go.OpenSpec := { _root_.Go.OpenSpec.ofChange s with cond := some uptoSmall }

/-- 'hodmanlaw27.PlayAll', WHERE WHAT IT READS IS OF BULK AT MOST 1048576: true; the input reads as it did. -/
def playAllUptoRow : OpenClaim := { program := "ytbhjocgepgpnmaagreat", sum := "287f4b5c9bab75f4c3ea05726c042bebfb255a95b08dc14bfed6de7ac6212e7d", func := "hodman/hodmanlaw27.PlayAll", spec := "playAll", inPlace := ["slices.overlaps[hodman/api.Mark]"], unfollowed := true, recurses := true, plainKeys := false, apart := false, narrowed := true }
def PlayAllUptoSaid : Prop := playAllUptoRow.holds Tryz.pinned (OpenSpec.upto playAllSpec)

/-- 'hodmanlaw27.PlayBack', WHERE WHAT IT READS IS OF BULK AT MOST 1048576: true; the input reads as it did. -/
def playBackUptoRow : OpenClaim := { program := "ytbhjocgepgpnmaagreat", sum := "287f4b5c9bab75f4c3ea05726c042bebfb255a95b08dc14bfed6de7ac6212e7d", func := "hodman/hodmanlaw27.PlayBack", spec := "playBack", inPlace := ["slices.overlaps[hodman/api.Mark]"], unfollowed := true, recurses := true, plainKeys := false, apart := false, narrowed := true }
def PlayBackUptoSaid : Prop := playBackUptoRow.holds Tryz.pinned (OpenSpec.upto playBackSpec)

/-- 'hodmanlaw27.PlayRuns', WHERE WHAT IT READS IS OF BULK AT MOST 1048576: true; the input reads as it did. -/
def playRunsUptoRow : OpenClaim := { program := "ytbhjocgepgpnmaagreat", sum := "287f4b5c9bab75f4c3ea05726c042bebfb255a95b08dc14bfed6de7ac6212e7d", func := "hodman/hodmanlaw27.PlayRuns", spec := "playRuns", inPlace := ["slices.overlaps[hodman/api.Mark]"], unfollowed := true, recurses := true, plainKeys := false, apart := false, narrowed := true }
def PlayRunsUptoSaid : Prop := playRunsUptoRow.holds Tryz.pinned (OpenSpec.upto playRunsSpec)

/-- 'hodmanlaw26.RunAll', WHERE WHAT IT READS IS OF BULK AT MOST 1048576: true; the input reads as it did. -/
def runAllUptoRow : OpenClaim := { program := "ytbhjocgepgpnmaagreat", sum := "287f4b5c9bab75f4c3ea05726c042bebfb255a95b08dc14bfed6de7ac6212e7d", func := "hodman/hodmanlaw26.RunAll", spec := "runAll", inPlace := ["slices.overlaps[hodman/api.Mark]", "slices.overlaps[hodman/api.Block]"], unfollowed := true, recurses := true, plainKeys := false, apart := false, narrowed := true }
def RunAllUptoSaid : Prop := runAllUptoRow.holds Tryz.pinned (OpenSpec.upto runAllSpec)

/-- 'hodmanlaw26.RunParts', WHERE WHAT IT READS IS OF BULK AT MOST 1048576: true; the input reads as it did. -/
def runPartsUptoRow : OpenClaim := { program := "ytbhjocgepgpnmaagreat", sum := "287f4b5c9bab75f4c3ea05726c042bebfb255a95b08dc14bfed6de7ac6212e7d", func := "hodman/hodmanlaw26.RunParts", spec := "runParts", inPlace := ["slices.overlaps[hodman/api.Mark]", "slices.overlaps[hodman/api.Block]"], unfollowed := true, recurses := true, plainKeys := false, apart := false, narrowed := true }
def RunPartsUptoSaid : Prop := runPartsUptoRow.holds Tryz.pinned (OpenSpec.upto runPartsSpec)

/-- 'hodmanlaw26.RunMany', WHERE WHAT IT READS IS OF BULK AT MOST 1048576: true; the input reads as it did. -/
def runManyUptoRow : OpenClaim := { program := "ytbhjocgepgpnmaagreat", sum := "287f4b5c9bab75f4c3ea05726c042bebfb255a95b08dc14bfed6de7ac6212e7d", func := "hodman/hodmanlaw26.RunMany", spec := "runMany", inPlace := ["slices.overlaps[hodman/api.Mark]", "slices.overlaps[hodman/api.Block]"], unfollowed := true, recurses := true, plainKeys := false, apart := false, narrowed := true }
def RunManyUptoSaid : Prop := runManyUptoRow.holds Tryz.pinned (OpenSpec.upto runManySpec)

/-- 'hodmanlaw26.RunBoth', WHERE WHAT IT READS IS OF BULK AT MOST 1048576: true; the input reads as it did. -/
def runBothUptoRow : OpenClaim := { program := "ytbhjocgepgpnmaagreat", sum := "287f4b5c9bab75f4c3ea05726c042bebfb255a95b08dc14bfed6de7ac6212e7d", func := "hodman/hodmanlaw26.RunBoth", spec := "runBoth", inPlace := ["slices.overlaps[hodman/api.Mark]", "slices.overlaps[hodman/api.Block]"], unfollowed := true, recurses := true, plainKeys := false, apart := false, narrowed := true }
def RunBothUptoSaid : Prop := runBothUptoRow.holds Tryz.pinned (OpenSpec.upto runBothSpec)

/-- 'hodmanlaw26.RunSeeds', WHERE WHAT IT READS IS OF BULK AT MOST 1048576: true; the input reads as it did. -/
def runSeedsUptoRow : OpenClaim := { program := "ytbhjocgepgpnmaagreat", sum := "287f4b5c9bab75f4c3ea05726c042bebfb255a95b08dc14bfed6de7ac6212e7d", func := "hodman/hodmanlaw26.RunSeeds", spec := "runSeeds", inPlace := ["slices.overlaps[hodman/api.Mark]", "slices.overlaps[hodman/api.Block]"], unfollowed := true, recurses := true, plainKeys := false, apart := false, narrowed := true }
def RunSeedsUptoSaid : Prop := runSeedsUptoRow.holds Tryz.pinned (OpenSpec.upto runSeedsSpec)

end Rows
end Go.Proofs.YtbhjocgepgpnmaaGreat
