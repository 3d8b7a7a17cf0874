/-
  No cell of these rows narrows 'for every input' (looked for: loops, veiled, ifaces, maps, wideKeys, modest, calm, conditions, laid).
  DERIVED. THE GIVEN ROWS OF THIS SEAT. 6 by the template 'for every input the law returns true; each argument reads behind the call as it read before'; 0 by the template 'total and deterministic' (their statements: YtdnelcadmoeeiaaGreatTotals.lean).
  GIVEN WITH THE SEED: the statements are not yours to turn. If you find one false, say at which input.
  Laid BY PROGRAM, IN A SANDBOX (cutbox-rows.mjs): the forced cells as the released guide's own fill.sh prints them over the translation 30672b55a04c0e2e… (all of the seat's roots in one cut). By AI agents, Wed Nov 11 2026. No macro, syntax, notation, axiom, sorry.
-/
import Derived.Test.YtdnelcadmoeeiaaGreatChecked
import GoSem.Claim
import GoSem.ClaimJoined
import GoSem.ClaimMapViews
import Derived.JoinedTies
import Derived.KernelRfl
namespace Go.Proofs.YtdnelcadmoeeiaaGreat
/- THE CELL 'sum', in the pinned program and in every row, IS THE sha256 OF THE DUMP (.gsa) THAT YtdnelcadmoeeiaaGreatProg.lean LOADS. Nothing in Lean hashes anything: it is a label: what it is worth is what the hold of that sum in a sandbox is worth. -/
noncomputable def Tryz.pinned : Pinned := { name := "ytdnelcadmoeeiaagreat", sum := "30672b55a04c0e2e04b289ddbf83a73805dd2a8d04e29524c43d008e290badb2", checked := Tryz.checked }
namespace Rows
def none {H : Type} : Left H := { results := [], args := [] }

/-- 'hodmanlaw18.HeapAll': WHATEVER THE INPUT: true; the input reads as it did. -/
def heapAllSpec : ChangeSpec := { name := "heapAll", fn := fun _ => fun
  | [d1, d2, d3] => { results := [.lit (.bool true)], args := [d1, d2, d3] }
  | _ => none }
def heapAllRow : OpenClaim := { program := "ytdnelcadmoeeiaagreat", sum := "30672b55a04c0e2e04b289ddbf83a73805dd2a8d04e29524c43d008e290badb2", func := "hodman/hodmanlaw18.HeapAll", spec := "heapAll", inPlace := ["slices.overlaps[hodman/api.Mark]"], unfollowed := true, recurses := true, plainKeys := false, apart := false }
def HeapAllSaid : Prop := heapAllRow.holds Tryz.pinned (OpenSpec.ofChange heapAllSpec)

/-- ITS FALSE NEIGHBOUR: 'it returns false'. Refute it at one input. -/
def heapAllWrong : ChangeSpec := { name := "heapAll", fn := fun _ => fun
  | [d1, d2, d3] => { results := [.lit (.bool false)], args := [d1, d2, d3] }
  | _ => none }
def HeapAllWrongFalsely : Prop := heapAllRow.holds Tryz.pinned (OpenSpec.ofChange heapAllWrong)

/-- 'hodmanlaw18.HeapOwn': WHATEVER THE INPUT: true; the input reads as it did. -/
def heapOwnSpec : ChangeSpec := { name := "heapOwn", fn := fun _ => fun
  | [d1, d2] => { results := [.lit (.bool true)], args := [d1, d2] }
  | _ => none }
def heapOwnRow : OpenClaim := { program := "ytdnelcadmoeeiaagreat", sum := "30672b55a04c0e2e04b289ddbf83a73805dd2a8d04e29524c43d008e290badb2", func := "hodman/hodmanlaw18.HeapOwn", spec := "heapOwn", inPlace := ["slices.overlaps[hodman/api.Mark]"], unfollowed := true, recurses := true, plainKeys := false, apart := false }
def HeapOwnSaid : Prop := heapOwnRow.holds Tryz.pinned (OpenSpec.ofChange heapOwnSpec)

/-- ITS FALSE NEIGHBOUR: 'it returns false'. Refute it at one input. -/
def heapOwnWrong : ChangeSpec := { name := "heapOwn", fn := fun _ => fun
  | [d1, d2] => { results := [.lit (.bool false)], args := [d1, d2] }
  | _ => none }
def HeapOwnWrongFalsely : Prop := heapOwnRow.holds Tryz.pinned (OpenSpec.ofChange heapOwnWrong)

/-- 'hodmanlaw18.HeapLongs': WHATEVER THE INPUT: true; the input reads as it did. -/
def heapLongsSpec : ChangeSpec := { name := "heapLongs", fn := fun _ => fun
  | [d1, d2] => { results := [.lit (.bool true)], args := [d1, d2] }
  | _ => none }
def heapLongsRow : OpenClaim := { program := "ytdnelcadmoeeiaagreat", sum := "30672b55a04c0e2e04b289ddbf83a73805dd2a8d04e29524c43d008e290badb2", func := "hodman/hodmanlaw18.HeapLongs", spec := "heapLongs", inPlace := ["slices.overlaps[hodman/api.Mark]"], unfollowed := true, recurses := true, plainKeys := false, apart := false }
def HeapLongsSaid : Prop := heapLongsRow.holds Tryz.pinned (OpenSpec.ofChange heapLongsSpec)

/-- ITS FALSE NEIGHBOUR: 'it returns false'. Refute it at one input. -/
def heapLongsWrong : ChangeSpec := { name := "heapLongs", fn := fun _ => fun
  | [d1, d2] => { results := [.lit (.bool false)], args := [d1, d2] }
  | _ => none }
def HeapLongsWrongFalsely : Prop := heapLongsRow.holds Tryz.pinned (OpenSpec.ofChange heapLongsWrong)

/-- 'hodmanlaw18.HeapTwo': WHATEVER THE INPUT: true; the input reads as it did. -/
def heapTwoSpec : ChangeSpec := { name := "heapTwo", fn := fun _ => fun
  | [d1, d2, d3] => { results := [.lit (.bool true)], args := [d1, d2, d3] }
  | _ => none }
def heapTwoRow : OpenClaim := { program := "ytdnelcadmoeeiaagreat", sum := "30672b55a04c0e2e04b289ddbf83a73805dd2a8d04e29524c43d008e290badb2", func := "hodman/hodmanlaw18.HeapTwo", spec := "heapTwo", inPlace := ["slices.overlaps[hodman/api.Mark]"], unfollowed := true, recurses := true, plainKeys := false, apart := false }
def HeapTwoSaid : Prop := heapTwoRow.holds Tryz.pinned (OpenSpec.ofChange heapTwoSpec)

/-- ITS FALSE NEIGHBOUR: 'it returns false'. Refute it at one input. -/
def heapTwoWrong : ChangeSpec := { name := "heapTwo", fn := fun _ => fun
  | [d1, d2, d3] => { results := [.lit (.bool false)], args := [d1, d2, d3] }
  | _ => none }
def HeapTwoWrongFalsely : Prop := heapTwoRow.holds Tryz.pinned (OpenSpec.ofChange heapTwoWrong)

/-- 'hodmanlaw18.HeapEnough': WHATEVER THE INPUT: true; the input reads as it did. -/
def heapEnoughSpec : ChangeSpec := { name := "heapEnough", fn := fun _ => fun
  | [d1, d2, d3] => { results := [.lit (.bool true)], args := [d1, d2, d3] }
  | _ => none }
def heapEnoughRow : OpenClaim := { program := "ytdnelcadmoeeiaagreat", sum := "30672b55a04c0e2e04b289ddbf83a73805dd2a8d04e29524c43d008e290badb2", func := "hodman/hodmanlaw18.HeapEnough", spec := "heapEnough", inPlace := ["slices.overlaps[hodman/api.Mark]"], unfollowed := true, recurses := true, plainKeys := false, apart := false }
def HeapEnoughSaid : Prop := heapEnoughRow.holds Tryz.pinned (OpenSpec.ofChange heapEnoughSpec)

/-- ITS FALSE NEIGHBOUR: 'it returns false'. Refute it at one input. -/
def heapEnoughWrong : ChangeSpec := { name := "heapEnough", fn := fun _ => fun
  | [d1, d2, d3] => { results := [.lit (.bool false)], args := [d1, d2, d3] }
  | _ => none }
def HeapEnoughWrongFalsely : Prop := heapEnoughRow.holds Tryz.pinned (OpenSpec.ofChange heapEnoughWrong)

/-- 'hodmanlaw18.HeapCopies': WHATEVER THE INPUT: true; the input reads as it did. -/
def heapCopiesSpec : ChangeSpec := { name := "heapCopies", fn := fun _ => fun
  | [d1, d2, d3, d4] => { results := [.lit (.bool true)], args := [d1, d2, d3, d4] }
  | _ => none }
def heapCopiesRow : OpenClaim := { program := "ytdnelcadmoeeiaagreat", sum := "30672b55a04c0e2e04b289ddbf83a73805dd2a8d04e29524c43d008e290badb2", func := "hodman/hodmanlaw18.HeapCopies", spec := "heapCopies", inPlace := ["slices.overlaps[hodman/api.Mark]"], unfollowed := true, recurses := true, plainKeys := false, apart := false }
def HeapCopiesSaid : Prop := heapCopiesRow.holds Tryz.pinned (OpenSpec.ofChange heapCopiesSpec)

/-- ITS FALSE NEIGHBOUR: 'it returns false'. Refute it at one input. -/
def heapCopiesWrong : ChangeSpec := { name := "heapCopies", fn := fun _ => fun
  | [d1, d2, d3, d4] => { results := [.lit (.bool false)], args := [d1, d2, d3, d4] }
  | _ => none }
def HeapCopiesWrongFalsely : Prop := heapCopiesRow.holds Tryz.pinned (OpenSpec.ofChange heapCopiesWrong)

/- THE SECOND FORM. 'bulk': how many values and letters a reading holds, each counted each time it is reached (what is shared counts as often as it is met; a slice's spare places count too). A statement '..UptoSaid' is the law's where the arguments, and the package variables that the reading takes, are together of bulk at most 1048576: NARROWER than '..Said'. Prove '..Said' where nothing that the law and all that it calls make is longer than what came in: it says more and counts as full. Else prove '..UptoSaid'. A law counts once. -/
mutual
def uptoBulk {H : Type} : DataW H → Nat
  | .lit (.string bytes) => bytes.length + 1
  | .lit _ => 1
  | .nil => 1
  | .ptr d => uptoBulk d + 1
  | .slice elems spare => uptoBulkAll elems + uptoBulkAll spare + 1
  | .agg parts => uptoBulkAll parts + 1
  | .iface _ d => uptoBulk d + 1
  | .map entries => uptoBulkEntries entries + 1
  | .held _ => 1
def uptoBulkAll {H : Type} : List (DataW H) → Nat
  | [] => 0
  | d :: r => uptoBulk d + uptoBulkAll r
def uptoBulkEntries {H : Type} : List (Lit × DataW H) → Nat
  | [] => 0
  | x :: r => uptoBulkEntry x + uptoBulkEntries r
def uptoBulkEntry {H : Type} : Lit × DataW H → Nat
  | (.string bytes, d) => bytes.length + uptoBulk d + 1
  | (_, d) => uptoBulk d + 1
 end
def uptoSmall : (H : Type) → List (DataW H) → Bool := fun _ ds => decide (uptoBulkAll ds ≤ 1048576)
def OpenSpec.upto (s : _root_.Go.ChangeSpec) : _root_.Go.OpenSpec := { _root_.Go.OpenSpec.ofChange s with cond := some uptoSmall }

/-- 'hodmanlaw18.HeapAll', WHERE WHAT IT READS IS OF BULK AT MOST 1048576: true; the input reads as it did. -/
def heapAllUptoRow : OpenClaim := { program := "ytdnelcadmoeeiaagreat", sum := "30672b55a04c0e2e04b289ddbf83a73805dd2a8d04e29524c43d008e290badb2", func := "hodman/hodmanlaw18.HeapAll", spec := "heapAll", inPlace := ["slices.overlaps[hodman/api.Mark]"], unfollowed := true, recurses := true, plainKeys := false, apart := false, narrowed := true }
def HeapAllUptoSaid : Prop := heapAllUptoRow.holds Tryz.pinned (OpenSpec.upto heapAllSpec)

/-- 'hodmanlaw18.HeapOwn', WHERE WHAT IT READS IS OF BULK AT MOST 1048576: true; the input reads as it did. -/
def heapOwnUptoRow : OpenClaim := { program := "ytdnelcadmoeeiaagreat", sum := "30672b55a04c0e2e04b289ddbf83a73805dd2a8d04e29524c43d008e290badb2", func := "hodman/hodmanlaw18.HeapOwn", spec := "heapOwn", inPlace := ["slices.overlaps[hodman/api.Mark]"], unfollowed := true, recurses := true, plainKeys := false, apart := false, narrowed := true }
def HeapOwnUptoSaid : Prop := heapOwnUptoRow.holds Tryz.pinned (OpenSpec.upto heapOwnSpec)

/-- 'hodmanlaw18.HeapLongs', WHERE WHAT IT READS IS OF BULK AT MOST 1048576: true; the input reads as it did. -/
def heapLongsUptoRow : OpenClaim := { program := "ytdnelcadmoeeiaagreat", sum := "30672b55a04c0e2e04b289ddbf83a73805dd2a8d04e29524c43d008e290badb2", func := "hodman/hodmanlaw18.HeapLongs", spec := "heapLongs", inPlace := ["slices.overlaps[hodman/api.Mark]"], unfollowed := true, recurses := true, plainKeys := false, apart := false, narrowed := true }
def HeapLongsUptoSaid : Prop := heapLongsUptoRow.holds Tryz.pinned (OpenSpec.upto heapLongsSpec)

/-- 'hodmanlaw18.HeapTwo', WHERE WHAT IT READS IS OF BULK AT MOST 1048576: true; the input reads as it did. -/
def heapTwoUptoRow : OpenClaim := { program := "ytdnelcadmoeeiaagreat", sum := "30672b55a04c0e2e04b289ddbf83a73805dd2a8d04e29524c43d008e290badb2", func := "hodman/hodmanlaw18.HeapTwo", spec := "heapTwo", inPlace := ["slices.overlaps[hodman/api.Mark]"], unfollowed := true, recurses := true, plainKeys := false, apart := false, narrowed := true }
def HeapTwoUptoSaid : Prop := heapTwoUptoRow.holds Tryz.pinned (OpenSpec.upto heapTwoSpec)

/-- 'hodmanlaw18.HeapEnough', WHERE WHAT IT READS IS OF BULK AT MOST 1048576: true; the input reads as it did. -/
def heapEnoughUptoRow : OpenClaim := { program := "ytdnelcadmoeeiaagreat", sum := "30672b55a04c0e2e04b289ddbf83a73805dd2a8d04e29524c43d008e290badb2", func := "hodman/hodmanlaw18.HeapEnough", spec := "heapEnough", inPlace := ["slices.overlaps[hodman/api.Mark]"], unfollowed := true, recurses := true, plainKeys := false, apart := false, narrowed := true }
def HeapEnoughUptoSaid : Prop := heapEnoughUptoRow.holds Tryz.pinned (OpenSpec.upto heapEnoughSpec)

/-- 'hodmanlaw18.HeapCopies', WHERE WHAT IT READS IS OF BULK AT MOST 1048576: true; the input reads as it did. -/
def heapCopiesUptoRow : OpenClaim := { program := "ytdnelcadmoeeiaagreat", sum := "30672b55a04c0e2e04b289ddbf83a73805dd2a8d04e29524c43d008e290badb2", func := "hodman/hodmanlaw18.HeapCopies", spec := "heapCopies", inPlace := ["slices.overlaps[hodman/api.Mark]"], unfollowed := true, recurses := true, plainKeys := false, apart := false, narrowed := true }
def HeapCopiesUptoSaid : Prop := heapCopiesUptoRow.holds Tryz.pinned (OpenSpec.upto heapCopiesSpec)

end Rows
end Go.Proofs.YtdnelcadmoeeiaaGreat
