/-
  No cell of these rows narrows 'for every input' (looked for: loops, veiled, ifaces, maps, wideKeys, modest, calm, conditions, laid).
  DERIVED. THE GIVEN ROWS OF THIS SEAT. 11 by the template 'for every input the law returns true; each argument reads behind the call as it read before'; 0 by the template 'total and deterministic' (their statements: YtdhckgmkgaaahaaTotals.lean).
  GIVEN WITH THE SEED: the statements are not yours to turn. If you find one false, say at which input.
  Laid BY PROGRAM, IN A SANDBOX (cutbox-rows.mjs): the forced cells as the released guide's own fill.sh prints them over the translation cbfd48c8f638414b… (all of the seat's roots in one cut). By AI agents, Wed Nov 11 2026. No macro, syntax, notation, axiom, sorry.
-/
import Derived.Test.YtdhckgmkgaaahaaChecked
import GoSem.Claim
import GoSem.ClaimJoined
import GoSem.ClaimMapViews
import Derived.JoinedTies
import Derived.KernelRfl
namespace Go.Proofs.Ytdhckgmkgaaahaa
/- THE CELL 'sum', in the pinned program and in every row, IS THE sha256 OF THE DUMP (.gsa) THAT YtdhckgmkgaaahaaProg.lean LOADS. Nothing in Lean hashes anything: it is a label: what it is worth is what the hold of that sum in a sandbox is worth. -/
noncomputable def Try.pinned : Pinned := { name := "ytdhckgmkgaaahaa", sum := "cbfd48c8f638414b62f2eb5ce4850fa9856327669fa7b91d67a2e521b16e5ea0", checked := Try.checked }
namespace Rows
def none {H : Type} : Left H := { results := [], args := [] }

/-- 'hodmanlaw25.WireAll': WHATEVER THE INPUT: true; the input reads as it did. -/
def wireAllSpec : ChangeSpec := { name := "wireAll", fn := fun _ => fun
  | [d1, d2, d3] => { results := [.lit (.bool true)], args := [d1, d2, d3] }
  | _ => none }
def wireAllRow : OpenClaim := { program := "ytdhckgmkgaaahaa", sum := "cbfd48c8f638414b62f2eb5ce4850fa9856327669fa7b91d67a2e521b16e5ea0", func := "hodman/hodmanlaw25.WireAll", spec := "wireAll", apart := false }
def WireAllSaid : Prop := wireAllRow.holds Try.pinned (OpenSpec.ofChange wireAllSpec)

/-- ITS FALSE NEIGHBOUR: 'it returns false'. Refute it at one input. -/
def wireAllWrong : ChangeSpec := { name := "wireAll", fn := fun _ => fun
  | [d1, d2, d3] => { results := [.lit (.bool false)], args := [d1, d2, d3] }
  | _ => none }
def WireAllWrongFalsely : Prop := wireAllRow.holds Try.pinned (OpenSpec.ofChange wireAllWrong)

/-- 'hodmanlaw25.WireLong': WHATEVER THE INPUT: true; the input reads as it did. -/
def wireLongSpec : ChangeSpec := { name := "wireLong", fn := fun _ => fun
  | [d1, d2] => { results := [.lit (.bool true)], args := [d1, d2] }
  | _ => none }
def wireLongRow : OpenClaim := { program := "ytdhckgmkgaaahaa", sum := "cbfd48c8f638414b62f2eb5ce4850fa9856327669fa7b91d67a2e521b16e5ea0", func := "hodman/hodmanlaw25.WireLong", spec := "wireLong", apart := false }
def WireLongSaid : Prop := wireLongRow.holds Try.pinned (OpenSpec.ofChange wireLongSpec)

/-- ITS FALSE NEIGHBOUR: 'it returns false'. Refute it at one input. -/
def wireLongWrong : ChangeSpec := { name := "wireLong", fn := fun _ => fun
  | [d1, d2] => { results := [.lit (.bool false)], args := [d1, d2] }
  | _ => none }
def WireLongWrongFalsely : Prop := wireLongRow.holds Try.pinned (OpenSpec.ofChange wireLongWrong)

/-- 'hodmanlaw17.PlainAll': WHATEVER THE INPUT: true; the input reads as it did. -/
def plainAllSpec : ChangeSpec := { name := "plainAll", fn := fun _ => fun
  | [d1, d2, d3] => { results := [.lit (.bool true)], args := [d1, d2, d3] }
  | _ => none }
def plainAllRow : OpenClaim := { program := "ytdhckgmkgaaahaa", sum := "cbfd48c8f638414b62f2eb5ce4850fa9856327669fa7b91d67a2e521b16e5ea0", func := "hodman/hodmanlaw17.PlainAll", spec := "plainAll", inPlace := ["slices.overlaps[hodman/api.Block]"], unfollowed := true, recurses := true, apart := false }
def PlainAllSaid : Prop := plainAllRow.holds Try.pinned (OpenSpec.ofChange plainAllSpec)

/-- ITS FALSE NEIGHBOUR: 'it returns false'. Refute it at one input. -/
def plainAllWrong : ChangeSpec := { name := "plainAll", fn := fun _ => fun
  | [d1, d2, d3] => { results := [.lit (.bool false)], args := [d1, d2, d3] }
  | _ => none }
def PlainAllWrongFalsely : Prop := plainAllRow.holds Try.pinned (OpenSpec.ofChange plainAllWrong)

/-- 'hodmanlaw17.PlainNew': WHATEVER THE INPUT: true; the input reads as it did. -/
def plainNewSpec : ChangeSpec := { name := "plainNew", fn := fun _ => fun
  | [d1, d2] => { results := [.lit (.bool true)], args := [d1, d2] }
  | _ => none }
def plainNewRow : OpenClaim := { program := "ytdhckgmkgaaahaa", sum := "cbfd48c8f638414b62f2eb5ce4850fa9856327669fa7b91d67a2e521b16e5ea0", func := "hodman/hodmanlaw17.PlainNew", spec := "plainNew", inPlace := ["slices.overlaps[hodman/api.Block]"], unfollowed := true, recurses := true, apart := false }
def PlainNewSaid : Prop := plainNewRow.holds Try.pinned (OpenSpec.ofChange plainNewSpec)

/-- ITS FALSE NEIGHBOUR: 'it returns false'. Refute it at one input. -/
def plainNewWrong : ChangeSpec := { name := "plainNew", fn := fun _ => fun
  | [d1, d2] => { results := [.lit (.bool false)], args := [d1, d2] }
  | _ => none }
def PlainNewWrongFalsely : Prop := plainNewRow.holds Try.pinned (OpenSpec.ofChange plainNewWrong)

/-- 'hodmanlaw17.PlainApart': WHATEVER THE INPUT: true; the input reads as it did. -/
def plainApartSpec : ChangeSpec := { name := "plainApart", fn := fun _ => fun
  | [d1, d2] => { results := [.lit (.bool true)], args := [d1, d2] }
  | _ => none }
def plainApartRow : OpenClaim := { program := "ytdhckgmkgaaahaa", sum := "cbfd48c8f638414b62f2eb5ce4850fa9856327669fa7b91d67a2e521b16e5ea0", func := "hodman/hodmanlaw17.PlainApart", spec := "plainApart", inPlace := ["slices.overlaps[hodman/api.Block]"], unfollowed := true, recurses := true, apart := false }
def PlainApartSaid : Prop := plainApartRow.holds Try.pinned (OpenSpec.ofChange plainApartSpec)

/-- ITS FALSE NEIGHBOUR: 'it returns false'. Refute it at one input. -/
def plainApartWrong : ChangeSpec := { name := "plainApart", fn := fun _ => fun
  | [d1, d2] => { results := [.lit (.bool false)], args := [d1, d2] }
  | _ => none }
def PlainApartWrongFalsely : Prop := plainApartRow.holds Try.pinned (OpenSpec.ofChange plainApartWrong)

/-- 'hodmanlaw17.PlainBytes': WHATEVER THE INPUT: true; the input reads as it did. -/
def plainBytesSpec : ChangeSpec := { name := "plainBytes", fn := fun _ => fun
  | [d1, d2] => { results := [.lit (.bool true)], args := [d1, d2] }
  | _ => none }
def plainBytesRow : OpenClaim := { program := "ytdhckgmkgaaahaa", sum := "cbfd48c8f638414b62f2eb5ce4850fa9856327669fa7b91d67a2e521b16e5ea0", func := "hodman/hodmanlaw17.PlainBytes", spec := "plainBytes", inPlace := ["slices.overlaps[hodman/api.Block]"], unfollowed := true, recurses := true, apart := false }
def PlainBytesSaid : Prop := plainBytesRow.holds Try.pinned (OpenSpec.ofChange plainBytesSpec)

/-- ITS FALSE NEIGHBOUR: 'it returns false'. Refute it at one input. -/
def plainBytesWrong : ChangeSpec := { name := "plainBytes", fn := fun _ => fun
  | [d1, d2] => { results := [.lit (.bool false)], args := [d1, d2] }
  | _ => none }
def PlainBytesWrongFalsely : Prop := plainBytesRow.holds Try.pinned (OpenSpec.ofChange plainBytesWrong)

/-- 'hodmanlaw17.PlainRefused': WHATEVER THE INPUT: true; the input reads as it did. -/
def plainRefusedSpec : ChangeSpec := { name := "plainRefused", fn := fun _ => fun
  | [d1, d2, d3] => { results := [.lit (.bool true)], args := [d1, d2, d3] }
  | _ => none }
def plainRefusedRow : OpenClaim := { program := "ytdhckgmkgaaahaa", sum := "cbfd48c8f638414b62f2eb5ce4850fa9856327669fa7b91d67a2e521b16e5ea0", func := "hodman/hodmanlaw17.PlainRefused", spec := "plainRefused", inPlace := ["slices.overlaps[hodman/api.Block]"], unfollowed := true, recurses := true, apart := false }
def PlainRefusedSaid : Prop := plainRefusedRow.holds Try.pinned (OpenSpec.ofChange plainRefusedSpec)

/-- ITS FALSE NEIGHBOUR: 'it returns false'. Refute it at one input. -/
def plainRefusedWrong : ChangeSpec := { name := "plainRefused", fn := fun _ => fun
  | [d1, d2, d3] => { results := [.lit (.bool false)], args := [d1, d2, d3] }
  | _ => none }
def PlainRefusedWrongFalsely : Prop := plainRefusedRow.holds Try.pinned (OpenSpec.ofChange plainRefusedWrong)

/-- 'hodmanlaw17.PlainForms': WHATEVER THE INPUT: true; the input reads as it did. -/
def plainFormsSpec : ChangeSpec := { name := "plainForms", fn := fun _ => fun
  | [] => { results := [.lit (.bool true)], args := [] }
  | _ => none }
def plainFormsRow : OpenClaim := { program := "ytdhckgmkgaaahaa", sum := "cbfd48c8f638414b62f2eb5ce4850fa9856327669fa7b91d67a2e521b16e5ea0", func := "hodman/hodmanlaw17.PlainForms", spec := "plainForms", inPlace := ["slices.overlaps[hodman/api.Block]"], unfollowed := true, recurses := true, apart := false }
def PlainFormsSaid : Prop := plainFormsRow.holds Try.pinned (OpenSpec.ofChange plainFormsSpec)

/-- ITS FALSE NEIGHBOUR: 'it returns false'. Refute it at one input. -/
def plainFormsWrong : ChangeSpec := { name := "plainForms", fn := fun _ => fun
  | [] => { results := [.lit (.bool false)], args := [] }
  | _ => none }
def PlainFormsWrongFalsely : Prop := plainFormsRow.holds Try.pinned (OpenSpec.ofChange plainFormsWrong)

/-- 'hodmanlaw17.PlainPages': WHATEVER THE INPUT: true; the input reads as it did. -/
def plainPagesSpec : ChangeSpec := { name := "plainPages", fn := fun _ => fun
  | [d1, d2] => { results := [.lit (.bool true)], args := [d1, d2] }
  | _ => none }
def plainPagesRow : OpenClaim := { program := "ytdhckgmkgaaahaa", sum := "cbfd48c8f638414b62f2eb5ce4850fa9856327669fa7b91d67a2e521b16e5ea0", func := "hodman/hodmanlaw17.PlainPages", spec := "plainPages", inPlace := ["slices.overlaps[hodman/api.Block]"], unfollowed := true, recurses := true, apart := false }
def PlainPagesSaid : Prop := plainPagesRow.holds Try.pinned (OpenSpec.ofChange plainPagesSpec)

/-- ITS FALSE NEIGHBOUR: 'it returns false'. Refute it at one input. -/
def plainPagesWrong : ChangeSpec := { name := "plainPages", fn := fun _ => fun
  | [d1, d2] => { results := [.lit (.bool false)], args := [d1, d2] }
  | _ => none }
def PlainPagesWrongFalsely : Prop := plainPagesRow.holds Try.pinned (OpenSpec.ofChange plainPagesWrong)

/-- 'hodmanlaw17.PlainLowest': WHATEVER THE INPUT: true; the input reads as it did. -/
def plainLowestSpec : ChangeSpec := { name := "plainLowest", fn := fun _ => fun
  | [d1, d2] => { results := [.lit (.bool true)], args := [d1, d2] }
  | _ => none }
def plainLowestRow : OpenClaim := { program := "ytdhckgmkgaaahaa", sum := "cbfd48c8f638414b62f2eb5ce4850fa9856327669fa7b91d67a2e521b16e5ea0", func := "hodman/hodmanlaw17.PlainLowest", spec := "plainLowest", inPlace := ["slices.overlaps[hodman/api.Block]"], unfollowed := true, recurses := true, apart := false }
def PlainLowestSaid : Prop := plainLowestRow.holds Try.pinned (OpenSpec.ofChange plainLowestSpec)

/-- ITS FALSE NEIGHBOUR: 'it returns false'. Refute it at one input. -/
def plainLowestWrong : ChangeSpec := { name := "plainLowest", fn := fun _ => fun
  | [d1, d2] => { results := [.lit (.bool false)], args := [d1, d2] }
  | _ => none }
def PlainLowestWrongFalsely : Prop := plainLowestRow.holds Try.pinned (OpenSpec.ofChange plainLowestWrong)

/-- 'hodmanlaw17.PlainKinds': WHATEVER THE INPUT: true; the input reads as it did. -/
def plainKindsSpec : ChangeSpec := { name := "plainKinds", fn := fun _ => fun
  | [d1, d2, d3, d4, d5] => { results := [.lit (.bool true)], args := [d1, d2, d3, d4, d5] }
  | _ => none }
def plainKindsRow : OpenClaim := { program := "ytdhckgmkgaaahaa", sum := "cbfd48c8f638414b62f2eb5ce4850fa9856327669fa7b91d67a2e521b16e5ea0", func := "hodman/hodmanlaw17.PlainKinds", spec := "plainKinds", inPlace := ["slices.overlaps[hodman/api.Block]"], unfollowed := true, recurses := true, apart := false }
def PlainKindsSaid : Prop := plainKindsRow.holds Try.pinned (OpenSpec.ofChange plainKindsSpec)

/-- ITS FALSE NEIGHBOUR: 'it returns false'. Refute it at one input. -/
def plainKindsWrong : ChangeSpec := { name := "plainKinds", fn := fun _ => fun
  | [d1, d2, d3, d4, d5] => { results := [.lit (.bool false)], args := [d1, d2, d3, d4, d5] }
  | _ => none }
def PlainKindsWrongFalsely : Prop := plainKindsRow.holds Try.pinned (OpenSpec.ofChange plainKindsWrong)

/- THE SECOND FORM. 'bulk': how many values and letters a reading holds, each counted each time it is reached (what is shared counts as often as it is met; a slice's spare places count too). A statement '..UptoSaid' is the law's where the arguments, and the package variables that the reading takes, are together of bulk at most 1048576: NARROWER than '..Said'. Prove '..Said' where nothing that the law and all that it calls make is longer than what came in: it says more and counts as full. Else prove '..UptoSaid'. A law counts once. -/
mutual
def uptoBulk {H : Type} : DataW H → Nat
  | .lit (.string bytes) => bytes.length + 1
  | .lit _ => 1
  | .nil => 1
  | .ptr d => uptoBulk d + 1
  | .slice elems spare => uptoBulkAll elems + uptoBulkAll spare + 1
  | .agg parts => uptoBulkAll parts + 1
  | .iface _ d => uptoBulk d + 1
  | .map entries => uptoBulkEntries entries + 1
  | .held _ => 1
def uptoBulkAll {H : Type} : List (DataW H) → Nat
  | [] => 0
  | d :: r => uptoBulk d + uptoBulkAll r
def uptoBulkEntries {H : Type} : List (Lit × DataW H) → Nat
  | [] => 0
  | x :: r => uptoBulkEntry x + uptoBulkEntries r
def uptoBulkEntry {H : Type} : Lit × DataW H → Nat
  | (.string bytes, d) => bytes.length + uptoBulk d + 1
  | (_, d) => uptoBulk d + 1
 end
def uptoSmall : (H : Type) → List (DataW H) → Bool := fun _ ds => decide (uptoBulkAll ds ≤ 1048576)
def OpenSpec.upto (s : _root_.Go.ChangeSpec) : _root_.Go.OpenSpec := { _root_.Go.OpenSpec.ofChange s with cond := some uptoSmall }

/-- 'hodmanlaw25.WireAll', WHERE WHAT IT READS IS OF BULK AT MOST 1048576: true; the input reads as it did. -/
def wireAllUptoRow : OpenClaim := { program := "ytdhckgmkgaaahaa", sum := "cbfd48c8f638414b62f2eb5ce4850fa9856327669fa7b91d67a2e521b16e5ea0", func := "hodman/hodmanlaw25.WireAll", spec := "wireAll", apart := false, narrowed := true }
def WireAllUptoSaid : Prop := wireAllUptoRow.holds Try.pinned (OpenSpec.upto wireAllSpec)

/-- 'hodmanlaw25.WireLong', WHERE WHAT IT READS IS OF BULK AT MOST 1048576: true; the input reads as it did. -/
def wireLongUptoRow : OpenClaim := { program := "ytdhckgmkgaaahaa", sum := "cbfd48c8f638414b62f2eb5ce4850fa9856327669fa7b91d67a2e521b16e5ea0", func := "hodman/hodmanlaw25.WireLong", spec := "wireLong", apart := false, narrowed := true }
def WireLongUptoSaid : Prop := wireLongUptoRow.holds Try.pinned (OpenSpec.upto wireLongSpec)

/-- 'hodmanlaw17.PlainAll', WHERE WHAT IT READS IS OF BULK AT MOST 1048576: true; the input reads as it did. -/
def plainAllUptoRow : OpenClaim := { program := "ytdhckgmkgaaahaa", sum := "cbfd48c8f638414b62f2eb5ce4850fa9856327669fa7b91d67a2e521b16e5ea0", func := "hodman/hodmanlaw17.PlainAll", spec := "plainAll", inPlace := ["slices.overlaps[hodman/api.Block]"], unfollowed := true, recurses := true, apart := false, narrowed := true }
def PlainAllUptoSaid : Prop := plainAllUptoRow.holds Try.pinned (OpenSpec.upto plainAllSpec)

/-- 'hodmanlaw17.PlainNew', WHERE WHAT IT READS IS OF BULK AT MOST 1048576: true; the input reads as it did. -/
def plainNewUptoRow : OpenClaim := { program := "ytdhckgmkgaaahaa", sum := "cbfd48c8f638414b62f2eb5ce4850fa9856327669fa7b91d67a2e521b16e5ea0", func := "hodman/hodmanlaw17.PlainNew", spec := "plainNew", inPlace := ["slices.overlaps[hodman/api.Block]"], unfollowed := true, recurses := true, apart := false, narrowed := true }
def PlainNewUptoSaid : Prop := plainNewUptoRow.holds Try.pinned (OpenSpec.upto plainNewSpec)

/-- 'hodmanlaw17.PlainApart', WHERE WHAT IT READS IS OF BULK AT MOST 1048576: true; the input reads as it did. -/
def plainApartUptoRow : OpenClaim := { program := "ytdhckgmkgaaahaa", sum := "cbfd48c8f638414b62f2eb5ce4850fa9856327669fa7b91d67a2e521b16e5ea0", func := "hodman/hodmanlaw17.PlainApart", spec := "plainApart", inPlace := ["slices.overlaps[hodman/api.Block]"], unfollowed := true, recurses := true, apart := false, narrowed := true }
def PlainApartUptoSaid : Prop := plainApartUptoRow.holds Try.pinned (OpenSpec.upto plainApartSpec)

/-- 'hodmanlaw17.PlainBytes', WHERE WHAT IT READS IS OF BULK AT MOST 1048576: true; the input reads as it did. -/
def plainBytesUptoRow : OpenClaim := { program := "ytdhckgmkgaaahaa", sum := "cbfd48c8f638414b62f2eb5ce4850fa9856327669fa7b91d67a2e521b16e5ea0", func := "hodman/hodmanlaw17.PlainBytes", spec := "plainBytes", inPlace := ["slices.overlaps[hodman/api.Block]"], unfollowed := true, recurses := true, apart := false, narrowed := true }
def PlainBytesUptoSaid : Prop := plainBytesUptoRow.holds Try.pinned (OpenSpec.upto plainBytesSpec)

/-- 'hodmanlaw17.PlainRefused', WHERE WHAT IT READS IS OF BULK AT MOST 1048576: true; the input reads as it did. -/
def plainRefusedUptoRow : OpenClaim := { program := "ytdhckgmkgaaahaa", sum := "cbfd48c8f638414b62f2eb5ce4850fa9856327669fa7b91d67a2e521b16e5ea0", func := "hodman/hodmanlaw17.PlainRefused", spec := "plainRefused", inPlace := ["slices.overlaps[hodman/api.Block]"], unfollowed := true, recurses := true, apart := false, narrowed := true }
def PlainRefusedUptoSaid : Prop := plainRefusedUptoRow.holds Try.pinned (OpenSpec.upto plainRefusedSpec)

/-- 'hodmanlaw17.PlainForms', WHERE WHAT IT READS IS OF BULK AT MOST 1048576: true; the input reads as it did. -/
def plainFormsUptoRow : OpenClaim := { program := "ytdhckgmkgaaahaa", sum := "cbfd48c8f638414b62f2eb5ce4850fa9856327669fa7b91d67a2e521b16e5ea0", func := "hodman/hodmanlaw17.PlainForms", spec := "plainForms", inPlace := ["slices.overlaps[hodman/api.Block]"], unfollowed := true, recurses := true, apart := false, narrowed := true }
def PlainFormsUptoSaid : Prop := plainFormsUptoRow.holds Try.pinned (OpenSpec.upto plainFormsSpec)

/-- 'hodmanlaw17.PlainPages', WHERE WHAT IT READS IS OF BULK AT MOST 1048576: true; the input reads as it did. -/
def plainPagesUptoRow : OpenClaim := { program := "ytdhckgmkgaaahaa", sum := "cbfd48c8f638414b62f2eb5ce4850fa9856327669fa7b91d67a2e521b16e5ea0", func := "hodman/hodmanlaw17.PlainPages", spec := "plainPages", inPlace := ["slices.overlaps[hodman/api.Block]"], unfollowed := true, recurses := true, apart := false, narrowed := true }
def PlainPagesUptoSaid : Prop := plainPagesUptoRow.holds Try.pinned (OpenSpec.upto plainPagesSpec)

/-- 'hodmanlaw17.PlainLowest', WHERE WHAT IT READS IS OF BULK AT MOST 1048576: true; the input reads as it did. -/
def plainLowestUptoRow : OpenClaim := { program := "ytdhckgmkgaaahaa", sum := "cbfd48c8f638414b62f2eb5ce4850fa9856327669fa7b91d67a2e521b16e5ea0", func := "hodman/hodmanlaw17.PlainLowest", spec := "plainLowest", inPlace := ["slices.overlaps[hodman/api.Block]"], unfollowed := true, recurses := true, apart := false, narrowed := true }
def PlainLowestUptoSaid : Prop := plainLowestUptoRow.holds Try.pinned (OpenSpec.upto plainLowestSpec)

/-- 'hodmanlaw17.PlainKinds', WHERE WHAT IT READS IS OF BULK AT MOST 1048576: true; the input reads as it did. -/
def plainKindsUptoRow : OpenClaim := { program := "ytdhckgmkgaaahaa", sum := "cbfd48c8f638414b62f2eb5ce4850fa9856327669fa7b91d67a2e521b16e5ea0", func := "hodman/hodmanlaw17.PlainKinds", spec := "plainKinds", inPlace := ["slices.overlaps[hodman/api.Block]"], unfollowed := true, recurses := true, apart := false, narrowed := true }
def PlainKindsUptoSaid : Prop := plainKindsUptoRow.holds Try.pinned (OpenSpec.upto plainKindsSpec)

end Rows
end Go.Proofs.Ytdhckgmkgaaahaa
