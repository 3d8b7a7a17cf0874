/-
  No cell of these rows narrows 'for every input' (looked for: loops, veiled, ifaces, maps, wideKeys, modest, calm, conditions, laid).
  DERIVED. THE GIVEN ROWS OF THIS SEAT. 9 by the template 'for every input the law returns true; each argument reads behind the call as it read before'; 0 by the template 'total and deterministic' (their statements: YtjcbblhmaghmpaaTotals.lean).
  GIVEN WITH THE SEED: the statements are not yours to turn. If you find one false, say at which input.
  Laid BY PROGRAM, IN A SANDBOX (cutbox-rows.mjs): the forced cells as the released guide's own fill.sh prints them over the translation ad29b69462fb7d25… (all of the seat's roots in one cut). By AI agents, Wed Nov 11 2026. No macro, syntax, notation, axiom, sorry.
-/
import Derived.Test.YtjcbblhmaghmpaaChecked
import GoSem.Claim
import GoSem.ClaimJoined
import GoSem.ClaimMapViews
import Derived.JoinedTies
import Derived.KernelRfl
namespace Go.Proofs.Ytjcbblhmaghmpaa
/- THE CELL 'sum', in the pinned program and in every row, IS THE sha256 OF THE DUMP (.gsa) THAT YtjcbblhmaghmpaaProg.lean LOADS. Nothing in Lean hashes anything: it is a label: what it is worth is what the hold of that sum in a sandbox is worth. -/
noncomputable def Try.pinned : Pinned := { name := "ytjcbblhmaghmpaa", sum := "ad29b69462fb7d2543cec4492ce750efee07da79da51ad9e33908062299a2eb6", checked := Try.checked }
namespace Rows
def none {H : Type} : Left H := { results := [], args := [] }

/-- 'hodmanlaw5.TreeAll': WHATEVER THE INPUT: true; the input reads as it did. -/
def treeAllSpec : ChangeSpec := { name := "treeAll", fn := fun _ => fun
  | [d1, d2, d3, d4, d5, d6] => { results := [.lit (.bool true)], args := [d1, d2, d3, d4, d5, d6] }
  | _ => none }
def treeAllRow : OpenClaim := { program := "ytjcbblhmaghmpaa", sum := "ad29b69462fb7d2543cec4492ce750efee07da79da51ad9e33908062299a2eb6", func := "hodman/hodmanlaw5.TreeAll", spec := "treeAll", unfollowed := true, recurses := true, apart := false }
def TreeAllSaid : Prop := treeAllRow.holds Try.pinned (OpenSpec.ofChange treeAllSpec)

/-- ITS FALSE NEIGHBOUR: 'it returns false'. Refute it at one input. -/
def treeAllWrong : ChangeSpec := { name := "treeAll", fn := fun _ => fun
  | [d1, d2, d3, d4, d5, d6] => { results := [.lit (.bool false)], args := [d1, d2, d3, d4, d5, d6] }
  | _ => none }
def TreeAllWrongFalsely : Prop := treeAllRow.holds Try.pinned (OpenSpec.ofChange treeAllWrong)

/-- 'hodmanlaw5.TreeGlance': WHATEVER THE INPUT: true; the input reads as it did. -/
def treeGlanceSpec : ChangeSpec := { name := "treeGlance", fn := fun _ => fun
  | [d1, d2, d3, d4, d5] => { results := [.lit (.bool true)], args := [d1, d2, d3, d4, d5] }
  | _ => none }
def treeGlanceRow : OpenClaim := { program := "ytjcbblhmaghmpaa", sum := "ad29b69462fb7d2543cec4492ce750efee07da79da51ad9e33908062299a2eb6", func := "hodman/hodmanlaw5.TreeGlance", spec := "treeGlance", unfollowed := true, recurses := true, apart := false }
def TreeGlanceSaid : Prop := treeGlanceRow.holds Try.pinned (OpenSpec.ofChange treeGlanceSpec)

/-- ITS FALSE NEIGHBOUR: 'it returns false'. Refute it at one input. -/
def treeGlanceWrong : ChangeSpec := { name := "treeGlance", fn := fun _ => fun
  | [d1, d2, d3, d4, d5] => { results := [.lit (.bool false)], args := [d1, d2, d3, d4, d5] }
  | _ => none }
def TreeGlanceWrongFalsely : Prop := treeGlanceRow.holds Try.pinned (OpenSpec.ofChange treeGlanceWrong)

/-- 'hodmanlaw5.TreeForms': WHATEVER THE INPUT: true; the input reads as it did. -/
def treeFormsSpec : ChangeSpec := { name := "treeForms", fn := fun _ => fun
  | [] => { results := [.lit (.bool true)], args := [] }
  | _ => none }
def treeFormsRow : OpenClaim := { program := "ytjcbblhmaghmpaa", sum := "ad29b69462fb7d2543cec4492ce750efee07da79da51ad9e33908062299a2eb6", func := "hodman/hodmanlaw5.TreeForms", spec := "treeForms", unfollowed := true, recurses := true, apart := false }
def TreeFormsSaid : Prop := treeFormsRow.holds Try.pinned (OpenSpec.ofChange treeFormsSpec)

/-- ITS FALSE NEIGHBOUR: 'it returns false'. Refute it at one input. -/
def treeFormsWrong : ChangeSpec := { name := "treeForms", fn := fun _ => fun
  | [] => { results := [.lit (.bool false)], args := [] }
  | _ => none }
def TreeFormsWrongFalsely : Prop := treeFormsRow.holds Try.pinned (OpenSpec.ofChange treeFormsWrong)

/-- 'hodmanlaw5.TreeRow': WHATEVER THE INPUT: true; the input reads as it did. -/
def treeRowSpec : ChangeSpec := { name := "treeRow", fn := fun _ => fun
  | [d1, d2] => { results := [.lit (.bool true)], args := [d1, d2] }
  | _ => none }
def treeRowRow : OpenClaim := { program := "ytjcbblhmaghmpaa", sum := "ad29b69462fb7d2543cec4492ce750efee07da79da51ad9e33908062299a2eb6", func := "hodman/hodmanlaw5.TreeRow", spec := "treeRow", unfollowed := true, recurses := true, apart := false }
def TreeRowSaid : Prop := treeRowRow.holds Try.pinned (OpenSpec.ofChange treeRowSpec)

/-- ITS FALSE NEIGHBOUR: 'it returns false'. Refute it at one input. -/
def treeRowWrong : ChangeSpec := { name := "treeRow", fn := fun _ => fun
  | [d1, d2] => { results := [.lit (.bool false)], args := [d1, d2] }
  | _ => none }
def TreeRowWrongFalsely : Prop := treeRowRow.holds Try.pinned (OpenSpec.ofChange treeRowWrong)

/-- 'hodmanlaw9.SlotsAll': WHATEVER THE INPUT: true; the input reads as it did. -/
def slotsAllSpec : ChangeSpec := { name := "slotsAll", fn := fun _ => fun
  | [d1, d2, d3, d4, d5, d6, d7] => { results := [.lit (.bool true)], args := [d1, d2, d3, d4, d5, d6, d7] }
  | _ => none }
def slotsAllRow : OpenClaim := { program := "ytjcbblhmaghmpaa", sum := "ad29b69462fb7d2543cec4492ce750efee07da79da51ad9e33908062299a2eb6", func := "hodman/hodmanlaw9.SlotsAll", spec := "slotsAll", unfollowed := true, recurses := true, apart := false }
def SlotsAllSaid : Prop := slotsAllRow.holds Try.pinned (OpenSpec.ofChange slotsAllSpec)

/-- ITS FALSE NEIGHBOUR: 'it returns false'. Refute it at one input. -/
def slotsAllWrong : ChangeSpec := { name := "slotsAll", fn := fun _ => fun
  | [d1, d2, d3, d4, d5, d6, d7] => { results := [.lit (.bool false)], args := [d1, d2, d3, d4, d5, d6, d7] }
  | _ => none }
def SlotsAllWrongFalsely : Prop := slotsAllRow.holds Try.pinned (OpenSpec.ofChange slotsAllWrong)

/-- 'hodmanlaw9.SlotsMay': WHATEVER THE INPUT: true; the input reads as it did. -/
def slotsMaySpec : ChangeSpec := { name := "slotsMay", fn := fun _ => fun
  | [d1, d2, d3, d4, d5] => { results := [.lit (.bool true)], args := [d1, d2, d3, d4, d5] }
  | _ => none }
def slotsMayRow : OpenClaim := { program := "ytjcbblhmaghmpaa", sum := "ad29b69462fb7d2543cec4492ce750efee07da79da51ad9e33908062299a2eb6", func := "hodman/hodmanlaw9.SlotsMay", spec := "slotsMay", unfollowed := true, recurses := true, apart := false }
def SlotsMaySaid : Prop := slotsMayRow.holds Try.pinned (OpenSpec.ofChange slotsMaySpec)

/-- ITS FALSE NEIGHBOUR: 'it returns false'. Refute it at one input. -/
def slotsMayWrong : ChangeSpec := { name := "slotsMay", fn := fun _ => fun
  | [d1, d2, d3, d4, d5] => { results := [.lit (.bool false)], args := [d1, d2, d3, d4, d5] }
  | _ => none }
def SlotsMayWrongFalsely : Prop := slotsMayRow.holds Try.pinned (OpenSpec.ofChange slotsMayWrong)

/-- 'hodmanlaw9.SlotsFree': WHATEVER THE INPUT: true; the input reads as it did. -/
def slotsFreeSpec : ChangeSpec := { name := "slotsFree", fn := fun _ => fun
  | [d1, d2] => { results := [.lit (.bool true)], args := [d1, d2] }
  | _ => none }
def slotsFreeRow : OpenClaim := { program := "ytjcbblhmaghmpaa", sum := "ad29b69462fb7d2543cec4492ce750efee07da79da51ad9e33908062299a2eb6", func := "hodman/hodmanlaw9.SlotsFree", spec := "slotsFree", unfollowed := true, recurses := true, apart := false }
def SlotsFreeSaid : Prop := slotsFreeRow.holds Try.pinned (OpenSpec.ofChange slotsFreeSpec)

/-- ITS FALSE NEIGHBOUR: 'it returns false'. Refute it at one input. -/
def slotsFreeWrong : ChangeSpec := { name := "slotsFree", fn := fun _ => fun
  | [d1, d2] => { results := [.lit (.bool false)], args := [d1, d2] }
  | _ => none }
def SlotsFreeWrongFalsely : Prop := slotsFreeRow.holds Try.pinned (OpenSpec.ofChange slotsFreeWrong)

/-- 'hodmanlaw9.SlotsForms': WHATEVER THE INPUT: true; the input reads as it did. -/
def slotsFormsSpec : ChangeSpec := { name := "slotsForms", fn := fun _ => fun
  | [] => { results := [.lit (.bool true)], args := [] }
  | _ => none }
def slotsFormsRow : OpenClaim := { program := "ytjcbblhmaghmpaa", sum := "ad29b69462fb7d2543cec4492ce750efee07da79da51ad9e33908062299a2eb6", func := "hodman/hodmanlaw9.SlotsForms", spec := "slotsForms", unfollowed := true, recurses := true, apart := false }
def SlotsFormsSaid : Prop := slotsFormsRow.holds Try.pinned (OpenSpec.ofChange slotsFormsSpec)

/-- ITS FALSE NEIGHBOUR: 'it returns false'. Refute it at one input. -/
def slotsFormsWrong : ChangeSpec := { name := "slotsForms", fn := fun _ => fun
  | [] => { results := [.lit (.bool false)], args := [] }
  | _ => none }
def SlotsFormsWrongFalsely : Prop := slotsFormsRow.holds Try.pinned (OpenSpec.ofChange slotsFormsWrong)

/-- 'hodmanlaw9.SlotsLess': WHATEVER THE INPUT: true; the input reads as it did. -/
def slotsLessSpec : ChangeSpec := { name := "slotsLess", fn := fun _ => fun
  | [d] => { results := [.lit (.bool true)], args := [d] }
  | _ => none }
def slotsLessRow : OpenClaim := { program := "ytjcbblhmaghmpaa", sum := "ad29b69462fb7d2543cec4492ce750efee07da79da51ad9e33908062299a2eb6", func := "hodman/hodmanlaw9.SlotsLess", spec := "slotsLess", unfollowed := true, recurses := true, apart := false }
def SlotsLessSaid : Prop := slotsLessRow.holds Try.pinned (OpenSpec.ofChange slotsLessSpec)

/-- ITS FALSE NEIGHBOUR: 'it returns false'. Refute it at one input. -/
def slotsLessWrong : ChangeSpec := { name := "slotsLess", fn := fun _ => fun
  | [d] => { results := [.lit (.bool false)], args := [d] }
  | _ => none }
def SlotsLessWrongFalsely : Prop := slotsLessRow.holds Try.pinned (OpenSpec.ofChange slotsLessWrong)

/- THE SECOND FORM. 'bulk': how many values and letters a reading holds, each counted each time it is reached (what is shared counts as often as it is met; a slice's spare places count too). A statement '..UptoSaid' is the law's where the arguments, and the package variables that the reading takes, are together of bulk at most 1048576: NARROWER than '..Said'. Prove '..Said' where nothing that the law and all that it calls make is longer than what came in: it says more and counts as full. Else prove '..UptoSaid'. A law counts once. -/
mutual
def uptoBulk {H : Type} : DataW H → Nat
  | .lit (.string bytes) => bytes.length + 1
  | .lit _ => 1
  | .nil => 1
  | .ptr d => uptoBulk d + 1
  | .slice elems spare => uptoBulkAll elems + uptoBulkAll spare + 1
  | .agg parts => uptoBulkAll parts + 1
  | .iface _ d => uptoBulk d + 1
  | .map entries => uptoBulkEntries entries + 1
  | .held _ => 1
def uptoBulkAll {H : Type} : List (DataW H) → Nat
  | [] => 0
  | d :: r => uptoBulk d + uptoBulkAll r
def uptoBulkEntries {H : Type} : List (Lit × DataW H) → Nat
  | [] => 0
  | x :: r => uptoBulkEntry x + uptoBulkEntries r
def uptoBulkEntry {H : Type} : Lit × DataW H → Nat
  | (.string bytes, d) => bytes.length + uptoBulk d + 1
  | (_, d) => uptoBulk d + 1
 end
def uptoSmall : (H : Type) → List (DataW H) → Bool := fun _ ds => decide (uptoBulkAll ds ≤ 1048576)
def OpenSpec.upto (s : _root_.Go.ChangeSpec) : _root_.Go.OpenSpec := { _root_.Go.OpenSpec.ofChange s with cond := some uptoSmall }

/-- 'hodmanlaw5.TreeAll', WHERE WHAT IT READS IS OF BULK AT MOST 1048576: true; the input reads as it did. -/
def treeAllUptoRow : OpenClaim := { program := "ytjcbblhmaghmpaa", sum := "ad29b69462fb7d2543cec4492ce750efee07da79da51ad9e33908062299a2eb6", func := "hodman/hodmanlaw5.TreeAll", spec := "treeAll", unfollowed := true, recurses := true, apart := false, narrowed := true }
def TreeAllUptoSaid : Prop := treeAllUptoRow.holds Try.pinned (OpenSpec.upto treeAllSpec)

/-- 'hodmanlaw5.TreeGlance', WHERE WHAT IT READS IS OF BULK AT MOST 1048576: true; the input reads as it did. -/
def treeGlanceUptoRow : OpenClaim := { program := "ytjcbblhmaghmpaa", sum := "ad29b69462fb7d2543cec4492ce750efee07da79da51ad9e33908062299a2eb6", func := "hodman/hodmanlaw5.TreeGlance", spec := "treeGlance", unfollowed := true, recurses := true, apart := false, narrowed := true }
def TreeGlanceUptoSaid : Prop := treeGlanceUptoRow.holds Try.pinned (OpenSpec.upto treeGlanceSpec)

/-- 'hodmanlaw5.TreeForms', WHERE WHAT IT READS IS OF BULK AT MOST 1048576: true; the input reads as it did. -/
def treeFormsUptoRow : OpenClaim := { program := "ytjcbblhmaghmpaa", sum := "ad29b69462fb7d2543cec4492ce750efee07da79da51ad9e33908062299a2eb6", func := "hodman/hodmanlaw5.TreeForms", spec := "treeForms", unfollowed := true, recurses := true, apart := false, narrowed := true }
def TreeFormsUptoSaid : Prop := treeFormsUptoRow.holds Try.pinned (OpenSpec.upto treeFormsSpec)

/-- 'hodmanlaw5.TreeRow', WHERE WHAT IT READS IS OF BULK AT MOST 1048576: true; the input reads as it did. -/
def treeRowUptoRow : OpenClaim := { program := "ytjcbblhmaghmpaa", sum := "ad29b69462fb7d2543cec4492ce750efee07da79da51ad9e33908062299a2eb6", func := "hodman/hodmanlaw5.TreeRow", spec := "treeRow", unfollowed := true, recurses := true, apart := false, narrowed := true }
def TreeRowUptoSaid : Prop := treeRowUptoRow.holds Try.pinned (OpenSpec.upto treeRowSpec)

/-- 'hodmanlaw9.SlotsAll', WHERE WHAT IT READS IS OF BULK AT MOST 1048576: true; the input reads as it did. -/
def slotsAllUptoRow : OpenClaim := { program := "ytjcbblhmaghmpaa", sum := "ad29b69462fb7d2543cec4492ce750efee07da79da51ad9e33908062299a2eb6", func := "hodman/hodmanlaw9.SlotsAll", spec := "slotsAll", unfollowed := true, recurses := true, apart := false, narrowed := true }
def SlotsAllUptoSaid : Prop := slotsAllUptoRow.holds Try.pinned (OpenSpec.upto slotsAllSpec)

/-- 'hodmanlaw9.SlotsMay', WHERE WHAT IT READS IS OF BULK AT MOST 1048576: true; the input reads as it did. -/
def slotsMayUptoRow : OpenClaim := { program := "ytjcbblhmaghmpaa", sum := "ad29b69462fb7d2543cec4492ce750efee07da79da51ad9e33908062299a2eb6", func := "hodman/hodmanlaw9.SlotsMay", spec := "slotsMay", unfollowed := true, recurses := true, apart := false, narrowed := true }
def SlotsMayUptoSaid : Prop := slotsMayUptoRow.holds Try.pinned (OpenSpec.upto slotsMaySpec)

/-- 'hodmanlaw9.SlotsFree', WHERE WHAT IT READS IS OF BULK AT MOST 1048576: true; the input reads as it did. -/
def slotsFreeUptoRow : OpenClaim := { program := "ytjcbblhmaghmpaa", sum := "ad29b69462fb7d2543cec4492ce750efee07da79da51ad9e33908062299a2eb6", func := "hodman/hodmanlaw9.SlotsFree", spec := "slotsFree", unfollowed := true, recurses := true, apart := false, narrowed := true }
def SlotsFreeUptoSaid : Prop := slotsFreeUptoRow.holds Try.pinned (OpenSpec.upto slotsFreeSpec)

/-- 'hodmanlaw9.SlotsForms', WHERE WHAT IT READS IS OF BULK AT MOST 1048576: true; the input reads as it did. -/
def slotsFormsUptoRow : OpenClaim := { program := "ytjcbblhmaghmpaa", sum := "ad29b69462fb7d2543cec4492ce750efee07da79da51ad9e33908062299a2eb6", func := "hodman/hodmanlaw9.SlotsForms", spec := "slotsForms", unfollowed := true, recurses := true, apart := false, narrowed := true }
def SlotsFormsUptoSaid : Prop := slotsFormsUptoRow.holds Try.pinned (OpenSpec.upto slotsFormsSpec)

/-- 'hodmanlaw9.SlotsLess', WHERE WHAT IT READS IS OF BULK AT MOST 1048576: true; the input reads as it did. -/
def slotsLessUptoRow : OpenClaim := { program := "ytjcbblhmaghmpaa", sum := "ad29b69462fb7d2543cec4492ce750efee07da79da51ad9e33908062299a2eb6", func := "hodman/hodmanlaw9.SlotsLess", spec := "slotsLess", unfollowed := true, recurses := true, apart := false, narrowed := true }
def SlotsLessUptoSaid : Prop := slotsLessUptoRow.holds Try.pinned (OpenSpec.upto slotsLessSpec)

end Rows
end Go.Proofs.Ytjcbblhmaghmpaa
