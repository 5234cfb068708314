/-
  No cell of these rows narrows 'for every input' (looked for: loops, veiled, ifaces, maps, wideKeys, modest, calm, conditions, laid).
  DERIVED. THE GIVEN ROWS OF THIS SEAT. 11 by the template 'for every input the law returns true; each argument reads behind the call as it read before'; 0 by the template 'total and deterministic' (their statements: YtkmbgfhkdopigaaTotals.lean).
  GIVEN WITH THE SEED: the statements are not yours to turn. If you find one false, say at which input.
  Laid BY PROGRAM, IN A SANDBOX (cutbox-rows.mjs): the forced cells as the released guide's own fill.sh prints them over the translation 79fd8f304606543a… (all of the seat's roots in one cut). By AI agents, Wed Nov 11 2026. No macro, syntax, notation, axiom, sorry.
-/
import Derived.Test.YtkmbgfhkdopigaaChecked
import GoSem.Claim
import GoSem.ClaimJoined
import GoSem.ClaimMapViews
import Derived.JoinedTies
import Derived.KernelRfl
namespace Go.Proofs.Ytkmbgfhkdopigaa
/- THE CELL 'sum', in the pinned program and in every row, IS THE sha256 OF THE DUMP (.gsa) THAT YtkmbgfhkdopigaaProg.lean LOADS. Nothing in Lean hashes anything: it is a label: what it is worth is what the hold of that sum in a sandbox is worth. -/
noncomputable def Try.pinned : Pinned := { name := "ytkmbgfhkdopigaa", sum := "79fd8f304606543afcdde067689404436a790ce183d05a63e83b1495b7f44383", checked := Try.checked }
namespace Rows
def none {H : Type} : Left H := { results := [], args := [] }

/-- 'thicketlaw06.OrderNarrows': WHATEVER THE INPUT: true; the input reads as it did. -/
def orderNarrowsSpec : ChangeSpec := { name := "orderNarrows", fn := fun _ => fun
  | [d] => { results := [.lit (.bool true)], args := [d] }
  | _ => none }
def orderNarrowsRow : OpenClaim := { program := "ytkmbgfhkdopigaa", sum := "79fd8f304606543afcdde067689404436a790ce183d05a63e83b1495b7f44383", func := "thicket/thicketlaw06.OrderNarrows", spec := "orderNarrows", inPlace := ["math.Float64frombits", "math.Float32bits", "math.Float32frombits", "math.Float64bits"], apart := false }
def OrderNarrowsSaid : Prop := orderNarrowsRow.holds Try.pinned (OpenSpec.ofChange orderNarrowsSpec)

/-- ITS FALSE NEIGHBOUR: 'it returns false'. Refute it at one input. -/
def orderNarrowsWrong : ChangeSpec := { name := "orderNarrows", fn := fun _ => fun
  | [d] => { results := [.lit (.bool false)], args := [d] }
  | _ => none }
def OrderNarrowsWrongFalsely : Prop := orderNarrowsRow.holds Try.pinned (OpenSpec.ofChange orderNarrowsWrong)

/-- 'thicketlaw06.OrderGrid': WHATEVER THE INPUT: true; the input reads as it did. -/
def orderGridSpec : ChangeSpec := { name := "orderGrid", fn := fun _ => fun
  | [d1, d2] => { results := [.lit (.bool true)], args := [d1, d2] }
  | _ => none }
def orderGridRow : OpenClaim := { program := "ytkmbgfhkdopigaa", sum := "79fd8f304606543afcdde067689404436a790ce183d05a63e83b1495b7f44383", func := "thicket/thicketlaw06.OrderGrid", spec := "orderGrid", inPlace := ["math.Float64bits", "math.Float64frombits", "math.Float32frombits", "math.Float32bits"], apart := false }
def OrderGridSaid : Prop := orderGridRow.holds Try.pinned (OpenSpec.ofChange orderGridSpec)

/-- ITS FALSE NEIGHBOUR: 'it returns false'. Refute it at one input. -/
def orderGridWrong : ChangeSpec := { name := "orderGrid", fn := fun _ => fun
  | [d1, d2] => { results := [.lit (.bool false)], args := [d1, d2] }
  | _ => none }
def OrderGridWrongFalsely : Prop := orderGridRow.holds Try.pinned (OpenSpec.ofChange orderGridWrong)

/-- 'thicketlaw14.ListsOf': WHATEVER THE INPUT: true; the input reads as it did. -/
def listsOfSpec : ChangeSpec := { name := "listsOf", fn := fun _ => fun
  | [d1, d2] => { results := [.lit (.bool true)], args := [d1, d2] }
  | _ => none }
def listsOfRow : OpenClaim := { program := "ytkmbgfhkdopigaa", sum := "79fd8f304606543afcdde067689404436a790ce183d05a63e83b1495b7f44383", func := "thicket/thicketlaw14.ListsOf", spec := "listsOf", inPlace := ["math.Float64bits"], unfollowed := true, recurses := true, apart := false }
def ListsOfSaid : Prop := listsOfRow.holds Try.pinned (OpenSpec.ofChange listsOfSpec)

/-- ITS FALSE NEIGHBOUR: 'it returns false'. Refute it at one input. -/
def listsOfWrong : ChangeSpec := { name := "listsOf", fn := fun _ => fun
  | [d1, d2] => { results := [.lit (.bool false)], args := [d1, d2] }
  | _ => none }
def ListsOfWrongFalsely : Prop := listsOfRow.holds Try.pinned (OpenSpec.ofChange listsOfWrong)

/-- 'thicketlaw14.ListsParts': WHATEVER THE INPUT: true; the input reads as it did. -/
def listsPartsSpec : ChangeSpec := { name := "listsParts", fn := fun _ => fun
  | [d1, d2, d3] => { results := [.lit (.bool true)], args := [d1, d2, d3] }
  | _ => none }
def listsPartsRow : OpenClaim := { program := "ytkmbgfhkdopigaa", sum := "79fd8f304606543afcdde067689404436a790ce183d05a63e83b1495b7f44383", func := "thicket/thicketlaw14.ListsParts", spec := "listsParts", inPlace := ["math.Float64bits"], unfollowed := true, recurses := true, apart := false }
def ListsPartsSaid : Prop := listsPartsRow.holds Try.pinned (OpenSpec.ofChange listsPartsSpec)

/-- ITS FALSE NEIGHBOUR: 'it returns false'. Refute it at one input. -/
def listsPartsWrong : ChangeSpec := { name := "listsParts", fn := fun _ => fun
  | [d1, d2, d3] => { results := [.lit (.bool false)], args := [d1, d2, d3] }
  | _ => none }
def ListsPartsWrongFalsely : Prop := listsPartsRow.holds Try.pinned (OpenSpec.ofChange listsPartsWrong)

/-- 'thicketlaw14.ListsOwn': WHATEVER THE INPUT: true; the input reads as it did. -/
def listsOwnSpec : ChangeSpec := { name := "listsOwn", fn := fun _ => fun
  | [d1, d2, d3] => { results := [.lit (.bool true)], args := [d1, d2, d3] }
  | _ => none }
def listsOwnRow : OpenClaim := { program := "ytkmbgfhkdopigaa", sum := "79fd8f304606543afcdde067689404436a790ce183d05a63e83b1495b7f44383", func := "thicket/thicketlaw14.ListsOwn", spec := "listsOwn", inPlace := ["math.Float64bits", "math.Float64frombits"], unfollowed := true, recurses := true, apart := false }
def ListsOwnSaid : Prop := listsOwnRow.holds Try.pinned (OpenSpec.ofChange listsOwnSpec)

/-- ITS FALSE NEIGHBOUR: 'it returns false'. Refute it at one input. -/
def listsOwnWrong : ChangeSpec := { name := "listsOwn", fn := fun _ => fun
  | [d1, d2, d3] => { results := [.lit (.bool false)], args := [d1, d2, d3] }
  | _ => none }
def ListsOwnWrongFalsely : Prop := listsOwnRow.holds Try.pinned (OpenSpec.ofChange listsOwnWrong)

/-- 'thicketlaw14.ListsFalse': WHATEVER THE INPUT: true; the input reads as it did. -/
def listsFalseSpec : ChangeSpec := { name := "listsFalse", fn := fun _ => fun
  | [d1, d2] => { results := [.lit (.bool true)], args := [d1, d2] }
  | _ => none }
def listsFalseRow : OpenClaim := { program := "ytkmbgfhkdopigaa", sum := "79fd8f304606543afcdde067689404436a790ce183d05a63e83b1495b7f44383", func := "thicket/thicketlaw14.ListsFalse", spec := "listsFalse", inPlace := ["math.Float64bits"], unfollowed := true, recurses := true, apart := false }
def ListsFalseSaid : Prop := listsFalseRow.holds Try.pinned (OpenSpec.ofChange listsFalseSpec)

/-- ITS FALSE NEIGHBOUR: 'it returns false'. Refute it at one input. -/
def listsFalseWrong : ChangeSpec := { name := "listsFalse", fn := fun _ => fun
  | [d1, d2] => { results := [.lit (.bool false)], args := [d1, d2] }
  | _ => none }
def ListsFalseWrongFalsely : Prop := listsFalseRow.holds Try.pinned (OpenSpec.ofChange listsFalseWrong)

/-- 'thicketlaw06.OrderLists': WHATEVER THE INPUT: true; the input reads as it did. -/
def orderListsSpec : ChangeSpec := { name := "orderLists", fn := fun _ => fun
  | [d1, d2] => { results := [.lit (.bool true)], args := [d1, d2] }
  | _ => none }
def orderListsRow : OpenClaim := { program := "ytkmbgfhkdopigaa", sum := "79fd8f304606543afcdde067689404436a790ce183d05a63e83b1495b7f44383", func := "thicket/thicketlaw06.OrderLists", spec := "orderLists", inPlace := ["math.Float64frombits", "math.Float64bits"], unfollowed := true, recurses := true, apart := false }
def OrderListsSaid : Prop := orderListsRow.holds Try.pinned (OpenSpec.ofChange orderListsSpec)

/-- ITS FALSE NEIGHBOUR: 'it returns false'. Refute it at one input. -/
def orderListsWrong : ChangeSpec := { name := "orderLists", fn := fun _ => fun
  | [d1, d2] => { results := [.lit (.bool false)], args := [d1, d2] }
  | _ => none }
def OrderListsWrongFalsely : Prop := orderListsRow.holds Try.pinned (OpenSpec.ofChange orderListsWrong)

/-- 'thicketlaw06.OrderSorts': WHATEVER THE INPUT: true; the input reads as it did. -/
def orderSortsSpec : ChangeSpec := { name := "orderSorts", fn := fun _ => fun
  | [d1, d2] => { results := [.lit (.bool true)], args := [d1, d2] }
  | _ => none }
def orderSortsRow : OpenClaim := { program := "ytkmbgfhkdopigaa", sum := "79fd8f304606543afcdde067689404436a790ce183d05a63e83b1495b7f44383", func := "thicket/thicketlaw06.OrderSorts", spec := "orderSorts", inPlace := ["math.Float64bits", "math.Float64frombits"], unfollowed := true, recurses := true, apart := false }
def OrderSortsSaid : Prop := orderSortsRow.holds Try.pinned (OpenSpec.ofChange orderSortsSpec)

/-- ITS FALSE NEIGHBOUR: 'it returns false'. Refute it at one input. -/
def orderSortsWrong : ChangeSpec := { name := "orderSorts", fn := fun _ => fun
  | [d1, d2] => { results := [.lit (.bool false)], args := [d1, d2] }
  | _ => none }
def OrderSortsWrongFalsely : Prop := orderSortsRow.holds Try.pinned (OpenSpec.ofChange orderSortsWrong)

/-- 'thicketlaw06.OrderOwn': WHATEVER THE INPUT: true; the input reads as it did. -/
def orderOwnSpec : ChangeSpec := { name := "orderOwn", fn := fun _ => fun
  | [d] => { results := [.lit (.bool true)], args := [d] }
  | _ => none }
def orderOwnRow : OpenClaim := { program := "ytkmbgfhkdopigaa", sum := "79fd8f304606543afcdde067689404436a790ce183d05a63e83b1495b7f44383", func := "thicket/thicketlaw06.OrderOwn", spec := "orderOwn", inPlace := ["math.Float64bits", "math.Float64frombits"], unfollowed := true, recurses := true, apart := false }
def OrderOwnSaid : Prop := orderOwnRow.holds Try.pinned (OpenSpec.ofChange orderOwnSpec)

/-- ITS FALSE NEIGHBOUR: 'it returns false'. Refute it at one input. -/
def orderOwnWrong : ChangeSpec := { name := "orderOwn", fn := fun _ => fun
  | [d] => { results := [.lit (.bool false)], args := [d] }
  | _ => none }
def OrderOwnWrongFalsely : Prop := orderOwnRow.holds Try.pinned (OpenSpec.ofChange orderOwnWrong)

/-- 'thicketlaw22.SlimDone': WHATEVER THE INPUT: true; the input reads as it did. -/
def slimDoneSpec : ChangeSpec := { name := "slimDone", fn := fun _ => fun
  | [d] => { results := [.lit (.bool true)], args := [d] }
  | _ => none }
def slimDoneRow : OpenClaim := { program := "ytkmbgfhkdopigaa", sum := "79fd8f304606543afcdde067689404436a790ce183d05a63e83b1495b7f44383", func := "thicket/thicketlaw22.SlimDone", spec := "slimDone", inPlace := ["math.Float64bits", "math.Float64frombits"], unfollowed := true, recurses := true, apart := false }
def SlimDoneSaid : Prop := slimDoneRow.holds Try.pinned (OpenSpec.ofChange slimDoneSpec)

/-- ITS FALSE NEIGHBOUR: 'it returns false'. Refute it at one input. -/
def slimDoneWrong : ChangeSpec := { name := "slimDone", fn := fun _ => fun
  | [d] => { results := [.lit (.bool false)], args := [d] }
  | _ => none }
def SlimDoneWrongFalsely : Prop := slimDoneRow.holds Try.pinned (OpenSpec.ofChange slimDoneWrong)

/-- 'thicketlaw22.SlimTrees': WHATEVER THE INPUT: true; the input reads as it did. -/
def slimTreesSpec : ChangeSpec := { name := "slimTrees", fn := fun _ => fun
  | [d1, d2, d3] => { results := [.lit (.bool true)], args := [d1, d2, d3] }
  | _ => none }
def slimTreesRow : OpenClaim := { program := "ytkmbgfhkdopigaa", sum := "79fd8f304606543afcdde067689404436a790ce183d05a63e83b1495b7f44383", func := "thicket/thicketlaw22.SlimTrees", spec := "slimTrees", inPlace := ["math.Float64bits", "math.Float64frombits"], unfollowed := true, recurses := true, apart := false }
def SlimTreesSaid : Prop := slimTreesRow.holds Try.pinned (OpenSpec.ofChange slimTreesSpec)

/-- ITS FALSE NEIGHBOUR: 'it returns false'. Refute it at one input. -/
def slimTreesWrong : ChangeSpec := { name := "slimTrees", fn := fun _ => fun
  | [d1, d2, d3] => { results := [.lit (.bool false)], args := [d1, d2, d3] }
  | _ => none }
def SlimTreesWrongFalsely : Prop := slimTreesRow.holds Try.pinned (OpenSpec.ofChange slimTreesWrong)

/- THE SECOND FORM. 'bulk': how many values and letters a reading holds, each counted each time it is reached (what is shared counts as often as it is met; a slice's spare places count too). A statement '..UptoSaid' is the law's where the arguments, and the package variables that the reading takes, are together of bulk at most 1048576: NARROWER than '..Said'. Prove '..Said' where nothing that the law and all that it calls make is longer than what came in: it says more and counts as full. Else prove '..UptoSaid'. A law counts once. -/
mutual
def uptoBulk {H : Type} : DataW H → Nat
  | .lit (.string bytes) => bytes.length + 1
  | .lit _ => 1
  | .nil => 1
  | .ptr d => uptoBulk d + 1
  | .slice elems spare => uptoBulkAll elems + uptoBulkAll spare + 1
  | .agg parts => uptoBulkAll parts + 1
  | .iface _ d => uptoBulk d + 1
  | .map entries => uptoBulkEntries entries + 1
  | .held _ => 1
def uptoBulkAll {H : Type} : List (DataW H) → Nat
  | [] => 0
  | d :: r => uptoBulk d + uptoBulkAll r
def uptoBulkEntries {H : Type} : List (Lit × DataW H) → Nat
  | [] => 0
  | x :: r => uptoBulkEntry x + uptoBulkEntries r
def uptoBulkEntry {H : Type} : Lit × DataW H → Nat
  | (.string bytes, d) => bytes.length + uptoBulk d + 1
  | (_, d) => uptoBulk d + 1
 end
def uptoSmall : (H : Type) → List (DataW H) → Bool := fun _ ds => decide (uptoBulkAll ds ≤ 1048576)
def OpenSpec.upto (s : _root_.Go.ChangeSpec) : _root_.Go.OpenSpec := { _root_.Go.OpenSpec.ofChange s with cond := some uptoSmall }

/-- 'thicketlaw06.OrderNarrows', WHERE WHAT IT READS IS OF BULK AT MOST 1048576: true; the input reads as it did. -/
def orderNarrowsUptoRow : OpenClaim := { program := "ytkmbgfhkdopigaa", sum := "79fd8f304606543afcdde067689404436a790ce183d05a63e83b1495b7f44383", func := "thicket/thicketlaw06.OrderNarrows", spec := "orderNarrows", inPlace := ["math.Float64frombits", "math.Float32bits", "math.Float32frombits", "math.Float64bits"], apart := false, narrowed := true }
def OrderNarrowsUptoSaid : Prop := orderNarrowsUptoRow.holds Try.pinned (OpenSpec.upto orderNarrowsSpec)

/-- 'thicketlaw06.OrderGrid', WHERE WHAT IT READS IS OF BULK AT MOST 1048576: true; the input reads as it did. -/
def orderGridUptoRow : OpenClaim := { program := "ytkmbgfhkdopigaa", sum := "79fd8f304606543afcdde067689404436a790ce183d05a63e83b1495b7f44383", func := "thicket/thicketlaw06.OrderGrid", spec := "orderGrid", inPlace := ["math.Float64bits", "math.Float64frombits", "math.Float32frombits", "math.Float32bits"], apart := false, narrowed := true }
def OrderGridUptoSaid : Prop := orderGridUptoRow.holds Try.pinned (OpenSpec.upto orderGridSpec)

/-- 'thicketlaw14.ListsOf', WHERE WHAT IT READS IS OF BULK AT MOST 1048576: true; the input reads as it did. -/
def listsOfUptoRow : OpenClaim := { program := "ytkmbgfhkdopigaa", sum := "79fd8f304606543afcdde067689404436a790ce183d05a63e83b1495b7f44383", func := "thicket/thicketlaw14.ListsOf", spec := "listsOf", inPlace := ["math.Float64bits"], unfollowed := true, recurses := true, apart := false, narrowed := true }
def ListsOfUptoSaid : Prop := listsOfUptoRow.holds Try.pinned (OpenSpec.upto listsOfSpec)

/-- 'thicketlaw14.ListsParts', WHERE WHAT IT READS IS OF BULK AT MOST 1048576: true; the input reads as it did. -/
def listsPartsUptoRow : OpenClaim := { program := "ytkmbgfhkdopigaa", sum := "79fd8f304606543afcdde067689404436a790ce183d05a63e83b1495b7f44383", func := "thicket/thicketlaw14.ListsParts", spec := "listsParts", inPlace := ["math.Float64bits"], unfollowed := true, recurses := true, apart := false, narrowed := true }
def ListsPartsUptoSaid : Prop := listsPartsUptoRow.holds Try.pinned (OpenSpec.upto listsPartsSpec)

/-- 'thicketlaw14.ListsOwn', WHERE WHAT IT READS IS OF BULK AT MOST 1048576: true; the input reads as it did. -/
def listsOwnUptoRow : OpenClaim := { program := "ytkmbgfhkdopigaa", sum := "79fd8f304606543afcdde067689404436a790ce183d05a63e83b1495b7f44383", func := "thicket/thicketlaw14.ListsOwn", spec := "listsOwn", inPlace := ["math.Float64bits", "math.Float64frombits"], unfollowed := true, recurses := true, apart := false, narrowed := true }
def ListsOwnUptoSaid : Prop := listsOwnUptoRow.holds Try.pinned (OpenSpec.upto listsOwnSpec)

/-- 'thicketlaw14.ListsFalse', WHERE WHAT IT READS IS OF BULK AT MOST 1048576: true; the input reads as it did. -/
def listsFalseUptoRow : OpenClaim := { program := "ytkmbgfhkdopigaa", sum := "79fd8f304606543afcdde067689404436a790ce183d05a63e83b1495b7f44383", func := "thicket/thicketlaw14.ListsFalse", spec := "listsFalse", inPlace := ["math.Float64bits"], unfollowed := true, recurses := true, apart := false, narrowed := true }
def ListsFalseUptoSaid : Prop := listsFalseUptoRow.holds Try.pinned (OpenSpec.upto listsFalseSpec)

/-- 'thicketlaw06.OrderLists', WHERE WHAT IT READS IS OF BULK AT MOST 1048576: true; the input reads as it did. -/
def orderListsUptoRow : OpenClaim := { program := "ytkmbgfhkdopigaa", sum := "79fd8f304606543afcdde067689404436a790ce183d05a63e83b1495b7f44383", func := "thicket/thicketlaw06.OrderLists", spec := "orderLists", inPlace := ["math.Float64frombits", "math.Float64bits"], unfollowed := true, recurses := true, apart := false, narrowed := true }
def OrderListsUptoSaid : Prop := orderListsUptoRow.holds Try.pinned (OpenSpec.upto orderListsSpec)

/-- 'thicketlaw06.OrderSorts', WHERE WHAT IT READS IS OF BULK AT MOST 1048576: true; the input reads as it did. -/
def orderSortsUptoRow : OpenClaim := { program := "ytkmbgfhkdopigaa", sum := "79fd8f304606543afcdde067689404436a790ce183d05a63e83b1495b7f44383", func := "thicket/thicketlaw06.OrderSorts", spec := "orderSorts", inPlace := ["math.Float64bits", "math.Float64frombits"], unfollowed := true, recurses := true, apart := false, narrowed := true }
def OrderSortsUptoSaid : Prop := orderSortsUptoRow.holds Try.pinned (OpenSpec.upto orderSortsSpec)

/-- 'thicketlaw06.OrderOwn', WHERE WHAT IT READS IS OF BULK AT MOST 1048576: true; the input reads as it did. -/
def orderOwnUptoRow : OpenClaim := { program := "ytkmbgfhkdopigaa", sum := "79fd8f304606543afcdde067689404436a790ce183d05a63e83b1495b7f44383", func := "thicket/thicketlaw06.OrderOwn", spec := "orderOwn", inPlace := ["math.Float64bits", "math.Float64frombits"], unfollowed := true, recurses := true, apart := false, narrowed := true }
def OrderOwnUptoSaid : Prop := orderOwnUptoRow.holds Try.pinned (OpenSpec.upto orderOwnSpec)

/-- 'thicketlaw22.SlimDone', WHERE WHAT IT READS IS OF BULK AT MOST 1048576: true; the input reads as it did. -/
def slimDoneUptoRow : OpenClaim := { program := "ytkmbgfhkdopigaa", sum := "79fd8f304606543afcdde067689404436a790ce183d05a63e83b1495b7f44383", func := "thicket/thicketlaw22.SlimDone", spec := "slimDone", inPlace := ["math.Float64bits", "math.Float64frombits"], unfollowed := true, recurses := true, apart := false, narrowed := true }
def SlimDoneUptoSaid : Prop := slimDoneUptoRow.holds Try.pinned (OpenSpec.upto slimDoneSpec)

/-- 'thicketlaw22.SlimTrees', WHERE WHAT IT READS IS OF BULK AT MOST 1048576: true; the input reads as it did. -/
def slimTreesUptoRow : OpenClaim := { program := "ytkmbgfhkdopigaa", sum := "79fd8f304606543afcdde067689404436a790ce183d05a63e83b1495b7f44383", func := "thicket/thicketlaw22.SlimTrees", spec := "slimTrees", inPlace := ["math.Float64bits", "math.Float64frombits"], unfollowed := true, recurses := true, apart := false, narrowed := true }
def SlimTreesUptoSaid : Prop := slimTreesUptoRow.holds Try.pinned (OpenSpec.upto slimTreesSpec)

end Rows
end Go.Proofs.Ytkmbgfhkdopigaa
