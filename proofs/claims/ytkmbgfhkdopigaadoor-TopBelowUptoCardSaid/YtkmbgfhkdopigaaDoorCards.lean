/-
  DERIVED. GIVEN WITH THE SEED: THE CARDS: each row of YtkmbgfhkdopigaaDoorRows.lean that lists a variable, with what it lists TIED to the program's text (the seventh form; the later family's looks); each row that meets fmt, with fmt's text TOLD by the authors' own Lean function (tested against real Go, not proved from fmt's source: count such statements apart). THE CARD IS WHAT COUNTS. Prove the row's statement (the work); the ties are given (YtkmbgfhkdopigaaDoorTie.lean); close each card by the builder's one call (the guide's Derived/Test/ToyasCard.lean, 'card_holds'). Laid BY PROGRAM, IN A SANDBOX (cutbox-door.mjs). By AI agents, Wed Nov 11 2026. No macro, syntax, notation, axiom, sorry.
-/
import Derived.Test.YtkmbgfhkdopigaaDoorRows
import GoSem.ClaimSeven
namespace Go.Proofs.YtkmbgfhkdopigaaDoor
namespace Rows

/-- THE TIED CARD OF 'thickettop.TopBelow'. -/
def topBelowCard : Claim7 := { stood := { row := topBelowRow, standIns := [], harness := (true, "ddd769a639008e04d6d9b6955da70858c16242faff04320144f916561e1aa9db"), looks := false }, kinds := [], alts := [], laidByText := true, laidKinds := [.data], laidTests := true, laidLooks := .later }
def TopBelowCardSaid : Prop := Claim7.holds Tryd.pinned (.plain (OpenSpec.ofChange topBelowSpec)) topBelowCard

/-- THE TIED CARD OF 'thicketlaw28.PatchAsks'. -/
def patchAsksCard : Claim7 := { stood := { row := patchAsksRow, standIns := [], harness := (true, "ddd769a639008e04d6d9b6955da70858c16242faff04320144f916561e1aa9db"), looks := false }, kinds := [], alts := [], laidByText := true, laidKinds := [.data], laidTests := true, laidLooks := .later }
def PatchAsksCardSaid : Prop := Claim7.holds Tryd.pinned (.plain (OpenSpec.ofChange patchAsksSpec)) patchAsksCard

/-- THE TIED CARD OF 'thicketlaw28.PatchLeast'. -/
def patchLeastCard : Claim7 := { stood := { row := patchLeastRow, standIns := [], harness := (true, "ddd769a639008e04d6d9b6955da70858c16242faff04320144f916561e1aa9db"), looks := false }, kinds := [], alts := [], laidByText := true, laidKinds := [.data, .data, .data, .data], laidTests := true, laidLooks := .later }
def PatchLeastCardSaid : Prop := Claim7.holds Tryd.pinned (.plain (OpenSpec.ofChange patchLeastSpec)) patchLeastCard

/-- THE TIED CARD OF 'thicketlaw28.PatchBack'. -/
def patchBackCard : Claim7 := { stood := { row := patchBackRow, standIns := [], harness := (true, "ddd769a639008e04d6d9b6955da70858c16242faff04320144f916561e1aa9db"), looks := false }, kinds := [], alts := [], laidByText := true, laidKinds := [.data, .data, .data, .data], laidTests := true, laidLooks := .later }
def PatchBackCardSaid : Prop := Claim7.holds Tryd.pinned (.plain (OpenSpec.ofChange patchBackSpec)) patchBackCard

/-- THE SECOND FORM's CARD OF 'thickettop.TopBelow'. -/
def topBelowUptoCard : Claim7 := { stood := { row := topBelowUptoRow, standIns := [], harness := (true, "ddd769a639008e04d6d9b6955da70858c16242faff04320144f916561e1aa9db"), looks := false }, kinds := [], alts := [], laidByText := true, laidKinds := [.data], laidTests := true, laidLooks := .later }
def TopBelowUptoCardSaid : Prop := Claim7.holds Tryd.pinned (.plain (OpenSpec.upto topBelowSpec)) topBelowUptoCard

/-- THE SECOND FORM's CARD OF 'thicketlaw28.PatchAsks'. -/
def patchAsksUptoCard : Claim7 := { stood := { row := patchAsksUptoRow, standIns := [], harness := (true, "ddd769a639008e04d6d9b6955da70858c16242faff04320144f916561e1aa9db"), looks := false }, kinds := [], alts := [], laidByText := true, laidKinds := [.data], laidTests := true, laidLooks := .later }
def PatchAsksUptoCardSaid : Prop := Claim7.holds Tryd.pinned (.plain (OpenSpec.upto patchAsksSpec)) patchAsksUptoCard

/-- THE SECOND FORM's CARD OF 'thicketlaw28.PatchLeast'. -/
def patchLeastUptoCard : Claim7 := { stood := { row := patchLeastUptoRow, standIns := [], harness := (true, "ddd769a639008e04d6d9b6955da70858c16242faff04320144f916561e1aa9db"), looks := false }, kinds := [], alts := [], laidByText := true, laidKinds := [.data, .data, .data, .data], laidTests := true, laidLooks := .later }
def PatchLeastUptoCardSaid : Prop := Claim7.holds Tryd.pinned (.plain (OpenSpec.upto patchLeastSpec)) patchLeastUptoCard

/-- THE SECOND FORM's CARD OF 'thicketlaw28.PatchBack'. -/
def patchBackUptoCard : Claim7 := { stood := { row := patchBackUptoRow, standIns := [], harness := (true, "ddd769a639008e04d6d9b6955da70858c16242faff04320144f916561e1aa9db"), looks := false }, kinds := [], alts := [], laidByText := true, laidKinds := [.data, .data, .data, .data], laidTests := true, laidLooks := .later }
def PatchBackUptoCardSaid : Prop := Claim7.holds Tryd.pinned (.plain (OpenSpec.upto patchBackSpec)) patchBackUptoCard
end Rows
end Go.Proofs.YtkmbgfhkdopigaaDoor
