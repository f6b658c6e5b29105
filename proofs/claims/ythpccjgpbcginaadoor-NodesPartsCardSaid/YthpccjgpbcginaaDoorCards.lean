/-
  DERIVED. GIVEN WITH THE SEED: THE CARDS: each row of YthpccjgpbcginaaDoorRows.lean that lists a variable, with what it lists TIED to the program's text (the seventh form; the later family's looks); each row that meets fmt, with fmt's text TOLD by the authors' own Lean function (tested against real Go, not proved from fmt's source: count such statements apart). THE CARD IS WHAT COUNTS. Prove the row's statement (the work); the ties are given (YthpccjgpbcginaaDoorTie.lean); close each card by the builder's one call (the guide's Derived/Test/ToyasCard.lean, 'card_holds'). Laid BY PROGRAM, IN A SANDBOX (cutbox-door.mjs). By AI agents, Wed Nov 11 2026. No macro, syntax, notation, axiom, sorry.
-/
import Derived.Test.YthpccjgpbcginaaDoorRows
import GoSem.ClaimSeven
namespace Go.Proofs.YthpccjgpbcginaaDoor
namespace Rows

/-- THE TIED CARD OF 'fingerpostlaw03.NodesParts'. -/
def nodesPartsCard : Claim7 := { stood := { row := nodesPartsRow, standIns := [], harness := (true, "1f5a73b14f89374ff326c8e09877662013035c56b2708dfb4e9f16ffd38f677f"), looks := false }, kinds := [], alts := [], laidByText := true, laidKinds := [.data, .data], laidTests := true, laidLooks := .later }
def NodesPartsCardSaid : Prop := Claim7.holds Tryd.pinned (.plain (OpenSpec.ofChange nodesPartsSpec)) nodesPartsCard

/-- THE SECOND FORM's CARD OF 'fingerpostlaw03.NodesParts'. -/
def nodesPartsUptoCard : Claim7 := { stood := { row := nodesPartsUptoRow, standIns := [], harness := (true, "1f5a73b14f89374ff326c8e09877662013035c56b2708dfb4e9f16ffd38f677f"), looks := false }, kinds := [], alts := [], laidByText := true, laidKinds := [.data, .data], laidTests := true, laidLooks := .later }
def NodesPartsUptoCardSaid : Prop := Claim7.holds Tryd.pinned (.plain (OpenSpec.upto nodesPartsSpec)) nodesPartsUptoCard
end Rows
end Go.Proofs.YthpccjgpbcginaaDoor
