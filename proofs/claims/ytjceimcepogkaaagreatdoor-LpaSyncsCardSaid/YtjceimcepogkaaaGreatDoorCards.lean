/-
  DERIVED. GIVEN WITH THE SEED: THE CARDS: each row of YtjceimcepogkaaaGreatDoorRows.lean that lists a variable, with what it lists TIED to the program's text (the seventh form; the later family's looks); each row that meets fmt, with fmt's text TOLD by the authors' own Lean function (tested against real Go, not proved from fmt's source: count such statements apart). THE CARD IS WHAT COUNTS. Prove the row's statement (the work); the ties are given (YtjceimcepogkaaaGreatDoorTie.lean); close each card by the builder's one call (the guide's Derived/Test/ToyasCard.lean, 'card_holds'). Laid BY PROGRAM, IN A SANDBOX (cutbox-door.mjs). By AI agents, Wed Nov 11 2026. No macro, syntax, notation, axiom, sorry.
-/
import Derived.Test.YtjceimcepogkaaaGreatDoorRows
import GoSem.ClaimSeven
namespace Go.Proofs.YtjceimcepogkaaaGreatDoor
namespace Rows

/-- THE TIED CARD OF 'fingerpostlaw31.LpaSyncs'. -/
def lpaSyncsCard : Claim7 := { stood := { row := lpaSyncsRow, standIns := [], harness := (true, "dffc935861c121bd2ae2e47f886b05bd6623ef1b73846476d9f3686f746f58da"), looks := false }, kinds := [], alts := [], laidByText := true, laidKinds := [.data, .data, .data], laidTests := true, laidLooks := .later }
def LpaSyncsCardSaid : Prop := Claim7.holds Tryz.pinned (.plain (OpenSpec.ofChange lpaSyncsSpec)) lpaSyncsCard

/-- THE SECOND FORM's CARD OF 'fingerpostlaw31.LpaSyncs'. -/
def lpaSyncsUptoCard : Claim7 := { stood := { row := lpaSyncsUptoRow, standIns := [], harness := (true, "dffc935861c121bd2ae2e47f886b05bd6623ef1b73846476d9f3686f746f58da"), looks := false }, kinds := [], alts := [], laidByText := true, laidKinds := [.data, .data, .data], laidTests := true, laidLooks := .later }
def LpaSyncsUptoCardSaid : Prop := Claim7.holds Tryz.pinned (.plain (OpenSpec.upto lpaSyncsSpec)) lpaSyncsUptoCard
end Rows
end Go.Proofs.YtjceimcepogkaaaGreatDoor
