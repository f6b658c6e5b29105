/-
  No cell of these rows narrows 'for every input' (looked for: loops, veiled, ifaces, maps, wideKeys, modest, calm, conditions, laid).
  DERIVED. THE GIVEN ROWS OF THIS SEAT. 10 by the template 'for every input the law returns true; each argument reads behind the call as it read before'; 0 by the template 'total and deterministic' (their statements: YthpccjgpbcginaaTotals.lean).
  GIVEN WITH THE SEED: the statements are not yours to turn. If you find one false, say at which input.
  Laid BY PROGRAM, IN A SANDBOX (cutbox-rows.mjs): the forced cells as the released guide's own fill.sh prints them over the translation f12ff3424e9673a3… (all of the seat's roots in one cut). By AI agents, Wed Nov 11 2026. No macro, syntax, notation, axiom, sorry.
-/
import Derived.Test.YthpccjgpbcginaaChecked
import GoSem.Claim
import GoSem.ClaimJoined
import GoSem.ClaimMapViews
import Derived.JoinedTies
import Derived.KernelRfl
namespace Go.Proofs.Ythpccjgpbcginaa
/- THE CELL 'sum', in the pinned program and in every row, IS THE sha256 OF THE DUMP (.gsa) THAT YthpccjgpbcginaaProg.lean LOADS. Nothing in Lean hashes anything: it is a label: what it is worth is what the hold of that sum in a sandbox is worth. -/
noncomputable def Try.pinned : Pinned := { name := "ythpccjgpbcginaa", sum := "f12ff3424e9673a3ca27e410d5d633c9323544008207d7f6b83859bb43eac34f", checked := Try.checked }
namespace Rows
def none {H : Type} : Left H := { results := [], args := [] }

/-- 'fingerpostlaw30.DiffAll': WHATEVER THE INPUT: true; the input reads as it did. -/
def diffAllSpec : ChangeSpec := { name := "diffAll", fn := fun _ => fun
  | [d] => { results := [.lit (.bool true)], args := [d] }
  | _ => none }
def diffAllRow : OpenClaim := { program := "ythpccjgpbcginaa", sum := "f12ff3424e9673a3ca27e410d5d633c9323544008207d7f6b83859bb43eac34f", func := "fingerpost/fingerpostlaw30.DiffAll", spec := "diffAll", apart := false }
def DiffAllSaid : Prop := diffAllRow.holds Try.pinned (OpenSpec.ofChange diffAllSpec)

/-- ITS FALSE NEIGHBOUR: 'it returns false'. Refute it at one input. -/
def diffAllWrong : ChangeSpec := { name := "diffAll", fn := fun _ => fun
  | [d] => { results := [.lit (.bool false)], args := [d] }
  | _ => none }
def DiffAllWrongFalsely : Prop := diffAllRow.holds Try.pinned (OpenSpec.ofChange diffAllWrong)

/-- 'fingerpostlaw29.PhaseDone': WHATEVER THE INPUT: true; the input reads as it did. -/
def phaseDoneSpec : ChangeSpec := { name := "phaseDone", fn := fun _ => fun
  | [d1, d2, d3] => { results := [.lit (.bool true)], args := [d1, d2, d3] }
  | _ => none }
def phaseDoneRow : OpenClaim := { program := "ythpccjgpbcginaa", sum := "f12ff3424e9673a3ca27e410d5d633c9323544008207d7f6b83859bb43eac34f", func := "fingerpost/fingerpostlaw29.PhaseDone", spec := "phaseDone", unfollowed := true, recurses := true, apart := false }
def PhaseDoneSaid : Prop := phaseDoneRow.holds Try.pinned (OpenSpec.ofChange phaseDoneSpec)

/-- ITS FALSE NEIGHBOUR: 'it returns false'. Refute it at one input. -/
def phaseDoneWrong : ChangeSpec := { name := "phaseDone", fn := fun _ => fun
  | [d1, d2, d3] => { results := [.lit (.bool false)], args := [d1, d2, d3] }
  | _ => none }
def PhaseDoneWrongFalsely : Prop := phaseDoneRow.holds Try.pinned (OpenSpec.ofChange phaseDoneWrong)

/-- 'fingerpostlaw24.WalkSays': WHATEVER THE INPUT: true; the input reads as it did. -/
def walkSaysSpec : ChangeSpec := { name := "walkSays", fn := fun _ => fun
  | [d1, d2, d3] => { results := [.lit (.bool true)], args := [d1, d2, d3] }
  | _ => none }
def walkSaysRow : OpenClaim := { program := "ythpccjgpbcginaa", sum := "f12ff3424e9673a3ca27e410d5d633c9323544008207d7f6b83859bb43eac34f", func := "fingerpost/fingerpostlaw24.WalkSays", spec := "walkSays", apart := false }
def WalkSaysSaid : Prop := walkSaysRow.holds Try.pinned (OpenSpec.ofChange walkSaysSpec)

/-- ITS FALSE NEIGHBOUR: 'it returns false'. Refute it at one input. -/
def walkSaysWrong : ChangeSpec := { name := "walkSays", fn := fun _ => fun
  | [d1, d2, d3] => { results := [.lit (.bool false)], args := [d1, d2, d3] }
  | _ => none }
def WalkSaysWrongFalsely : Prop := walkSaysRow.holds Try.pinned (OpenSpec.ofChange walkSaysWrong)

/-- 'fingerpostlaw24.WalkOnce': WHATEVER THE INPUT: true; the input reads as it did. -/
def walkOnceSpec : ChangeSpec := { name := "walkOnce", fn := fun _ => fun
  | [d1, d2, d3] => { results := [.lit (.bool true)], args := [d1, d2, d3] }
  | _ => none }
def walkOnceRow : OpenClaim := { program := "ythpccjgpbcginaa", sum := "f12ff3424e9673a3ca27e410d5d633c9323544008207d7f6b83859bb43eac34f", func := "fingerpost/fingerpostlaw24.WalkOnce", spec := "walkOnce", apart := false }
def WalkOnceSaid : Prop := walkOnceRow.holds Try.pinned (OpenSpec.ofChange walkOnceSpec)

/-- ITS FALSE NEIGHBOUR: 'it returns false'. Refute it at one input. -/
def walkOnceWrong : ChangeSpec := { name := "walkOnce", fn := fun _ => fun
  | [d1, d2, d3] => { results := [.lit (.bool false)], args := [d1, d2, d3] }
  | _ => none }
def WalkOnceWrongFalsely : Prop := walkOnceRow.holds Try.pinned (OpenSpec.ofChange walkOnceWrong)

/-- 'fingerpostlaw03.NodesBack': WHATEVER THE INPUT: true; the input reads as it did. -/
def nodesBackSpec : ChangeSpec := { name := "nodesBack", fn := fun _ => fun
  | [d1, d2, d3] => { results := [.lit (.bool true)], args := [d1, d2, d3] }
  | _ => none }
def nodesBackRow : OpenClaim := { program := "ythpccjgpbcginaa", sum := "f12ff3424e9673a3ca27e410d5d633c9323544008207d7f6b83859bb43eac34f", func := "fingerpost/fingerpostlaw03.NodesBack", spec := "nodesBack", apart := false }
def NodesBackSaid : Prop := nodesBackRow.holds Try.pinned (OpenSpec.ofChange nodesBackSpec)

/-- ITS FALSE NEIGHBOUR: 'it returns false'. Refute it at one input. -/
def nodesBackWrong : ChangeSpec := { name := "nodesBack", fn := fun _ => fun
  | [d1, d2, d3] => { results := [.lit (.bool false)], args := [d1, d2, d3] }
  | _ => none }
def NodesBackWrongFalsely : Prop := nodesBackRow.holds Try.pinned (OpenSpec.ofChange nodesBackWrong)

/-- 'fingerpostlaw30.DiffTurns': WHATEVER THE INPUT: true; the input reads as it did. -/
def diffTurnsSpec : ChangeSpec := { name := "diffTurns", fn := fun _ => fun
  | [d] => { results := [.lit (.bool true)], args := [d] }
  | _ => none }
def diffTurnsRow : OpenClaim := { program := "ythpccjgpbcginaa", sum := "f12ff3424e9673a3ca27e410d5d633c9323544008207d7f6b83859bb43eac34f", func := "fingerpost/fingerpostlaw30.DiffTurns", spec := "diffTurns", apart := false }
def DiffTurnsSaid : Prop := diffTurnsRow.holds Try.pinned (OpenSpec.ofChange diffTurnsSpec)

/-- ITS FALSE NEIGHBOUR: 'it returns false'. Refute it at one input. -/
def diffTurnsWrong : ChangeSpec := { name := "diffTurns", fn := fun _ => fun
  | [d] => { results := [.lit (.bool false)], args := [d] }
  | _ => none }
def DiffTurnsWrongFalsely : Prop := diffTurnsRow.holds Try.pinned (OpenSpec.ofChange diffTurnsWrong)

/-- 'fingerpostlaw25.AddsUp': WHATEVER THE INPUT: true; the input reads as it did. -/
def addsUpSpec : ChangeSpec := { name := "addsUp", fn := fun _ => fun
  | [d1, d2] => { results := [.lit (.bool true)], args := [d1, d2] }
  | _ => none }
def addsUpRow : OpenClaim := { program := "ythpccjgpbcginaa", sum := "f12ff3424e9673a3ca27e410d5d633c9323544008207d7f6b83859bb43eac34f", func := "fingerpost/fingerpostlaw25.AddsUp", spec := "addsUp", apart := false }
def AddsUpSaid : Prop := addsUpRow.holds Try.pinned (OpenSpec.ofChange addsUpSpec)

/-- ITS FALSE NEIGHBOUR: 'it returns false'. Refute it at one input. -/
def addsUpWrong : ChangeSpec := { name := "addsUp", fn := fun _ => fun
  | [d1, d2] => { results := [.lit (.bool false)], args := [d1, d2] }
  | _ => none }
def AddsUpWrongFalsely : Prop := addsUpRow.holds Try.pinned (OpenSpec.ofChange addsUpWrong)

/-- 'fingerpostlaw29.PhaseOwes': WHATEVER THE INPUT: true; the input reads as it did. -/
def phaseOwesSpec : ChangeSpec := { name := "phaseOwes", fn := fun _ => fun
  | [d] => { results := [.lit (.bool true)], args := [d] }
  | _ => none }
def phaseOwesRow : OpenClaim := { program := "ythpccjgpbcginaa", sum := "f12ff3424e9673a3ca27e410d5d633c9323544008207d7f6b83859bb43eac34f", func := "fingerpost/fingerpostlaw29.PhaseOwes", spec := "phaseOwes", unfollowed := true, recurses := true, apart := false }
def PhaseOwesSaid : Prop := phaseOwesRow.holds Try.pinned (OpenSpec.ofChange phaseOwesSpec)

/-- ITS FALSE NEIGHBOUR: 'it returns false'. Refute it at one input. -/
def phaseOwesWrong : ChangeSpec := { name := "phaseOwes", fn := fun _ => fun
  | [d] => { results := [.lit (.bool false)], args := [d] }
  | _ => none }
def PhaseOwesWrongFalsely : Prop := phaseOwesRow.holds Try.pinned (OpenSpec.ofChange phaseOwesWrong)

/-- 'fingerpostlaw24.WalkParts': WHATEVER THE INPUT: true; the input reads as it did. -/
def walkPartsSpec : ChangeSpec := { name := "walkParts", fn := fun _ => fun
  | [d1, d2, d3] => { results := [.lit (.bool true)], args := [d1, d2, d3] }
  | _ => none }
def walkPartsRow : OpenClaim := { program := "ythpccjgpbcginaa", sum := "f12ff3424e9673a3ca27e410d5d633c9323544008207d7f6b83859bb43eac34f", func := "fingerpost/fingerpostlaw24.WalkParts", spec := "walkParts", apart := false }
def WalkPartsSaid : Prop := walkPartsRow.holds Try.pinned (OpenSpec.ofChange walkPartsSpec)

/-- ITS FALSE NEIGHBOUR: 'it returns false'. Refute it at one input. -/
def walkPartsWrong : ChangeSpec := { name := "walkParts", fn := fun _ => fun
  | [d1, d2, d3] => { results := [.lit (.bool false)], args := [d1, d2, d3] }
  | _ => none }
def WalkPartsWrongFalsely : Prop := walkPartsRow.holds Try.pinned (OpenSpec.ofChange walkPartsWrong)

/-- 'fingerpostlaw25.AddsMoves': WHATEVER THE INPUT: true; the input reads as it did. -/
def addsMovesSpec : ChangeSpec := { name := "addsMoves", fn := fun _ => fun
  | [d1, d2, d3] => { results := [.lit (.bool true)], args := [d1, d2, d3] }
  | _ => none }
def addsMovesRow : OpenClaim := { program := "ythpccjgpbcginaa", sum := "f12ff3424e9673a3ca27e410d5d633c9323544008207d7f6b83859bb43eac34f", func := "fingerpost/fingerpostlaw25.AddsMoves", spec := "addsMoves", apart := false }
def AddsMovesSaid : Prop := addsMovesRow.holds Try.pinned (OpenSpec.ofChange addsMovesSpec)

/-- ITS FALSE NEIGHBOUR: 'it returns false'. Refute it at one input. -/
def addsMovesWrong : ChangeSpec := { name := "addsMoves", fn := fun _ => fun
  | [d1, d2, d3] => { results := [.lit (.bool false)], args := [d1, d2, d3] }
  | _ => none }
def AddsMovesWrongFalsely : Prop := addsMovesRow.holds Try.pinned (OpenSpec.ofChange addsMovesWrong)

/- THE SECOND FORM. 'bulk': how many values and letters a reading holds, each counted each time it is reached (what is shared counts as often as it is met; a slice's spare places count too). A statement '..UptoSaid' is the law's where the arguments, and the package variables that the reading takes, are together of bulk at most 1048576: NARROWER than '..Said'. Prove '..Said' where nothing that the law and all that it calls make is longer than what came in: it says more and counts as full. Else prove '..UptoSaid'. A law counts once. -/
mutual
def uptoBulk {H : Type} : DataW H → Nat
  | .lit (.string bytes) => bytes.length + 1
  | .lit _ => 1
  | .nil => 1
  | .ptr d => uptoBulk d + 1
  | .slice elems spare => uptoBulkAll elems + uptoBulkAll spare + 1
  | .agg parts => uptoBulkAll parts + 1
  | .iface _ d => uptoBulk d + 1
  | .map entries => uptoBulkEntries entries + 1
  | .held _ => 1
def uptoBulkAll {H : Type} : List (DataW H) → Nat
  | [] => 0
  | d :: r => uptoBulk d + uptoBulkAll r
def uptoBulkEntries {H : Type} : List (Lit × DataW H) → Nat
  | [] => 0
  | x :: r => uptoBulkEntry x + uptoBulkEntries r
def uptoBulkEntry {H : Type} : Lit × DataW H → Nat
  | (.string bytes, d) => bytes.length + uptoBulk d + 1
  | (_, d) => uptoBulk d + 1
 end
def uptoSmall : (H : Type) → List (DataW H) → Bool := fun _ ds => decide (uptoBulkAll ds ≤ 1048576)
def OpenSpec.upto (s : _root_.Go.ChangeSpec) : _root_.Go.OpenSpec := { _root_.Go.OpenSpec.ofChange s with cond := some uptoSmall }

/-- 'fingerpostlaw30.DiffAll', WHERE WHAT IT READS IS OF BULK AT MOST 1048576: true; the input reads as it did. -/
def diffAllUptoRow : OpenClaim := { program := "ythpccjgpbcginaa", sum := "f12ff3424e9673a3ca27e410d5d633c9323544008207d7f6b83859bb43eac34f", func := "fingerpost/fingerpostlaw30.DiffAll", spec := "diffAll", apart := false, narrowed := true }
def DiffAllUptoSaid : Prop := diffAllUptoRow.holds Try.pinned (OpenSpec.upto diffAllSpec)

/-- 'fingerpostlaw29.PhaseDone', WHERE WHAT IT READS IS OF BULK AT MOST 1048576: true; the input reads as it did. -/
def phaseDoneUptoRow : OpenClaim := { program := "ythpccjgpbcginaa", sum := "f12ff3424e9673a3ca27e410d5d633c9323544008207d7f6b83859bb43eac34f", func := "fingerpost/fingerpostlaw29.PhaseDone", spec := "phaseDone", unfollowed := true, recurses := true, apart := false, narrowed := true }
def PhaseDoneUptoSaid : Prop := phaseDoneUptoRow.holds Try.pinned (OpenSpec.upto phaseDoneSpec)

/-- 'fingerpostlaw24.WalkSays', WHERE WHAT IT READS IS OF BULK AT MOST 1048576: true; the input reads as it did. -/
def walkSaysUptoRow : OpenClaim := { program := "ythpccjgpbcginaa", sum := "f12ff3424e9673a3ca27e410d5d633c9323544008207d7f6b83859bb43eac34f", func := "fingerpost/fingerpostlaw24.WalkSays", spec := "walkSays", apart := false, narrowed := true }
def WalkSaysUptoSaid : Prop := walkSaysUptoRow.holds Try.pinned (OpenSpec.upto walkSaysSpec)

/-- 'fingerpostlaw24.WalkOnce', WHERE WHAT IT READS IS OF BULK AT MOST 1048576: true; the input reads as it did. -/
def walkOnceUptoRow : OpenClaim := { program := "ythpccjgpbcginaa", sum := "f12ff3424e9673a3ca27e410d5d633c9323544008207d7f6b83859bb43eac34f", func := "fingerpost/fingerpostlaw24.WalkOnce", spec := "walkOnce", apart := false, narrowed := true }
def WalkOnceUptoSaid : Prop := walkOnceUptoRow.holds Try.pinned (OpenSpec.upto walkOnceSpec)

/-- 'fingerpostlaw03.NodesBack', WHERE WHAT IT READS IS OF BULK AT MOST 1048576: true; the input reads as it did. -/
def nodesBackUptoRow : OpenClaim := { program := "ythpccjgpbcginaa", sum := "f12ff3424e9673a3ca27e410d5d633c9323544008207d7f6b83859bb43eac34f", func := "fingerpost/fingerpostlaw03.NodesBack", spec := "nodesBack", apart := false, narrowed := true }
def NodesBackUptoSaid : Prop := nodesBackUptoRow.holds Try.pinned (OpenSpec.upto nodesBackSpec)

/-- 'fingerpostlaw30.DiffTurns', WHERE WHAT IT READS IS OF BULK AT MOST 1048576: true; the input reads as it did. -/
def diffTurnsUptoRow : OpenClaim := { program := "ythpccjgpbcginaa", sum := "f12ff3424e9673a3ca27e410d5d633c9323544008207d7f6b83859bb43eac34f", func := "fingerpost/fingerpostlaw30.DiffTurns", spec := "diffTurns", apart := false, narrowed := true }
def DiffTurnsUptoSaid : Prop := diffTurnsUptoRow.holds Try.pinned (OpenSpec.upto diffTurnsSpec)

/-- 'fingerpostlaw25.AddsUp', WHERE WHAT IT READS IS OF BULK AT MOST 1048576: true; the input reads as it did. -/
def addsUpUptoRow : OpenClaim := { program := "ythpccjgpbcginaa", sum := "f12ff3424e9673a3ca27e410d5d633c9323544008207d7f6b83859bb43eac34f", func := "fingerpost/fingerpostlaw25.AddsUp", spec := "addsUp", apart := false, narrowed := true }
def AddsUpUptoSaid : Prop := addsUpUptoRow.holds Try.pinned (OpenSpec.upto addsUpSpec)

/-- 'fingerpostlaw29.PhaseOwes', WHERE WHAT IT READS IS OF BULK AT MOST 1048576: true; the input reads as it did. -/
def phaseOwesUptoRow : OpenClaim := { program := "ythpccjgpbcginaa", sum := "f12ff3424e9673a3ca27e410d5d633c9323544008207d7f6b83859bb43eac34f", func := "fingerpost/fingerpostlaw29.PhaseOwes", spec := "phaseOwes", unfollowed := true, recurses := true, apart := false, narrowed := true }
def PhaseOwesUptoSaid : Prop := phaseOwesUptoRow.holds Try.pinned (OpenSpec.upto phaseOwesSpec)

/-- 'fingerpostlaw24.WalkParts', WHERE WHAT IT READS IS OF BULK AT MOST 1048576: true; the input reads as it did. -/
def walkPartsUptoRow : OpenClaim := { program := "ythpccjgpbcginaa", sum := "f12ff3424e9673a3ca27e410d5d633c9323544008207d7f6b83859bb43eac34f", func := "fingerpost/fingerpostlaw24.WalkParts", spec := "walkParts", apart := false, narrowed := true }
def WalkPartsUptoSaid : Prop := walkPartsUptoRow.holds Try.pinned (OpenSpec.upto walkPartsSpec)

/-- 'fingerpostlaw25.AddsMoves', WHERE WHAT IT READS IS OF BULK AT MOST 1048576: true; the input reads as it did. -/
def addsMovesUptoRow : OpenClaim := { program := "ythpccjgpbcginaa", sum := "f12ff3424e9673a3ca27e410d5d633c9323544008207d7f6b83859bb43eac34f", func := "fingerpost/fingerpostlaw25.AddsMoves", spec := "addsMoves", apart := false, narrowed := true }
def AddsMovesUptoSaid : Prop := addsMovesUptoRow.holds Try.pinned (OpenSpec.upto addsMovesSpec)

end Rows
end Go.Proofs.Ythpccjgpbcginaa
