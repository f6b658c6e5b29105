/-
  No cell of these rows narrows 'for every input' (looked for: loops, veiled, ifaces, maps, wideKeys, modest, calm, conditions, laid).
  DERIVED. THE GIVEN ROWS OF THIS SEAT. 12 by the template 'for every input the law returns true; each argument reads behind the call as it read before'; 0 by the template 'total and deterministic' (their statements: YtfbaikkadndckaaTotals.lean).
  GIVEN WITH THE SEED: the statements are not yours to turn. If you find one false, say at which input.
  Laid BY PROGRAM, IN A SANDBOX (cutbox-rows.mjs): the forced cells as the released guide's own fill.sh prints them over the translation 941a2ad9d5a0a0b5… (all of the seat's roots in one cut). By AI agents, Wed Nov 11 2026. No macro, syntax, notation, axiom, sorry.
-/
import Derived.Test.YtfbaikkadndckaaChecked
import GoSem.Claim
import GoSem.ClaimJoined
import GoSem.ClaimMapViews
import Derived.JoinedTies
import Derived.KernelRfl
namespace Go.Proofs.Ytfbaikkadndckaa
/- THE CELL 'sum', in the pinned program and in every row, IS THE sha256 OF THE DUMP (.gsa) THAT YtfbaikkadndckaaProg.lean LOADS. Nothing in Lean hashes anything: it is a label: what it is worth is what the hold of that sum in a sandbox is worth. -/
noncomputable def Try.pinned : Pinned := { name := "ytfbaikkadndckaa", sum := "941a2ad9d5a0a0b54fddc0aa0bc8fe2a6fbc95399c4767685e217188a519a68d", checked := Try.checked }
namespace Rows
def none {H : Type} : Left H := { results := [], args := [] }

/-- 'fingerpostlaw27.SettleBest': WHATEVER THE INPUT: true; the input reads as it did. -/
def settleBestSpec : ChangeSpec := { name := "settleBest", fn := fun _ => fun
  | [d1, d2] => { results := [.lit (.bool true)], args := [d1, d2] }
  | _ => none }
def settleBestRow : OpenClaim := { program := "ytfbaikkadndckaa", sum := "941a2ad9d5a0a0b54fddc0aa0bc8fe2a6fbc95399c4767685e217188a519a68d", func := "fingerpost/fingerpostlaw27.SettleBest", spec := "settleBest", apart := false }
def SettleBestSaid : Prop := settleBestRow.holds Try.pinned (OpenSpec.ofChange settleBestSpec)

/-- ITS FALSE NEIGHBOUR: 'it returns false'. Refute it at one input. -/
def settleBestWrong : ChangeSpec := { name := "settleBest", fn := fun _ => fun
  | [d1, d2] => { results := [.lit (.bool false)], args := [d1, d2] }
  | _ => none }
def SettleBestWrongFalsely : Prop := settleBestRow.holds Try.pinned (OpenSpec.ofChange settleBestWrong)

/-- 'fingerpostlaw28.FeasSays': WHATEVER THE INPUT: true; the input reads as it did. -/
def feasSaysSpec : ChangeSpec := { name := "feasSays", fn := fun _ => fun
  | [d1, d2, d3] => { results := [.lit (.bool true)], args := [d1, d2, d3] }
  | _ => none }
def feasSaysRow : OpenClaim := { program := "ytfbaikkadndckaa", sum := "941a2ad9d5a0a0b54fddc0aa0bc8fe2a6fbc95399c4767685e217188a519a68d", func := "fingerpost/fingerpostlaw28.FeasSays", spec := "feasSays", apart := false }
def FeasSaysSaid : Prop := feasSaysRow.holds Try.pinned (OpenSpec.ofChange feasSaysSpec)

/-- ITS FALSE NEIGHBOUR: 'it returns false'. Refute it at one input. -/
def feasSaysWrong : ChangeSpec := { name := "feasSays", fn := fun _ => fun
  | [d1, d2, d3] => { results := [.lit (.bool false)], args := [d1, d2, d3] }
  | _ => none }
def FeasSaysWrongFalsely : Prop := feasSaysRow.holds Try.pinned (OpenSpec.ofChange feasSaysWrong)

/-- 'fingerpostlaw28.FeasLowers': WHATEVER THE INPUT: true; the input reads as it did. -/
def feasLowersSpec : ChangeSpec := { name := "feasLowers", fn := fun _ => fun
  | [d1, d2, d3] => { results := [.lit (.bool true)], args := [d1, d2, d3] }
  | _ => none }
def feasLowersRow : OpenClaim := { program := "ytfbaikkadndckaa", sum := "941a2ad9d5a0a0b54fddc0aa0bc8fe2a6fbc95399c4767685e217188a519a68d", func := "fingerpost/fingerpostlaw28.FeasLowers", spec := "feasLowers", apart := false }
def FeasLowersSaid : Prop := feasLowersRow.holds Try.pinned (OpenSpec.ofChange feasLowersSpec)

/-- ITS FALSE NEIGHBOUR: 'it returns false'. Refute it at one input. -/
def feasLowersWrong : ChangeSpec := { name := "feasLowers", fn := fun _ => fun
  | [d1, d2, d3] => { results := [.lit (.bool false)], args := [d1, d2, d3] }
  | _ => none }
def FeasLowersWrongFalsely : Prop := feasLowersRow.holds Try.pinned (OpenSpec.ofChange feasLowersWrong)

/-- 'fingerpostlaw28.FeasSpares': WHATEVER THE INPUT: true; the input reads as it did. -/
def feasSparesSpec : ChangeSpec := { name := "feasSpares", fn := fun _ => fun
  | [d1, d2, d3] => { results := [.lit (.bool true)], args := [d1, d2, d3] }
  | _ => none }
def feasSparesRow : OpenClaim := { program := "ytfbaikkadndckaa", sum := "941a2ad9d5a0a0b54fddc0aa0bc8fe2a6fbc95399c4767685e217188a519a68d", func := "fingerpost/fingerpostlaw28.FeasSpares", spec := "feasSpares", apart := false }
def FeasSparesSaid : Prop := feasSparesRow.holds Try.pinned (OpenSpec.ofChange feasSparesSpec)

/-- ITS FALSE NEIGHBOUR: 'it returns false'. Refute it at one input. -/
def feasSparesWrong : ChangeSpec := { name := "feasSpares", fn := fun _ => fun
  | [d1, d2, d3] => { results := [.lit (.bool false)], args := [d1, d2, d3] }
  | _ => none }
def FeasSparesWrongFalsely : Prop := feasSparesRow.holds Try.pinned (OpenSpec.ofChange feasSparesWrong)

/-- 'fingerpostlaw27.SettleSound': WHATEVER THE INPUT: true; the input reads as it did. -/
def settleSoundSpec : ChangeSpec := { name := "settleSound", fn := fun _ => fun
  | [d1, d2] => { results := [.lit (.bool true)], args := [d1, d2] }
  | _ => none }
def settleSoundRow : OpenClaim := { program := "ytfbaikkadndckaa", sum := "941a2ad9d5a0a0b54fddc0aa0bc8fe2a6fbc95399c4767685e217188a519a68d", func := "fingerpost/fingerpostlaw27.SettleSound", spec := "settleSound", apart := false }
def SettleSoundSaid : Prop := settleSoundRow.holds Try.pinned (OpenSpec.ofChange settleSoundSpec)

/-- ITS FALSE NEIGHBOUR: 'it returns false'. Refute it at one input. -/
def settleSoundWrong : ChangeSpec := { name := "settleSound", fn := fun _ => fun
  | [d1, d2] => { results := [.lit (.bool false)], args := [d1, d2] }
  | _ => none }
def SettleSoundWrongFalsely : Prop := settleSoundRow.holds Try.pinned (OpenSpec.ofChange settleSoundWrong)

/-- 'fingerpostlaw26.MergeMakes': WHATEVER THE INPUT: true; the input reads as it did. -/
def mergeMakesSpec : ChangeSpec := { name := "mergeMakes", fn := fun _ => fun
  | [d1, d2, d3] => { results := [.lit (.bool true)], args := [d1, d2, d3] }
  | _ => none }
def mergeMakesRow : OpenClaim := { program := "ytfbaikkadndckaa", sum := "941a2ad9d5a0a0b54fddc0aa0bc8fe2a6fbc95399c4767685e217188a519a68d", func := "fingerpost/fingerpostlaw26.MergeMakes", spec := "mergeMakes", unfollowed := true, recurses := true, apart := false }
def MergeMakesSaid : Prop := mergeMakesRow.holds Try.pinned (OpenSpec.ofChange mergeMakesSpec)

/-- ITS FALSE NEIGHBOUR: 'it returns false'. Refute it at one input. -/
def mergeMakesWrong : ChangeSpec := { name := "mergeMakes", fn := fun _ => fun
  | [d1, d2, d3] => { results := [.lit (.bool false)], args := [d1, d2, d3] }
  | _ => none }
def MergeMakesWrongFalsely : Prop := mergeMakesRow.holds Try.pinned (OpenSpec.ofChange mergeMakesWrong)

/-- 'fingerpostlaw26.MergeWithdraws': WHATEVER THE INPUT: true; the input reads as it did. -/
def mergeWithdrawsSpec : ChangeSpec := { name := "mergeWithdraws", fn := fun _ => fun
  | [d1, d2, d3] => { results := [.lit (.bool true)], args := [d1, d2, d3] }
  | _ => none }
def mergeWithdrawsRow : OpenClaim := { program := "ytfbaikkadndckaa", sum := "941a2ad9d5a0a0b54fddc0aa0bc8fe2a6fbc95399c4767685e217188a519a68d", func := "fingerpost/fingerpostlaw26.MergeWithdraws", spec := "mergeWithdraws", unfollowed := true, recurses := true, apart := false }
def MergeWithdrawsSaid : Prop := mergeWithdrawsRow.holds Try.pinned (OpenSpec.ofChange mergeWithdrawsSpec)

/-- ITS FALSE NEIGHBOUR: 'it returns false'. Refute it at one input. -/
def mergeWithdrawsWrong : ChangeSpec := { name := "mergeWithdraws", fn := fun _ => fun
  | [d1, d2, d3] => { results := [.lit (.bool false)], args := [d1, d2, d3] }
  | _ => none }
def MergeWithdrawsWrongFalsely : Prop := mergeWithdrawsRow.holds Try.pinned (OpenSpec.ofChange mergeWithdrawsWrong)

/-- 'fingerpostlaw27.SettleWays': WHATEVER THE INPUT: true; the input reads as it did. -/
def settleWaysSpec : ChangeSpec := { name := "settleWays", fn := fun _ => fun
  | [d1, d2, d3] => { results := [.lit (.bool true)], args := [d1, d2, d3] }
  | _ => none }
def settleWaysRow : OpenClaim := { program := "ytfbaikkadndckaa", sum := "941a2ad9d5a0a0b54fddc0aa0bc8fe2a6fbc95399c4767685e217188a519a68d", func := "fingerpost/fingerpostlaw27.SettleWays", spec := "settleWays", unfollowed := true, recurses := true, apart := false }
def SettleWaysSaid : Prop := settleWaysRow.holds Try.pinned (OpenSpec.ofChange settleWaysSpec)

/-- ITS FALSE NEIGHBOUR: 'it returns false'. Refute it at one input. -/
def settleWaysWrong : ChangeSpec := { name := "settleWays", fn := fun _ => fun
  | [d1, d2, d3] => { results := [.lit (.bool false)], args := [d1, d2, d3] }
  | _ => none }
def SettleWaysWrongFalsely : Prop := settleWaysRow.holds Try.pinned (OpenSpec.ofChange settleWaysWrong)

/-- 'fingerpostlaw32.FibOne': WHATEVER THE INPUT: true; the input reads as it did. -/
def fibOneSpec : ChangeSpec := { name := "fibOne", fn := fun _ => fun
  | [d1, d2, d3] => { results := [.lit (.bool true)], args := [d1, d2, d3] }
  | _ => none }
def fibOneRow : OpenClaim := { program := "ytfbaikkadndckaa", sum := "941a2ad9d5a0a0b54fddc0aa0bc8fe2a6fbc95399c4767685e217188a519a68d", func := "fingerpost/fingerpostlaw32.FibOne", spec := "fibOne", unfollowed := true, recurses := true, apart := false }
def FibOneSaid : Prop := fibOneRow.holds Try.pinned (OpenSpec.ofChange fibOneSpec)

/-- ITS FALSE NEIGHBOUR: 'it returns false'. Refute it at one input. -/
def fibOneWrong : ChangeSpec := { name := "fibOne", fn := fun _ => fun
  | [d1, d2, d3] => { results := [.lit (.bool false)], args := [d1, d2, d3] }
  | _ => none }
def FibOneWrongFalsely : Prop := fibOneRow.holds Try.pinned (OpenSpec.ofChange fibOneWrong)

/-- 'fingerpostlaw32.FibChanges': WHATEVER THE INPUT: true; the input reads as it did. -/
def fibChangesSpec : ChangeSpec := { name := "fibChanges", fn := fun _ => fun
  | [d1, d2, d3] => { results := [.lit (.bool true)], args := [d1, d2, d3] }
  | _ => none }
def fibChangesRow : OpenClaim := { program := "ytfbaikkadndckaa", sum := "941a2ad9d5a0a0b54fddc0aa0bc8fe2a6fbc95399c4767685e217188a519a68d", func := "fingerpost/fingerpostlaw32.FibChanges", spec := "fibChanges", unfollowed := true, recurses := true, apart := false }
def FibChangesSaid : Prop := fibChangesRow.holds Try.pinned (OpenSpec.ofChange fibChangesSpec)

/-- ITS FALSE NEIGHBOUR: 'it returns false'. Refute it at one input. -/
def fibChangesWrong : ChangeSpec := { name := "fibChanges", fn := fun _ => fun
  | [d1, d2, d3] => { results := [.lit (.bool false)], args := [d1, d2, d3] }
  | _ => none }
def FibChangesWrongFalsely : Prop := fibChangesRow.holds Try.pinned (OpenSpec.ofChange fibChangesWrong)

/-- 'fingerpostlaw31.LpaSound': WHATEVER THE INPUT: true; the input reads as it did. -/
def lpaSoundSpec : ChangeSpec := { name := "lpaSound", fn := fun _ => fun
  | [d1, d2] => { results := [.lit (.bool true)], args := [d1, d2] }
  | _ => none }
def lpaSoundRow : OpenClaim := { program := "ytfbaikkadndckaa", sum := "941a2ad9d5a0a0b54fddc0aa0bc8fe2a6fbc95399c4767685e217188a519a68d", func := "fingerpost/fingerpostlaw31.LpaSound", spec := "lpaSound", unfollowed := true, recurses := true, apart := false }
def LpaSoundSaid : Prop := lpaSoundRow.holds Try.pinned (OpenSpec.ofChange lpaSoundSpec)

/-- ITS FALSE NEIGHBOUR: 'it returns false'. Refute it at one input. -/
def lpaSoundWrong : ChangeSpec := { name := "lpaSound", fn := fun _ => fun
  | [d1, d2] => { results := [.lit (.bool false)], args := [d1, d2] }
  | _ => none }
def LpaSoundWrongFalsely : Prop := lpaSoundRow.holds Try.pinned (OpenSpec.ofChange lpaSoundWrong)

/-- 'fingerpostlaw31.LpaRises': WHATEVER THE INPUT: true; the input reads as it did. -/
def lpaRisesSpec : ChangeSpec := { name := "lpaRises", fn := fun _ => fun
  | [d1, d2] => { results := [.lit (.bool true)], args := [d1, d2] }
  | _ => none }
def lpaRisesRow : OpenClaim := { program := "ytfbaikkadndckaa", sum := "941a2ad9d5a0a0b54fddc0aa0bc8fe2a6fbc95399c4767685e217188a519a68d", func := "fingerpost/fingerpostlaw31.LpaRises", spec := "lpaRises", unfollowed := true, recurses := true, apart := false }
def LpaRisesSaid : Prop := lpaRisesRow.holds Try.pinned (OpenSpec.ofChange lpaRisesSpec)

/-- ITS FALSE NEIGHBOUR: 'it returns false'. Refute it at one input. -/
def lpaRisesWrong : ChangeSpec := { name := "lpaRises", fn := fun _ => fun
  | [d1, d2] => { results := [.lit (.bool false)], args := [d1, d2] }
  | _ => none }
def LpaRisesWrongFalsely : Prop := lpaRisesRow.holds Try.pinned (OpenSpec.ofChange lpaRisesWrong)

/- THE SECOND FORM. 'bulk': how many values and letters a reading holds, each counted each time it is reached (what is shared counts as often as it is met; a slice's spare places count too). A statement '..UptoSaid' is the law's where the arguments, and the package variables that the reading takes, are together of bulk at most 1048576: NARROWER than '..Said'. Prove '..Said' where nothing that the law and all that it calls make is longer than what came in: it says more and counts as full. Else prove '..UptoSaid'. A law counts once. -/
mutual
def uptoBulk {H : Type} : DataW H → Nat
  | .lit (.string bytes) => bytes.length + 1
  | .lit _ => 1
  | .nil => 1
  | .ptr d => uptoBulk d + 1
  | .slice elems spare => uptoBulkAll elems + uptoBulkAll spare + 1
  | .agg parts => uptoBulkAll parts + 1
  | .iface _ d => uptoBulk d + 1
  | .map entries => uptoBulkEntries entries + 1
  | .held _ => 1
def uptoBulkAll {H : Type} : List (DataW H) → Nat
  | [] => 0
  | d :: r => uptoBulk d + uptoBulkAll r
def uptoBulkEntries {H : Type} : List (Lit × DataW H) → Nat
  | [] => 0
  | x :: r => uptoBulkEntry x + uptoBulkEntries r
def uptoBulkEntry {H : Type} : Lit × DataW H → Nat
  | (.string bytes, d) => bytes.length + uptoBulk d + 1
  | (_, d) => uptoBulk d + 1
 end
def uptoSmall : (H : Type) → List (DataW H) → Bool := fun _ ds => decide (uptoBulkAll ds ≤ 1048576)
def OpenSpec.upto (s : _root_.Go.ChangeSpec) : _root_.Go.OpenSpec := { _root_.Go.OpenSpec.ofChange s with cond := some uptoSmall }

/-- 'fingerpostlaw27.SettleBest', WHERE WHAT IT READS IS OF BULK AT MOST 1048576: true; the input reads as it did. -/
def settleBestUptoRow : OpenClaim := { program := "ytfbaikkadndckaa", sum := "941a2ad9d5a0a0b54fddc0aa0bc8fe2a6fbc95399c4767685e217188a519a68d", func := "fingerpost/fingerpostlaw27.SettleBest", spec := "settleBest", apart := false, narrowed := true }
def SettleBestUptoSaid : Prop := settleBestUptoRow.holds Try.pinned (OpenSpec.upto settleBestSpec)

/-- 'fingerpostlaw28.FeasSays', WHERE WHAT IT READS IS OF BULK AT MOST 1048576: true; the input reads as it did. -/
def feasSaysUptoRow : OpenClaim := { program := "ytfbaikkadndckaa", sum := "941a2ad9d5a0a0b54fddc0aa0bc8fe2a6fbc95399c4767685e217188a519a68d", func := "fingerpost/fingerpostlaw28.FeasSays", spec := "feasSays", apart := false, narrowed := true }
def FeasSaysUptoSaid : Prop := feasSaysUptoRow.holds Try.pinned (OpenSpec.upto feasSaysSpec)

/-- 'fingerpostlaw28.FeasLowers', WHERE WHAT IT READS IS OF BULK AT MOST 1048576: true; the input reads as it did. -/
def feasLowersUptoRow : OpenClaim := { program := "ytfbaikkadndckaa", sum := "941a2ad9d5a0a0b54fddc0aa0bc8fe2a6fbc95399c4767685e217188a519a68d", func := "fingerpost/fingerpostlaw28.FeasLowers", spec := "feasLowers", apart := false, narrowed := true }
def FeasLowersUptoSaid : Prop := feasLowersUptoRow.holds Try.pinned (OpenSpec.upto feasLowersSpec)

/-- 'fingerpostlaw28.FeasSpares', WHERE WHAT IT READS IS OF BULK AT MOST 1048576: true; the input reads as it did. -/
def feasSparesUptoRow : OpenClaim := { program := "ytfbaikkadndckaa", sum := "941a2ad9d5a0a0b54fddc0aa0bc8fe2a6fbc95399c4767685e217188a519a68d", func := "fingerpost/fingerpostlaw28.FeasSpares", spec := "feasSpares", apart := false, narrowed := true }
def FeasSparesUptoSaid : Prop := feasSparesUptoRow.holds Try.pinned (OpenSpec.upto feasSparesSpec)

/-- 'fingerpostlaw27.SettleSound', WHERE WHAT IT READS IS OF BULK AT MOST 1048576: true; the input reads as it did. -/
def settleSoundUptoRow : OpenClaim := { program := "ytfbaikkadndckaa", sum := "941a2ad9d5a0a0b54fddc0aa0bc8fe2a6fbc95399c4767685e217188a519a68d", func := "fingerpost/fingerpostlaw27.SettleSound", spec := "settleSound", apart := false, narrowed := true }
def SettleSoundUptoSaid : Prop := settleSoundUptoRow.holds Try.pinned (OpenSpec.upto settleSoundSpec)

/-- 'fingerpostlaw26.MergeMakes', WHERE WHAT IT READS IS OF BULK AT MOST 1048576: true; the input reads as it did. -/
def mergeMakesUptoRow : OpenClaim := { program := "ytfbaikkadndckaa", sum := "941a2ad9d5a0a0b54fddc0aa0bc8fe2a6fbc95399c4767685e217188a519a68d", func := "fingerpost/fingerpostlaw26.MergeMakes", spec := "mergeMakes", unfollowed := true, recurses := true, apart := false, narrowed := true }
def MergeMakesUptoSaid : Prop := mergeMakesUptoRow.holds Try.pinned (OpenSpec.upto mergeMakesSpec)

/-- 'fingerpostlaw26.MergeWithdraws', WHERE WHAT IT READS IS OF BULK AT MOST 1048576: true; the input reads as it did. -/
def mergeWithdrawsUptoRow : OpenClaim := { program := "ytfbaikkadndckaa", sum := "941a2ad9d5a0a0b54fddc0aa0bc8fe2a6fbc95399c4767685e217188a519a68d", func := "fingerpost/fingerpostlaw26.MergeWithdraws", spec := "mergeWithdraws", unfollowed := true, recurses := true, apart := false, narrowed := true }
def MergeWithdrawsUptoSaid : Prop := mergeWithdrawsUptoRow.holds Try.pinned (OpenSpec.upto mergeWithdrawsSpec)

/-- 'fingerpostlaw27.SettleWays', WHERE WHAT IT READS IS OF BULK AT MOST 1048576: true; the input reads as it did. -/
def settleWaysUptoRow : OpenClaim := { program := "ytfbaikkadndckaa", sum := "941a2ad9d5a0a0b54fddc0aa0bc8fe2a6fbc95399c4767685e217188a519a68d", func := "fingerpost/fingerpostlaw27.SettleWays", spec := "settleWays", unfollowed := true, recurses := true, apart := false, narrowed := true }
def SettleWaysUptoSaid : Prop := settleWaysUptoRow.holds Try.pinned (OpenSpec.upto settleWaysSpec)

/-- 'fingerpostlaw32.FibOne', WHERE WHAT IT READS IS OF BULK AT MOST 1048576: true; the input reads as it did. -/
def fibOneUptoRow : OpenClaim := { program := "ytfbaikkadndckaa", sum := "941a2ad9d5a0a0b54fddc0aa0bc8fe2a6fbc95399c4767685e217188a519a68d", func := "fingerpost/fingerpostlaw32.FibOne", spec := "fibOne", unfollowed := true, recurses := true, apart := false, narrowed := true }
def FibOneUptoSaid : Prop := fibOneUptoRow.holds Try.pinned (OpenSpec.upto fibOneSpec)

/-- 'fingerpostlaw32.FibChanges', WHERE WHAT IT READS IS OF BULK AT MOST 1048576: true; the input reads as it did. -/
def fibChangesUptoRow : OpenClaim := { program := "ytfbaikkadndckaa", sum := "941a2ad9d5a0a0b54fddc0aa0bc8fe2a6fbc95399c4767685e217188a519a68d", func := "fingerpost/fingerpostlaw32.FibChanges", spec := "fibChanges", unfollowed := true, recurses := true, apart := false, narrowed := true }
def FibChangesUptoSaid : Prop := fibChangesUptoRow.holds Try.pinned (OpenSpec.upto fibChangesSpec)

/-- 'fingerpostlaw31.LpaSound', WHERE WHAT IT READS IS OF BULK AT MOST 1048576: true; the input reads as it did. -/
def lpaSoundUptoRow : OpenClaim := { program := "ytfbaikkadndckaa", sum := "941a2ad9d5a0a0b54fddc0aa0bc8fe2a6fbc95399c4767685e217188a519a68d", func := "fingerpost/fingerpostlaw31.LpaSound", spec := "lpaSound", unfollowed := true, recurses := true, apart := false, narrowed := true }
def LpaSoundUptoSaid : Prop := lpaSoundUptoRow.holds Try.pinned (OpenSpec.upto lpaSoundSpec)

/-- 'fingerpostlaw31.LpaRises', WHERE WHAT IT READS IS OF BULK AT MOST 1048576: true; the input reads as it did. -/
def lpaRisesUptoRow : OpenClaim := { program := "ytfbaikkadndckaa", sum := "941a2ad9d5a0a0b54fddc0aa0bc8fe2a6fbc95399c4767685e217188a519a68d", func := "fingerpost/fingerpostlaw31.LpaRises", spec := "lpaRises", unfollowed := true, recurses := true, apart := false, narrowed := true }
def LpaRisesUptoSaid : Prop := lpaRisesUptoRow.holds Try.pinned (OpenSpec.upto lpaRisesSpec)

end Rows
end Go.Proofs.Ytfbaikkadndckaa
