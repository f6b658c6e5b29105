/-
  No cell of these rows narrows 'for every input' (looked for: loops, veiled, ifaces, maps, wideKeys, modest, calm, conditions, laid).
  DERIVED. THE GIVEN ROWS OF THIS SEAT. 4 by the template 'for every input the law returns true; each argument reads behind the call as it read before'; 0 by the template 'total and deterministic' (their statements: YtfmbchnejelpkaaTotals.lean).
  GIVEN WITH THE SEED: the statements are not yours to turn. If you find one false, say at which input.
  Laid BY PROGRAM, IN A SANDBOX (cutbox-rows.mjs): the forced cells as the released guide's own fill.sh prints them over the translation 2ada4559a9ad5f68… (all of the seat's roots in one cut). By AI agents, Wed Nov 11 2026. No macro, syntax, notation, axiom, sorry.
-/
import Derived.Test.YtfmbchnejelpkaaChecked
import GoSem.Claim
import GoSem.ClaimJoined
import GoSem.ClaimMapViews
import Derived.JoinedTies
import Derived.KernelRfl
namespace Go.Proofs.Ytfmbchnejelpkaa
/- THE CELL 'sum', in the pinned program and in every row, IS THE sha256 OF THE DUMP (.gsa) THAT YtfmbchnejelpkaaProg.lean LOADS. Nothing in Lean hashes anything: it is a label: what it is worth is what the hold of that sum in a sandbox is worth. -/
noncomputable def Try.pinned : Pinned := { name := "ytfmbchnejelpkaa", sum := "2ada4559a9ad5f6807cf118c55f3e91b8ccbc94294e059cde0a080fef57cea3a", checked := Try.checked }
namespace Rows
def none {H : Type} : Left H := { results := [], args := [] }

/-- 'fingerpostlaw04.GaugeOrder': WHATEVER THE INPUT: true; the input reads as it did. -/
def gaugeOrderSpec : ChangeSpec := { name := "gaugeOrder", fn := fun _ => fun
  | [d1, d2, d3] => { results := [.lit (.bool true)], args := [d1, d2, d3] }
  | _ => none }
def gaugeOrderRow : OpenClaim := { program := "ytfmbchnejelpkaa", sum := "2ada4559a9ad5f6807cf118c55f3e91b8ccbc94294e059cde0a080fef57cea3a", func := "fingerpost/fingerpostlaw04.GaugeOrder", spec := "gaugeOrder", inPlace := ["math.Float64bits", "math.Float64frombits"], apart := false }
def GaugeOrderSaid : Prop := gaugeOrderRow.holds Try.pinned (OpenSpec.ofChange gaugeOrderSpec)

/-- ITS FALSE NEIGHBOUR: 'it returns false'. Refute it at one input. -/
def gaugeOrderWrong : ChangeSpec := { name := "gaugeOrder", fn := fun _ => fun
  | [d1, d2, d3] => { results := [.lit (.bool false)], args := [d1, d2, d3] }
  | _ => none }
def GaugeOrderWrongFalsely : Prop := gaugeOrderRow.holds Try.pinned (OpenSpec.ofChange gaugeOrderWrong)

/-- 'fingerpostlaw04.GaugeCosts': WHATEVER THE INPUT: true; the input reads as it did. -/
def gaugeCostsSpec : ChangeSpec := { name := "gaugeCosts", fn := fun _ => fun
  | [d1, d2] => { results := [.lit (.bool true)], args := [d1, d2] }
  | _ => none }
def gaugeCostsRow : OpenClaim := { program := "ytfmbchnejelpkaa", sum := "2ada4559a9ad5f6807cf118c55f3e91b8ccbc94294e059cde0a080fef57cea3a", func := "fingerpost/fingerpostlaw04.GaugeCosts", spec := "gaugeCosts", inPlace := ["math.Float64bits", "math.Float64frombits"], apart := false }
def GaugeCostsSaid : Prop := gaugeCostsRow.holds Try.pinned (OpenSpec.ofChange gaugeCostsSpec)

/-- ITS FALSE NEIGHBOUR: 'it returns false'. Refute it at one input. -/
def gaugeCostsWrong : ChangeSpec := { name := "gaugeCosts", fn := fun _ => fun
  | [d1, d2] => { results := [.lit (.bool false)], args := [d1, d2] }
  | _ => none }
def GaugeCostsWrongFalsely : Prop := gaugeCostsRow.holds Try.pinned (OpenSpec.ofChange gaugeCostsWrong)

/-- 'fingerpostlaw04.GaugeWhole': WHATEVER THE INPUT: true; the input reads as it did. -/
def gaugeWholeSpec : ChangeSpec := { name := "gaugeWhole", fn := fun _ => fun
  | [d1, d2, d3] => { results := [.lit (.bool true)], args := [d1, d2, d3] }
  | _ => none }
def gaugeWholeRow : OpenClaim := { program := "ytfmbchnejelpkaa", sum := "2ada4559a9ad5f6807cf118c55f3e91b8ccbc94294e059cde0a080fef57cea3a", func := "fingerpost/fingerpostlaw04.GaugeWhole", spec := "gaugeWhole", inPlace := ["math.Float64bits", "math.Float64frombits"], apart := false }
def GaugeWholeSaid : Prop := gaugeWholeRow.holds Try.pinned (OpenSpec.ofChange gaugeWholeSpec)

/-- ITS FALSE NEIGHBOUR: 'it returns false'. Refute it at one input. -/
def gaugeWholeWrong : ChangeSpec := { name := "gaugeWhole", fn := fun _ => fun
  | [d1, d2, d3] => { results := [.lit (.bool false)], args := [d1, d2, d3] }
  | _ => none }
def GaugeWholeWrongFalsely : Prop := gaugeWholeRow.holds Try.pinned (OpenSpec.ofChange gaugeWholeWrong)

/-- 'fingerpostlaw04.GaugeMany': WHATEVER THE INPUT: true; the input reads as it did. -/
def gaugeManySpec : ChangeSpec := { name := "gaugeMany", fn := fun _ => fun
  | [d1, d2] => { results := [.lit (.bool true)], args := [d1, d2] }
  | _ => none }
def gaugeManyRow : OpenClaim := { program := "ytfmbchnejelpkaa", sum := "2ada4559a9ad5f6807cf118c55f3e91b8ccbc94294e059cde0a080fef57cea3a", func := "fingerpost/fingerpostlaw04.GaugeMany", spec := "gaugeMany", inPlace := ["math.Float64bits", "math.Float64frombits"], unfollowed := true, recurses := true, apart := false }
def GaugeManySaid : Prop := gaugeManyRow.holds Try.pinned (OpenSpec.ofChange gaugeManySpec)

/-- ITS FALSE NEIGHBOUR: 'it returns false'. Refute it at one input. -/
def gaugeManyWrong : ChangeSpec := { name := "gaugeMany", fn := fun _ => fun
  | [d1, d2] => { results := [.lit (.bool false)], args := [d1, d2] }
  | _ => none }
def GaugeManyWrongFalsely : Prop := gaugeManyRow.holds Try.pinned (OpenSpec.ofChange gaugeManyWrong)

/- THE SECOND FORM. 'bulk': how many values and letters a reading holds, each counted each time it is reached (what is shared counts as often as it is met; a slice's spare places count too). A statement '..UptoSaid' is the law's where the arguments, and the package variables that the reading takes, are together of bulk at most 1048576: NARROWER than '..Said'. Prove '..Said' where nothing that the law and all that it calls make is longer than what came in: it says more and counts as full. Else prove '..UptoSaid'. A law counts once. -/
mutual
def uptoBulk {H : Type} : DataW H → Nat
  | .lit (.string bytes) => bytes.length + 1
  | .lit _ => 1
  | .nil => 1
  | .ptr d => uptoBulk d + 1
  | .slice elems spare => uptoBulkAll elems + uptoBulkAll spare + 1
  | .agg parts => uptoBulkAll parts + 1
  | .iface _ d => uptoBulk d + 1
  | .map entries => uptoBulkEntries entries + 1
  | .held _ => 1
def uptoBulkAll {H : Type} : List (DataW H) → Nat
  | [] => 0
  | d :: r => uptoBulk d + uptoBulkAll r
def uptoBulkEntries {H : Type} : List (Lit × DataW H) → Nat
  | [] => 0
  | x :: r => uptoBulkEntry x + uptoBulkEntries r
def uptoBulkEntry {H : Type} : Lit × DataW H → Nat
  | (.string bytes, d) => bytes.length + uptoBulk d + 1
  | (_, d) => uptoBulk d + 1
 end
def uptoSmall : (H : Type) → List (DataW H) → Bool := fun _ ds => decide (uptoBulkAll ds ≤ 1048576)
def OpenSpec.upto (s : _root_.Go.ChangeSpec) : _root_.Go.OpenSpec := { _root_.Go.OpenSpec.ofChange s with cond := some uptoSmall }

/-- 'fingerpostlaw04.GaugeOrder', WHERE WHAT IT READS IS OF BULK AT MOST 1048576: true; the input reads as it did. -/
def gaugeOrderUptoRow : OpenClaim := { program := "ytfmbchnejelpkaa", sum := "2ada4559a9ad5f6807cf118c55f3e91b8ccbc94294e059cde0a080fef57cea3a", func := "fingerpost/fingerpostlaw04.GaugeOrder", spec := "gaugeOrder", inPlace := ["math.Float64bits", "math.Float64frombits"], apart := false, narrowed := true }
def GaugeOrderUptoSaid : Prop := gaugeOrderUptoRow.holds Try.pinned (OpenSpec.upto gaugeOrderSpec)

/-- 'fingerpostlaw04.GaugeCosts', WHERE WHAT IT READS IS OF BULK AT MOST 1048576: true; the input reads as it did. -/
def gaugeCostsUptoRow : OpenClaim := { program := "ytfmbchnejelpkaa", sum := "2ada4559a9ad5f6807cf118c55f3e91b8ccbc94294e059cde0a080fef57cea3a", func := "fingerpost/fingerpostlaw04.GaugeCosts", spec := "gaugeCosts", inPlace := ["math.Float64bits", "math.Float64frombits"], apart := false, narrowed := true }
def GaugeCostsUptoSaid : Prop := gaugeCostsUptoRow.holds Try.pinned (OpenSpec.upto gaugeCostsSpec)

/-- 'fingerpostlaw04.GaugeWhole', WHERE WHAT IT READS IS OF BULK AT MOST 1048576: true; the input reads as it did. -/
def gaugeWholeUptoRow : OpenClaim := { program := "ytfmbchnejelpkaa", sum := "2ada4559a9ad5f6807cf118c55f3e91b8ccbc94294e059cde0a080fef57cea3a", func := "fingerpost/fingerpostlaw04.GaugeWhole", spec := "gaugeWhole", inPlace := ["math.Float64bits", "math.Float64frombits"], apart := false, narrowed := true }
def GaugeWholeUptoSaid : Prop := gaugeWholeUptoRow.holds Try.pinned (OpenSpec.upto gaugeWholeSpec)

/-- 'fingerpostlaw04.GaugeMany', WHERE WHAT IT READS IS OF BULK AT MOST 1048576: true; the input reads as it did. -/
def gaugeManyUptoRow : OpenClaim := { program := "ytfmbchnejelpkaa", sum := "2ada4559a9ad5f6807cf118c55f3e91b8ccbc94294e059cde0a080fef57cea3a", func := "fingerpost/fingerpostlaw04.GaugeMany", spec := "gaugeMany", inPlace := ["math.Float64bits", "math.Float64frombits"], unfollowed := true, recurses := true, apart := false, narrowed := true }
def GaugeManyUptoSaid : Prop := gaugeManyUptoRow.holds Try.pinned (OpenSpec.upto gaugeManySpec)

end Rows
end Go.Proofs.Ytfmbchnejelpkaa
