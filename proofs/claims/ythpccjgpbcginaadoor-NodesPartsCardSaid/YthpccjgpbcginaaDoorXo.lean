/- What is answered by hand is what the functions do. -/
import Derived.Test.YthpccjgpbcginaaDoorEvG
import Derived.Test.YthpccjgpbcginaaDoorEvZ
import Derived.Test.YthpccjgpbcginaaDoorFacts
import Derived.Test.YthpccjgpbcginaaDoorPr
namespace Go.Proofs.YthpccjgpbcginaaDoor.Ev
open Go
attribute [local congr] ob_congr sq_congr cd_congr ite_congr1 iter_congr it1_congr jumps_congr
set_option maxRecDepth 100000
set_option linter.unusedSimpArgs false
set_option linter.unusedVariables false
theorem isF_eq {a f : Nat} (h : isF (some a) f = true) : f = a := (beq_iff_eq.1 h).symm
theorem it_ok : ∀ f l r, isF itF f = true → itRes l = some r → CallOK Tryd.prog f l r := by
  intro f l r hf h
  cases hf
theorem pa_ok : ∀ f l r, isF paF f = true → paRes l = some r → CallOK Tryd.prog f l r := by
  intro f l r hf h
  obtain rfl := isF_eq hf
  unfold paRes at h
  split at h
  · cases h; exact parse_ok _
  · cases h
theorem xt_ok : ∀ f l r, xt f l = some r → CallOK Tryd.prog f l r := by
  intro f l r h
  unfold xt at h
  cases h1 : isF itF f with
  | true => rw [h1] at h; exact it_ok f l r h1 h
  | false =>
    rw [h1] at h
    simp only at h
    cases h2 : isF paF f with
    | true => rw [h2] at h; exact pa_ok f l r h2 h
    | false => rw [h2] at h; cases h
end Go.Proofs.YthpccjgpbcginaaDoor.Ev
