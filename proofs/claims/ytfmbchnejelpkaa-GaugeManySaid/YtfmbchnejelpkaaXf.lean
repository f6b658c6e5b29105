/- Entries of the model's own: the bits of a number, and back. -/
import Derived.Test.YtfmbchnejelpkaaEvM
import Derived.Test.YtfmbchnejelpkaaChecked
import Derived.Test.YtfmbchnejelpkaaEnv
import Derived.Test.YtfmbchnejelpkaaEvG
import Derived.Test.YtfmbchnejelpkaaFacts
import Derived.KernelRfl
namespace Go.Proofs.Ytfmbchnejelpkaa.Ev
open Go
attribute [local congr] ob_congr sq_congr cd_congr ite_congr1 iter_congr it1_congr jumps_congr
set_option maxRecDepth 100000
set_option linter.unusedSimpArgs false
set_option linter.unusedVariables false
abbrev dF (b : Nat) : D := .s (.float .f64 b)
abbrev cF : Sh := .cell (.float .f64)
def xf (f : Nat) (l : List V) : Option V :=
  match f, l with
  | 33, [.d (.s (.float .f64 b))] => some (.d (.s (.int .u64 b)))
  | 34, [.d (.s (.int .u64 n))] => some (.d (.s (.float .f64 n.toNat)))
  | _, _ => none
theorem xf_ok : ∀ f l r, xf f l = some r → ∀ w, CallX Try.prog w f l r := by
  intro f l r h w
  unfold xf at h
  split at h
  · rename_i b
    cases h
    refine .plain rfl <| .inr ⟨Try.f33, Extern.MathFloatBits.float64bits, Try.func33, by kernel_rfl, by kernel_rfl, by kernel_rfl, by kernel_rfl, fun vs hra => ?_⟩
    cases vs with
    | nil => exact hra.elim
    | cons u us =>
      cases us with
      | cons => exact hra.2.elim
      | nil =>
        obtain ⟨⟨_, rfl⟩, _⟩ := hra
        exact ⟨.int .u64 b, w, rfl, Below.refl _ _, rfl, rfl⟩
  · rename_i n
    cases h
    refine .plain rfl <| .inr ⟨Try.f34, Extern.MathFloatBits.float64frombits, Try.func34, by kernel_rfl, by kernel_rfl, by kernel_rfl, by kernel_rfl, fun vs hra => ?_⟩
    cases vs with
    | nil => exact hra.elim
    | cons u us =>
      cases us with
      | cons => exact hra.2.elim
      | nil =>
        obtain ⟨⟨_, rfl⟩, _⟩ := hra
        exact ⟨.float .f64 n.toNat, w, rfl, Below.refl _ _, rfl, rfl⟩
  · cases h
theorem bits_ev (k b : Nat) : evF Try.prog env xf (k+1) 33 [.d (dF b)] = some (.d (.s (.int .u64 b))) := nr rfl
theorem frombits_ev (k : Nat) (n : Int) : evF Try.prog env xf (k+1) 34 [.d (.s (.int .u64 n))] = some (.d (dF n.toNat)) := nr rfl
theorem xf_sound {k f : Nat} {l : List V} {r : V} (h : evF Try.prog env xf k f l = some r) (he : xf f l = none) (hm : mutq f l = false) : CallOK Try.prog f l r := (evF_soundX env_ok fns_ok xf_ok k f l r h).2 he hm
end Go.Proofs.Ytfmbchnejelpkaa.Ev
