/- What is answered by hand is what the functions do. -/
import Derived.Test.YtjceimcepogkaaaGreatDoorEvG
import Derived.Test.YtjceimcepogkaaaGreatDoorEvZ
import Derived.Test.YtjceimcepogkaaaGreatDoorFacts
import Derived.Test.YtjceimcepogkaaaGreatDoorIu
namespace Go.Proofs.YtjceimcepogkaaaGreatDoor.Ev
open Go
attribute [local congr] ob_congr sq_congr cd_congr ite_congr1 iter_congr it1_congr jumps_congr
set_option maxRecDepth 100000
set_option linter.unusedSimpArgs false
set_option linter.unusedVariables false
theorem isF_eq {a f : Nat} (h : isF (some a) f = true) : f = a := (beq_iff_eq.1 h).symm
theorem it_ok : ∀ f l r, isF itF f = true → itRes l = some r → CallOK Tryz.prog f l r := by
  intro f l r hf h
  obtain rfl := isF_eq hf
  unfold itRes at h
  split at h
  · rename_i x t a q
    by_cases hs : x.shape = shT
    · rw [if_pos hs] at h
      cases h
      refine ⟨itemsFn, fun w vs hra => ?_⟩
      have hw : x.WF := by
        cases vs with
        | nil => exact hra.elim
        | cons u us => exact hra.1.1
      obtain ⟨d, p, hd, hp, e⟩ : ∃ d p, (fun i => entU (arrF x i)) = d ∧ (fun i => entI (arrF x i)) = p ∧ x = treeD d p := ⟨_, _, rfl, rfl, tree_of hs hw⟩
      rw [hd, hp]
      subst e
      exact (items_ok d p t a q).run w vs hra
    · rw [if_neg hs] at h; cases h
  · cases h
theorem pa_ok : ∀ f l r, isF paF f = true → paRes l = some r → CallOK Tryz.prog f l r := by
  intro f l r hf h
  cases hf
theorem xt_ok : ∀ f l r, xt f l = some r → CallOK Tryz.prog f l r := by
  intro f l r h
  unfold xt at h
  cases h1 : isF itF f with
  | true => rw [h1] at h; exact it_ok f l r h1 h
  | false =>
    rw [h1] at h
    simp only at h
    cases h2 : isF paF f with
    | true => rw [h2] at h; exact pa_ok f l r h2 h
    | false => rw [h2] at h; cases h
end Go.Proofs.YtjceimcepogkaaaGreatDoor.Ev
