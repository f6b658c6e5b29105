/- A sorted list of ways is the only one. -/
import Derived.Test.YtfbaikkadndckaaSd
import Derived.Test.YtfbaikkadndckaaSl
namespace Go.Proofs.Ytfbaikkadndckaa.Ev
open Go
attribute [local congr] ob_congr sq_congr cd_congr ite_congr1 iter_congr it1_congr jumps_congr
set_option maxRecDepth 100000
set_option linter.unusedSimpArgs false
set_option linter.unusedVariables false
theorem sorted_unique {d d' : Array (Int × Int)} (hp : Go.Sort.PermIn 0 d.size d d') (hs : Go.Sort.SortedIn (Go.Proofs.ltOf cfW) 0 d.size d') {l : List (Int × Int)} (hl : l.Perm d.toList) (hsl : l.Pairwise leW) : d'.toList = l := by
  obtain ⟨h1, _, h3⟩ := hp
  rw [Array.extract_eq_self_of_le (by omega), Array.extract_eq_self_of_le (by omega)] at h3
  refine List.Perm.eq_of_pairwise (le := leW) (fun a b _ _ p q => ?_) ?_ hsl (h3.trans hl.symm)
  · unfold leW at p q
    refine Prod.ext ?_ ?_ <;> omega
  · rw [List.pairwise_iff_getElem]
    intro i j hi hj hij
    have hi' : i < d'.size := by simpa using hi
    have hj' : j < d'.size := by simpa using hj
    have h := hs i j (Nat.zero_le _) hij (by omega)
    rw [ltW, getElem!_pos d' i hi', getElem!_pos d' j hj'] at h
    unfold leW
    simp only [Array.getElem_toList]
    simp only [decide_eq_false_iff_not] at h
    omega
end Go.Proofs.Ytfbaikkadndckaa.Ev
