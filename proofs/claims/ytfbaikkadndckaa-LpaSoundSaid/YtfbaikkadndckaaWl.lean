/- What the functions of walk compute: hops, children, what is below, where two meet, the order, the leaves; the document's ways back. -/
import Derived.Test.YtfbaikkadndckaaWk
namespace Go.Proofs.Ytfbaikkadndckaa.Ev
open Go
attribute [local congr] ob_congr sq_congr cd_congr ite_congr1 iter_congr it1_congr jumps_congr
set_option maxRecDepth 100000
set_option linter.unusedSimpArgs false
set_option linter.unusedVariables false


noncomputable def hopsF (d p : Nat → Int) (root j : Int) : Int := ((backL d p root j).length : Int) - 1
theorem hops_wrap (d p : Nat → Int) (root j : Int) : IntKind.i64.wrap (((backL d p root j).length : Int) - 1) = hopsF d p root j := by
  have := backL_len d p root j
  unfold hopsF; exact wrap_id ⟨by omega, by omega⟩
theorem backOk_iff (d p : Nat → Int) (root j : Int) : backOk d p root j = true ↔ backL d p root j ≠ [] := by
  unfold backOk
  rw [decide_eq_true_iff, ← List.length_pos_iff]
  omega
theorem hops_ev (k : Nat) (d p : Nat → Int) (root j : Int) : evF Try.prog env xt (k+4) 137 [.d (treeD d p), .d (.s (.int .i64 (root))), .d (.s (.int .i64 (j)))] = some (.d (.s (.int .i64 (hopsF d p root j)))) := by
  rw [evF_eq Try.func137 (show Try.f137.body = some _ from rfl) rfl rfl (by show 3 ≤ 19; decide)]
  simp (decide := true) only [back_ev, ints_length, hops_wrap, Try.f137, rid, ↓sBp, sBq, List.all_cons, List.all_nil, List.map_cons, List.map_nil, D.shape, Sh.sub, Sh.size, List.getElem?_cons_zero, List.getElem?_cons_succ, Option.bind_some, Option.bind_none, Option.getD_some, Option.getD_none, V.keysIn, V.kill, V.has, decide_eq_true_eq, beq_iff_eq, bne_iff_ne, ne_eq, Bool.not_eq_true', Bool.and_true, Bool.and_self, Bool.true_and, if_true, if_false, reduceIte, Bool.false_eq_true, decide_true, decide_false, beq_self_eq_true, Bool.not_true, Bool.not_false, true_and, and_true, and_self, List.append_assoc, List.nil_append, List.cons_append, Int.toNat_natCast, ck, Int.cast_ofNat_Int, Int.reduceToNat, bne_self_eq_false, Bool.or_false, Bool.false_or, Bool.false_and, Bool.and_false, Bool.or_true, Bool.true_or]

def childC (d p : Nat → Int) (n : Int) (k : Nat) : Bool := right n && ((k : Int) != n && (p k == n && d k != 4294967295))
def childF (d p : Nat → Int) (n : Int) : Int := setOf (childC d p n) 16
theorem setOf_none {c : Nat → Bool} (h : ∀ k, c k = false) : ∀ n, setOf c n = 0
  | 0 => rfl
  | n + 1 => by
    show (if c n = true then withN (setOf c n) n else setOf c n) = 0
    rw [h n]; simpa using setOf_none h n


noncomputable def belowC (d p : Nat → Int) (root n : Int) (k : Nat) : Bool := decide (n ∈ backL d p root k)
noncomputable def belowF (d p : Nat → Int) (root n : Int) : Int := setOf (belowC d p root n) 16
theorem back_small (d p : Nat → Int) (root j : Int) : (backL d p root j).length < 1000000 := Nat.lt_of_le_of_lt (backL_len d p root j) (by omega)
end Go.Proofs.Ytfbaikkadndckaa.Ev
