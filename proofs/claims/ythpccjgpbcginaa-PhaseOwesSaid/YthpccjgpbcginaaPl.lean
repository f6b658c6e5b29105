/- PhaseOwes: what is owed is as many replies as are waited for: the plain law and the statement. -/
import Derived.Test.YthpccjgpbcginaaPt
import Derived.Test.YthpccjgpbcginaaFacts
import Derived.Test.YthpccjgpbcginaaRows
import Derived.ProofKit
import Derived.OpenShut
namespace Go.Proofs.Ythpccjgpbcginaa.Ev
open Go
attribute [local congr] ob_congr sq_congr cd_congr ite_congr1 iter_congr it1_congr jumps_congr
set_option maxRecDepth 100000
set_option linter.unusedSimpArgs false
set_option linter.unusedVariables false
def sumN (f : Nat → Int) (n : Nat) : Int := upto (fun k s => s + f k) 0 n
theorem sumN_succ (f : Nat → Int) (n : Nat) : sumN f (n + 1) = sumN f n + f n := rfl
theorem sumN_congr {f g : Nat → Int} : ∀ n, (∀ k, k < n → f k = g k) → sumN f n = sumN g n
  | 0, _ => rfl
  | n + 1, h => by rw [sumN_succ, sumN_succ, sumN_congr n (fun k hk => h k (by omega)), h n (by omega)]
theorem sumN_add (f g : Nat → Int) : ∀ n, sumN (fun k => f k + g k) n = sumN f n + sumN g n
  | 0 => rfl
  | n + 1 => by rw [sumN_succ, sumN_succ, sumN_succ, sumN_add f g n]; omega
theorem sumN_zero : ∀ n, sumN (fun _ => 0) n = 0
  | 0 => rfl
  | n + 1 => by rw [sumN_succ, sumN_zero n]; rfl
theorem sumN_swap (f : Nat → Nat → Int) (m : Nat) : ∀ n, sumN (fun i => sumN (f i) m) n = sumN (fun j => sumN (fun i => f i j) n) m
  | 0 => (sumN_zero m).symm
  | n + 1 => by
    rw [sumN_succ, sumN_swap f m n, ← sumN_add]
    exact sumN_congr m fun k _ => rfl
theorem sumTo_list (g : Int → Int) (L : List Int) : ∀ k, k ≤ L.length → sumTo g L k = ((L.take k).map g).sum
  | 0, _ => rfl
  | k + 1, h => by
    have e : L.getD k 0 = L[k] := by simp [List.getD, List.getElem?_eq_getElem (by omega : k < L.length)]
    rw [sumTo_succ g L k e, sumTo_list g L k (by omega), List.take_succ_eq_append_getElem (by omega)]
    simp only [List.map_append, List.sum_append, List.map_cons, List.map_nil, List.sum_cons, List.sum_nil]
    omega
theorem sum_listTo (g : Int → Int) (s : Int) : ∀ k, ((listTo s k).map g).sum = sumN (fun i => if has s i = true then g i else 0) k
  | 0 => rfl
  | k + 1 => by
    rw [listTo_succ, sumN_succ, ← sum_listTo g s k]
    by_cases h : has s k = true <;> simp [h]
theorem countF_sum (s : Int) : countF s = sumN (fun i => if has s i = true then 1 else 0) 16 := by
  rw [← sum_listTo (fun _ => 1) s 16]
  unfold countF
  generalize listTo s 16 = l
  induction l with
  | nil => rfl
  | cons x l ih => simp only [List.length_cons, List.map_cons, List.sum_cons] at ih ⊢; omega
theorem owed_sum (a : Int) (w : Nat → Int) : owedF a w = sumN (fun j => sumN (fun m => if (has a j && has (w j) m) = true then 1 else 0) 16) 16 := by
  unfold owedF
  rw [sumTo_list _ _ _ (Nat.le_refl _), List.take_length, sum_listTo]
  refine sumN_congr 16 fun j hj => ?_
  rw [Int.toNat_natCast]
  cases ha : has a j with
  | true =>
    simp only [if_true, Bool.true_and]
    exact countF_sum (w j)
  | false =>
    simp only [Bool.false_eq_true, if_false, Bool.false_and]
    exact (sumN_zero 16).symm
theorem waitSum_sum (a : Int) (w : Nat → Int) : waitSum a w 16 = sumN (fun m => sumN (fun j => if (has a j && has (w j) m) = true then 1 else 0) 16) 16 := by
  show sumN (fun m => countF (setOf (fun k => has a k && has (w k) (m : Int)) 16)) 16 = _
  refine sumN_congr 16 fun m hm => ?_
  rw [countF_sum]
  refine sumN_congr 16 fun j hj => ?_
  rw [has_setOf _ hj]
theorem quiet_iff (a : Int) (w : Nat → Int) (hw : ∀ i, inI (w i)) : ∀ k, k ≤ (listTo a 16).length → (sumTo (fun j => countF (w j.toNat)) (listTo a 16) k == 0) = quietTo w (listTo a 16) k
  | 0, _ => rfl
  | k + 1, h => by
    have hb := sumTo_bd (g := fun j => countF (w j.toNat)) (fun x => countF_bd _) (listTo a 16) k
    have hc := countF_bd (w ((listTo a 16).getD k 0).toNat)
    have ih := quiet_iff a w hw k (by omega)
    rw [sumTo_succ _ _ k rfl, quietTo_succ w _ k rfl, ← ih]
    have e : (bits .and .i64 (w ((listTo a 16).getD k 0).toNat) 65535 == 0) = (countF (w ((listTo a 16).getD k 0).toNat) == 0) := by
      have h1 := low_zero (hw ((listTo a 16).getD k 0).toNat)
      rw [Bool.eq_iff_iff, beq_iff_eq, beq_iff_eq, h1]
      unfold countF
      rw [← List.length_eq_zero_iff]
      omega
    rw [e]
    generalize sumTo (fun j => countF (w j.toNat)) (listTo a 16) k = x at *
    generalize countF (w ((listTo a 16).getD k 0).toNat) = y at *
    rw [Bool.eq_iff_iff, Bool.and_eq_true, beq_iff_eq, beq_iff_eq, beq_iff_eq]
    omega
theorem phaseOwes_ev (a : Int) (w : Nat → Int) (hw : ∀ i, inI (w i)) : evF Try.prog env noext (30) 10 [.d (phD a w)] = some (.d (.s (.bool (true)))) :=
  phaseOwes_run a w hw (by rw [owed_sum, waitSum_sum]; exact sumN_swap _ 16 16) (quiet_iff a w hw _ (Nat.le_refl _))
theorem phase_open {x : D} (h : x.shape = shP) (hw : x.WF) (hf : x.fits) : ∃ a w, x = phD a w ∧ inI a ∧ ∀ i, inI (w i) := by
  obtain ⟨e, ⟨w1, s1, f1⟩, w2, s2, f2⟩ := cons_open h hw hf
  obtain ⟨e2, ⟨w3, s3, f3⟩, w4, s4, f4⟩ := cons_open s2 w2 f2
  obtain ⟨q1, r1⟩ := cell_i s1 f1
  obtain ⟨e3, q3⟩ := arr_open s3 w3 f3
  refine ⟨intOf (hdD x), fun i => intOf (arrF (hdD (tlD x)) i), ?_, r1, fun i => (cell_i (q3 i).2.1 (q3 i).2.2).2⟩
  rw [e, e2, q1, e3, of_nil s4]
  exact cons2 rfl (cons2 (congrArg (D.arr 16 cI) (funext fun i => (cell_i (q3 i).2.1 (q3 i).2.2).1)) rfl)
theorem phaseOwes_data (x0 : D) (w0 : x0.WF) (s0 : x0.shape = shP) (f0 : x0.fits) : evF Try.prog env noext (30) 10 [.d x0] = some (.d (.s (.bool (true)))) := by
  obtain ⟨a, w, rfl, _, hw⟩ := phase_open s0 w0 f0
  exact phaseOwes_ev a w hw
open Go.ChangeShapes Go.WideShapes Go.ChangeAt Go.RowKit
set_option maxRecDepth 100000
theorem own : ownKnob Try.prog.godebug = none := by kernel_rfl
theorem laidOut : laidOutB Try.prog = true := by kernel_rfl
theorem lifted (os : Os) (started : os.Started) (H : Type) (enc : TypeId × Value → H) :
    ReturnsInHanded {} Try.checked os 10 .any (Rows.phaseOwesSpec.pre6 enc Try.prog Try.f10 Rows.phaseOwesRow.domain false) (Rows.phaseOwesSpec.post enc Try.prog Try.f10 false true false false) := by
  refine returnsInHanded_of_change (C := Try.checked) own started (by kernel_rfl) Try.func10
    (ChangeSpec.witness6 (enc := enc) (C := Try.checked) false ⟨#[], #[Z34.val], []⟩ 8 (by kernel_rfl) (by kernel_rfl) (by kernel_rfl) (by kernel_rfl)) ?_
  intro W base args ds gs before hval0 hW hcnd _
  have hval : ∀ (j : Nat) t v, Try.f10.params[j]? = some t → args[j]? = some v → Value.okWide Try.prog W .any base t v := hval0
  have hW' := hW
  obtain ⟨p, q, hA0, hV, rfl, hfz, hnd⟩ := hW
  have hA : DataW.TrodAll enc Try.prog W 0 (fun _ => true) true Try.f10.params.toList args.toList ds p := hA0
  rw [Try.params10] at hA hval
  obtain ⟨v0, vs0, d0, ds0, p0, q0, hargs, rfl, rfl, h0, r0⟩ := trodAll_cons hA
  obtain ⟨rfl, rfl, rfl⟩ := trodAll_nil r0
  obtain rfl : args = #[v0] := by cases args; simp_all
  obtain ⟨rfl, rfl⟩ := trodVars_none hV
  have k0 := h0
  have lt0 : ∀ x ∈ p0, x.block < W.heap.size := by obtain ⟨m, hm⟩ := k0; exact DataW.trod_lt m _ _ _ hm
  obtain ⟨x0, rfl, w0, s0, f0⟩ := open_data (d := 8) (sh := shP) (by kernel_rfl) (hval 0 34 v0 rfl rfl) h0
  clear hA0 hval0
  refine ((evF_sound env_ok fns_ok (ext := noext) (fun _ _ _ h => by cases h) 30 10 _ _ (phaseOwes_data x0 w0 s0 f0)).run W [x0.val] ⟨⟨w0, rfl⟩, trivial⟩).mono fun e W' ⟨u, he, bel, hr⟩ => ?_
  obtain rfl : u = .bool true := hr.2
  subst he
  exact ⟨_, rfl, _, _, _, [], _, [], hW', trodAll_mk1 (shut_bool Try.underlying4 _), trodAll_cons_mk (Below.trod laidOut (by kernel_rfl) (of_decide_eq_true (by kernel_rfl)) k0 bel lt0) trodAll_mk0, rfl, bel.frame _, fun h => by cases h⟩
theorem over : Rows.phaseOwesRow.holds Try.pinned (OpenSpec.ofChange Rows.phaseOwesSpec) :=
  OpenClaim.holds_of_wide 10 Try.f10 rfl rfl rfl rfl rfl rfl rfl ⟨rfl, rfl, rfl, rfl, rfl⟩ rfl rfl rfl rfl rfl (by kernel_rfl) Try.func10 (by kernel_rfl)
    (of_decide_eq_true (by kernel_rfl)) (by unfold Func.isWrapper; first | (rw [if_pos (by decide +kernel)]; kernel_rfl) | (rw [if_neg (by decide +kernel)]; exact ⟨rfl, rfl⟩))
    (fun os started H enc _ => lifted os started H enc)
theorem phaseOwes_proved : Rows.PhaseOwesSaid := over
#print axioms phaseOwes_proved
end Go.Proofs.Ythpccjgpbcginaa.Ev
