/- PhaseDone: what was started is done once all have replied, or are gone, and not sooner; others' replies do nothing to it: the plain law, and the statement. -/
import Derived.Test.YthpccjgpbcginaaPa
import Derived.Test.YthpccjgpbcginaaWk
import Derived.Test.YthpccjgpbcginaaFacts
import Derived.Test.YthpccjgpbcginaaEvF
import Derived.Test.YthpccjgpbcginaaRows
import Derived.WalkKit
import Derived.ProofKit
import Derived.OpenShut
namespace Go.Proofs.Ythpccjgpbcginaa.Ev
open Go
set_option linter.unusedSimpArgs false
set_option linter.unusedVariables false

theorem has_one {m : Nat} (hm : m < 16) (i : Int) : has (withN 0 m) i = (right i && decide (i = m)) := by
  rw [has_withN inI_zero, has_zero, right_of hm]
  by_cases h : i = m
  · subst h; simp [right_of hm]
  · simp [h]
theorem range_one : ∀ m, m < 16 → (List.range 16).filter (fun n => decide (n = m)) = [m] := by decide
theorem listTo_one {m : Nat} (hm : m < 16) : listTo (withN 0 m) 16 = [(m : Int)] := by
  unfold listTo
  have : (List.range 16).filter (fun n : Nat => has (withN 0 m) (n : Int)) = (List.range 16).filter (fun n => decide (n = m)) := by
    refine List.filter_congr fun n hn => ?_
    have hn : n < 16 := by simpa using hn
    rw [has_one hm, right_of hn]
    simp
    omega
  rw [this, range_one m hm]; rfl
theorem withN_ne {m : Nat} (hm : m < 16) : withN 0 m ≠ 0 := by
  intro e
  have h := has_one hm m
  rw [e, has_zero, right_of hm] at h
  simp at h
theorem doneV_one {m : Nat} (hm : m < 16) (w : Nat → Int) : doneV (withN 0 m) w = if w m = 0 then withN 0 m else 0 := by
  unfold doneV
  rw [listTo_one hm]
  show done1 w [(m : Int)] 0 0 = _
  simp [done1]
theorem waitsV_one {m : Nat} (hm : m < 16) (w : Nat → Int) (n : Int) : has (waitsV (withN 0 m) w n) m = has (w m) n := by
  have e : waitsV (withN 0 m) w n = setOf (fun k => has (withN 0 m) k && has (w k) n) 16 := rfl
  rw [e, has_setOf _ hm, has_one hm, right_of hm]; simp
theorem gone_at (w : Nat → Int) (n : Int) {m : Nat} (hm : m < 16) : upto (fun (k : Nat) w => replyW (k : Int) n w) w 16 m = withoutN (w m) n := by
  have h := upto_at (fun (k : Nat) => right (k : Int)) (fun _ x => withoutN x n) w m 16
  have e : (fun (k : Nat) (w : Nat → Int) => replyW (k : Int) n w) = fun (k : Nat) l => if right (k : Int) = true then setN l k (withoutN (l k) n) else l := by
    funext k w; simp [replyW]
  rw [e, h]; simp [hm, right_of hm]
theorem reply_at (w : Nat → Int) (j n : Int) {m : Nat} (hm : m < 16) : replyW j n w m = if j = m then withoutN (w m) n else w m := by
  unfold replyW
  by_cases h : right j = true
  · obtain ⟨i, hi, rfl⟩ := right_eq h
    rw [if_pos h]
    by_cases e : (i : Int) = m
    · have : i = m := by omega
      subst this; simp [setN]
    · have : m ≠ i := by omega
      simp [setN, e, this]
  · have : j ≠ m := fun e => h (e ▸ right_of hm)
    simp [h, this]
theorem pd_ok {m : Nat} (hm : m < 16) (x : Nat → Int) (s : (Nat → Int) × Int) (h : s.1 m = s.2) : (pd m x s).1 m = (pd m x s).2 := by
  unfold pd
  by_cases c : x 0 < 0
  · rw [if_pos c]
    show upto (fun k w => replyW k (x 1) w) s.1 16 m = withoutN s.2 (x 1)
    rw [gone_at _ _ hm, h]
  · rw [if_neg c]
    show replyW (x 0) (x 1) s.1 m = if x 0 = m then withoutN s.2 (x 1) else s.2
    rw [reply_at _ _ _ hm, h]
theorem pdTo_ok {m : Nat} (hm : m < 16) (l : List (Nat → Int)) (s : (Nat → Int) × Int) (h : s.1 m = s.2) : ∀ k, (pdTo m l s k).1 m = (pdTo m l s k).2
  | 0 => h
  | k + 1 => pd_ok hm _ _ (pdTo_ok hm l s h k)
theorem and_and (x y : Int) : bits .and .i64 (bits .and .i64 x y) y = bits .and .i64 x y := tb_ext (inI_bits _ _ _) (inI_bits _ _ _) fun i _ => by
  simp only [tb_and]; cases tb x i <;> cases tb y i <;> rfl
theorem or_zero (x : Int) (hx : inI x) : bits .or .i64 0 x = x := tb_ext (inI_bits _ _ _) hx fun i _ => by simp only [tb_or, tb_zero, Bool.false_or]
theorem rem16 {j : Int} (hj : inI j) : ∃ m : Nat, m < 16 ∧ IntKind.i64.wrap ((IntKind.u64.wrap j).tmod 16) = (m : Int) := by
  have e : IntKind.u64.wrap j = j % 18446744073709551616 := rfl
  rw [e]
  have h0 : 0 ≤ j % 18446744073709551616 := by omega
  rw [Int.tmod_eq_emod_of_nonneg h0]
  refine ⟨((j % 18446744073709551616) % 16).toNat, by omega, ?_⟩
  rw [IntWalk.i64_in _ (by omega)]; omega

theorem phaseDone_data (x0 : D) (w0 : x0.WF) (s0 : x0.shape = cI) (f0 : x0.fits) (x1 : D) (w1 : x1.WF) (s1 : x1.shape = cI) (f1 : x1.fits) (es : List D) (hg : Good cP es) (f2 : ∀ x ∈ es, x.fits) (l2 : es.length ≤ maxLen) :
    evF Try.prog env noext (30) 4 [.d x0, .d x1, .sl .ro cP es] = some (.d (.s (.bool (true)))) := by
  rw [of_cell s0, of_cell s1]
  obtain ⟨l, rfl⟩ : ∃ l, es = pairs l := by
    clear f2 l2
    induction es with
    | nil => exact ⟨[], rfl⟩
    | cons x es ih =>
      obtain ⟨l, rfl⟩ := ih fun y hy => hg y (by simp [hy])
      obtain ⟨h1, h2⟩ := hg x (by simp)
      obtain ⟨f, rfl, hf⟩ := of_arr h2 h1
      exact ⟨(fun i => intOf (f i)) :: l, congrArg (· :: pairs l) (congrArg (D.arr 2 _) (funext fun i => of_cell (hf i).2))⟩
  by_cases hl : l.length ≤ 100
  · have hj : inI (intOf x0) := by rw [of_cell s0] at f0; exact inI_of f0
    obtain ⟨m, hm, hj⟩ := rem16 hj
    have inv := fun k => pdTo_ok hm l (setN (fun _ => 0) m (bits .and .i64 (bits .and .i64 (intOf x1) 65535) 65535), bits .and .i64 (intOf x1) 65535) (by simp [setN, and_and]) k
    refine phaseDone_ev (intOf x0) (intOf x1) m _ l hl hm hj rfl _ rfl (fun k _ => ?_) (fun k n _ => ?_) ?_
    · rw [doneV_one hm, inv k]
      by_cases h : (pdTo m l (setN (fun _ => 0) m (bits .and .i64 (bits .and .i64 (intOf x1) 65535) 65535), bits .and .i64 (intOf x1) 65535) k).2 = 0
      · simp [h, withN_ne hm]
      · simp [h]
    · rw [waitsV_one hm, inv k]
    · rw [doneV_one hm, inv]
      have e : withN 0 m = IntKind.i64.wrap (1 * 2 ^ min m 64) := by
        unfold withN
        rw [if_pos (right_of hm), Int.toNat_natCast, or_zero _ (inI_wrap _)]
      have h0 := withN_ne hm
      rw [← e]
      by_cases h : (pdTo m l (setN (fun _ => 0) m (bits .and .i64 (bits .and .i64 (intOf x1) 65535) 65535), bits .and .i64 (intOf x1) 65535) l.length).2 = 0
      · simp [h]
      · simp only [h, if_false, beq_eq_false_iff_ne, ne_eq, beq_iff_eq]
        have e2 : (0 == withN 0 (m : Int)) = false := by rw [beq_eq_false_iff_ne]; exact fun e => h0 e.symm
        rw [e2]; exact (beq_eq_false_iff_ne.2 h).symm
  · exact phaseDone_long _ _ l (by omega)

open Go.ChangeShapes Go.WideShapes Go.ChangeAt Go.RowKit
set_option maxRecDepth 100000
theorem own : ownKnob Try.prog.godebug = none := by kernel_rfl
theorem laidOut : laidOutB Try.prog = true := by kernel_rfl
theorem lifted (os : Os) (started : os.Started) (H : Type) (enc : TypeId × Value → H) :
    ReturnsInHanded {} Try.checked os 4 .any (Rows.phaseDoneSpec.pre6 enc Try.prog Try.f4 Rows.phaseDoneRow.domain false) (Rows.phaseDoneSpec.post enc Try.prog Try.f4 false true false false) := by
  refine returnsInHanded_of_change (C := Try.checked) own started (by kernel_rfl) Try.func4
    (ChangeSpec.witness6 (enc := enc) (C := Try.checked) false ⟨#[], #[Z3.val, Z3.val, .slice none 0 0], []⟩ 8 (by kernel_rfl) (by kernel_rfl) (by kernel_rfl) (by kernel_rfl)) ?_
  intro W base args ds gs before hval0 hW hcnd _
  have hval : ∀ (j : Nat) t v, Try.f4.params[j]? = some t → args[j]? = some v → Value.okWide Try.prog W .any base t v := hval0
  have hW' := hW
  obtain ⟨p, q, hA0, hV, rfl, hfz, hnd⟩ := hW
  have hA : DataW.TrodAll enc Try.prog W 0 (fun _ => true) true Try.f4.params.toList args.toList ds p := hA0
  rw [Try.params4] at hA hval
  obtain ⟨v0, vs0, d0, ds0, p0, q0, hargs, rfl, rfl, h0, r0⟩ := trodAll_cons hA
  obtain ⟨v1, vs1, d1, ds1, p1, q1, rfl, rfl, rfl, h1, r1⟩ := trodAll_cons r0
  obtain ⟨v2, vs2, d2, ds2, p2, q2, rfl, rfl, rfl, h2, r2⟩ := trodAll_cons r1
  obtain ⟨rfl, rfl, rfl⟩ := trodAll_nil r2
  obtain rfl : args = #[v0, v1, v2] := by cases args; simp_all
  obtain ⟨rfl, rfl⟩ := trodVars_none hV
  have k0 := h0
  have lt0 : ∀ x ∈ p0, x.block < W.heap.size := by obtain ⟨m, hm⟩ := k0; exact DataW.trod_lt m _ _ _ hm
  have k1 := h1
  have lt1 : ∀ x ∈ p1, x.block < W.heap.size := by obtain ⟨m, hm⟩ := k1; exact DataW.trod_lt m _ _ _ hm
  have k2 := h2
  have lt2 : ∀ x ∈ p2, x.block < W.heap.size := by obtain ⟨m, hm⟩ := k2; exact DataW.trod_lt m _ _ _ hm
  obtain ⟨x0, rfl, w0, s0, f0⟩ := open_data (d := 8) (sh := cI) (by kernel_rfl) (hval 0 3 v0 rfl rfl) h0
  obtain ⟨x1, rfl, w1, s1, f1⟩ := open_data (d := 8) (sh := cI) (by kernel_rfl) (hval 1 3 v1 rfl rfl) h1
  obtain ⟨es2, rs2, f2, l2⟩ := open_slice (d := 8) (sh := cP) (t := 31) (e := 36) (by kernel_rfl) (by kernel_rfl) (by kernel_rfl) (by decide) (hval 2 31 v2 rfl rfl) h2
  clear hA0 hval0
  refine ((evF_sound env_ok fns_ok (ext := noext) (fun _ _ _ h => by cases h) 30 4 _ _ (phaseDone_data x0 w0 s0 f0 x1 w1 s1 f1 es2 rs2.1 f2 l2)).run W [x0.val, x1.val, v2] ⟨⟨w0, rfl⟩, ⟨w1, rfl⟩, rs2, trivial⟩).mono fun e W' ⟨u, he, bel, hr⟩ => ?_
  obtain rfl : u = .bool true := hr.2
  subst he
  exact ⟨_, rfl, _, _, _, [], _, [], hW', trodAll_mk1 (shut_bool Try.underlying4 _), trodAll_cons_mk (Below.trod laidOut (by kernel_rfl) (of_decide_eq_true (by kernel_rfl)) k0 bel lt0) (trodAll_cons_mk (Below.trod laidOut (by kernel_rfl) (of_decide_eq_true (by kernel_rfl)) k1 bel lt1) (trodAll_cons_mk (Below.trod laidOut (by kernel_rfl) (of_decide_eq_true (by kernel_rfl)) k2 bel lt2) trodAll_mk0)), rfl, bel.frame _, fun h => by cases h⟩
theorem over : Rows.phaseDoneRow.holds Try.pinned (OpenSpec.ofChange Rows.phaseDoneSpec) :=
  OpenClaim.holds_of_wide 4 Try.f4 rfl rfl rfl rfl rfl rfl rfl ⟨rfl, rfl, rfl, rfl, rfl⟩ rfl rfl rfl rfl rfl (by kernel_rfl) Try.func4 (by kernel_rfl)
    (of_decide_eq_true (by kernel_rfl)) (by unfold Func.isWrapper; first | (rw [if_pos (by decide +kernel)]; kernel_rfl) | (rw [if_neg (by decide +kernel)]; exact ⟨rfl, rfl⟩))
    (fun os started H enc _ => lifted os started H enc)
theorem phaseDone_proved : Rows.PhaseDoneSaid := over
#print axioms phaseDone_proved
end Go.Proofs.Ythpccjgpbcginaa.Ev
