/- Plays that are too long; the closed runs of the laws of lpa and fib. -/
import Derived.Test.YtjceimcepogkaaaGreatDoorLv
import Derived.Test.YtjceimcepogkaaaGreatDoorKr
namespace Go.Proofs.YtjceimcepogkaaaGreatDoor.Ev
open Go
attribute [local congr] ob_congr sq_congr cd_congr ite_congr1 iter_congr it1_congr jumps_congr
set_option maxRecDepth 100000
set_option linter.unusedSimpArgs false
set_option linter.unusedVariables false
theorem maxLen_le {n : Nat} (h : n ≤ maxLen) : n ≤ 9223372036854775807 := by unfold maxLen at h; omega
theorem lt_fuel2 {n : Nat} (h : n ≤ 9223372036854775807) : n < loopFuel := by unfold loopFuel; omega
def op0 : OpS := ⟨0, 0, 0, [], none, 0⟩
def longB (ops : List OpS) : Bool := (List.range ops.length).any (fun k => decide (60 < (ops.getD k op0).its.length)) || decide (40 < ops.length)
theorem longB_yes {ops : List OpS} {k : Nat} (hk : k < ops.length) (h : 60 < (ops.getD k op0).its.length) : longB ops = true := by
  unfold longB
  rw [Bool.or_eq_true]; left
  rw [List.any_eq_true]
  exact ⟨k, by simpa using hk, by simpa using h⟩
theorem longB_no {ops : List OpS} (h : ∀ k, k < ops.length → ¬ 60 < (ops.getD k op0).its.length) : longB ops = decide (40 < ops.length) := by
  unfold longB
  have : ((List.range ops.length).any fun k => decide (60 < (ops.getD k op0).its.length)) = false := by
    rw [List.any_eq_false]
    intro k hk
    simpa using h k (by simpa using hk)
  rw [this, Bool.false_or]
theorem longB_facts {ops : List OpS} (h : longB ops = false) : ops.length ≤ 40 ∧ ∀ k, k < ops.length → (ops.getD k op0).its.length ≤ 60 := by
  unfold longB at h
  rw [Bool.or_eq_false_iff] at h
  refine ⟨by simpa using h.2, fun k hk => ?_⟩
  have := List.any_eq_false.1 h.1 k (by simpa using hk)
  simpa using this
section
variable {orc : Value → Option (List Itm)}
theorem long31_ev (K : Nat) (ops : List OpS) (hl : ops.length ≤ maxLen) : evF Tryz.prog env (xo orc) (K+1) 4 [.sl .ro shO (ops.map opD)] = some (.d (.s (.bool (longB ops)))) := by
  rw [evF_eq Tryz.func4 (show Tryz.f4.body = some _ from rfl) rfl rfl rfl (by show 1 ≤ 19; decide)]
  have hle : (ops.map opD).length = ops.length := List.length_map ..
  have hl2 := maxLen_le hl
  have hget : ∀ k, k < ops.length → (ops.map opD)[k]? = some (opD (ops.getD k op0)) := fun k hk => by simp [List.getD, List.getElem?_eq_getElem hk]
  by_cases h : ∃ k, k < ops.length ∧ 60 < (ops.getD k op0).its.length
  · obtain ⟨N, hN, hN2, hN3⟩ := first_of h
    have hb : longB ops = true := longB_yes hN hN2
    rw [hb]
    simp (decide := true) only [hle, Tryz.f4, rid, kl4_2, ↓sBp, sBq, List.all_cons, List.all_nil, List.map_cons, List.map_nil, D.shape, Sh.sub, Sh.size, List.getElem?_cons_zero, List.getElem?_cons_succ, Option.bind_some, Option.bind_none, Option.getD_some, Option.getD_none, V.keysIn, V.kill, V.has, decide_eq_true_eq, beq_iff_eq, bne_iff_ne, ne_eq, Bool.not_eq_true', Bool.and_true, Bool.and_self, Bool.true_and, if_true, if_false, reduceIte, Bool.false_eq_true, decide_true, decide_false, beq_self_eq_true, Bool.not_true, Bool.not_false, true_and, and_true, and_self, List.append_assoc, List.nil_append, List.cons_append, Int.toNat_natCast, ck, Int.cast_ofNat_Int, Int.reduceToNat, bne_self_eq_false, Bool.or_false, Bool.false_or, Bool.false_and, Bool.and_false, Bool.or_true, Bool.true_or]
    rw [iter_run (S := fun k => ⟨tab .junk [(0, .sl .ro shO (ops.map opD)), (5, .sl .ro shO (ops.map opD)), (6, .d (.s (.int .i64 (ops.length)))), (7, .d (.s (.int .i64 (k))))], tab none []⟩) (n := N) (h0 := ?h0) (hn := ?hn) (step := ?step)]
    case h0 => rfl
    case hn => exact lt_fuel2 (by omega)
    case step =>
      intro k hk
      have hk1 : (k : Int) < (ops.length : Int) := by omega
      have hk0 : (0 : Int) ≤ k := by omega
      have hkw := wrap_succ k (by omega)
      have hg := hget k (by omega)
      have hn := hN3 k hk
      generalize ops.getD k op0 = o at hg hn
      have hn' : ¬ (60 : Int) < (o.its.length : Int) := by omega
      simp (decide := true) only [hk1, hk0, hkw, hg, hn', Tryz.f4, rid, kl4_2, ↓sBp, sBq, List.all_cons, List.all_nil, List.map_cons, List.map_nil, D.shape, Sh.sub, Sh.size, List.getElem?_cons_zero, List.getElem?_cons_succ, Option.bind_some, Option.bind_none, Option.getD_some, Option.getD_none, V.keysIn, V.kill, V.has, decide_eq_true_eq, beq_iff_eq, bne_iff_ne, ne_eq, Bool.not_eq_true', Bool.and_true, Bool.and_self, Bool.true_and, if_true, if_false, reduceIte, Bool.false_eq_true, decide_true, decide_false, beq_self_eq_true, Bool.not_true, Bool.not_false, true_and, and_true, and_self, List.append_assoc, List.nil_append, List.cons_append, Int.toNat_natCast, ck, Int.cast_ofNat_Int, Int.reduceToNat, bne_self_eq_false, Bool.or_false, Bool.false_or, Bool.false_and, Bool.and_false, Bool.or_true, Bool.true_or]
    have hk1 : (N : Int) < (ops.length : Int) := by omega
    have hk0 : (0 : Int) ≤ N := by omega
    have hg := hget N hN
    generalize ops.getD N op0 = o at hg hN2
    have hn' : (60 : Int) < (o.its.length : Int) := by omega
    simp (decide := true) only [hk1, hk0, hg, hn', Tryz.f4, rid, kl4_2, ↓sBp, sBq, List.all_cons, List.all_nil, List.map_cons, List.map_nil, D.shape, Sh.sub, Sh.size, List.getElem?_cons_zero, List.getElem?_cons_succ, Option.bind_some, Option.bind_none, Option.getD_some, Option.getD_none, V.keysIn, V.kill, V.has, decide_eq_true_eq, beq_iff_eq, bne_iff_ne, ne_eq, Bool.not_eq_true', Bool.and_true, Bool.and_self, Bool.true_and, if_true, if_false, reduceIte, Bool.false_eq_true, decide_true, decide_false, beq_self_eq_true, Bool.not_true, Bool.not_false, true_and, and_true, and_self, List.append_assoc, List.nil_append, List.cons_append, Int.toNat_natCast, ck, Int.cast_ofNat_Int, Int.reduceToNat, bne_self_eq_false, Bool.or_false, Bool.false_or, Bool.false_and, Bool.and_false, Bool.or_true, Bool.true_or]
  · have hno : ∀ k, k < ops.length → ¬ 60 < (ops.getD k op0).its.length := fun k hk hq => h ⟨k, hk, hq⟩
    have hb : longB ops = decide (40 < ops.length) := longB_no hno
    rw [hb]
    simp (decide := true) only [hle, Tryz.f4, rid, kl4_2, ↓sBp, sBq, List.all_cons, List.all_nil, List.map_cons, List.map_nil, D.shape, Sh.sub, Sh.size, List.getElem?_cons_zero, List.getElem?_cons_succ, Option.bind_some, Option.bind_none, Option.getD_some, Option.getD_none, V.keysIn, V.kill, V.has, decide_eq_true_eq, beq_iff_eq, bne_iff_ne, ne_eq, Bool.not_eq_true', Bool.and_true, Bool.and_self, Bool.true_and, if_true, if_false, reduceIte, Bool.false_eq_true, decide_true, decide_false, beq_self_eq_true, Bool.not_true, Bool.not_false, true_and, and_true, and_self, List.append_assoc, List.nil_append, List.cons_append, Int.toNat_natCast, ck, Int.cast_ofNat_Int, Int.reduceToNat, bne_self_eq_false, Bool.or_false, Bool.false_or, Bool.false_and, Bool.and_false, Bool.or_true, Bool.true_or]
    rw [iter_run (S := fun k => ⟨tab .junk [(0, .sl .ro shO (ops.map opD)), (5, .sl .ro shO (ops.map opD)), (6, .d (.s (.int .i64 (ops.length)))), (7, .d (.s (.int .i64 (k))))], tab none []⟩) (n := ops.length) (h0 := ?h0) (hn := ?hn) (step := ?step)]
    case h0 => rfl
    case hn => exact lt_fuel2 (by omega)
    case step =>
      intro k hk
      have hk1 : (k : Int) < (ops.length : Int) := by omega
      have hk0 : (0 : Int) ≤ k := by omega
      have hkw := wrap_succ k (by omega)
      have hg := hget k (by omega)
      have hn := hno k hk
      generalize ops.getD k op0 = o at hg hn
      have hn' : ¬ (60 : Int) < (o.its.length : Int) := by omega
      simp (decide := true) only [hk1, hk0, hkw, hg, hn', Tryz.f4, rid, kl4_2, ↓sBp, sBq, List.all_cons, List.all_nil, List.map_cons, List.map_nil, D.shape, Sh.sub, Sh.size, List.getElem?_cons_zero, List.getElem?_cons_succ, Option.bind_some, Option.bind_none, Option.getD_some, Option.getD_none, V.keysIn, V.kill, V.has, decide_eq_true_eq, beq_iff_eq, bne_iff_ne, ne_eq, Bool.not_eq_true', Bool.and_true, Bool.and_self, Bool.true_and, if_true, if_false, reduceIte, Bool.false_eq_true, decide_true, decide_false, beq_self_eq_true, Bool.not_true, Bool.not_false, true_and, and_true, and_self, List.append_assoc, List.nil_append, List.cons_append, Int.toNat_natCast, ck, Int.cast_ofNat_Int, Int.reduceToNat, bne_self_eq_false, Bool.or_false, Bool.false_or, Bool.false_and, Bool.and_false, Bool.or_true, Bool.true_or]
    by_cases h40 : 40 < ops.length
    · have h40' : (40 : Int) < (ops.length : Int) := by omega
      simp (decide := true) only [Int.lt_irrefl, hle, h40', h40, Tryz.f4, rid, kl4_2, ↓sBp, sBq, List.all_cons, List.all_nil, List.map_cons, List.map_nil, D.shape, Sh.sub, Sh.size, List.getElem?_cons_zero, List.getElem?_cons_succ, Option.bind_some, Option.bind_none, Option.getD_some, Option.getD_none, V.keysIn, V.kill, V.has, decide_eq_true_eq, beq_iff_eq, bne_iff_ne, ne_eq, Bool.not_eq_true', Bool.and_true, Bool.and_self, Bool.true_and, if_true, if_false, reduceIte, Bool.false_eq_true, decide_true, decide_false, beq_self_eq_true, Bool.not_true, Bool.not_false, true_and, and_true, and_self, List.append_assoc, List.nil_append, List.cons_append, Int.toNat_natCast, ck, Int.cast_ofNat_Int, Int.reduceToNat, bne_self_eq_false, Bool.or_false, Bool.false_or, Bool.false_and, Bool.and_false, Bool.or_true, Bool.true_or]
    · have h40' : ¬ (40 : Int) < (ops.length : Int) := by omega
      simp (decide := true) only [Int.lt_irrefl, hle, h40', h40, Tryz.f4, rid, kl4_2, ↓sBp, sBq, List.all_cons, List.all_nil, List.map_cons, List.map_nil, D.shape, Sh.sub, Sh.size, List.getElem?_cons_zero, List.getElem?_cons_succ, Option.bind_some, Option.bind_none, Option.getD_some, Option.getD_none, V.keysIn, V.kill, V.has, decide_eq_true_eq, beq_iff_eq, bne_iff_ne, ne_eq, Bool.not_eq_true', Bool.and_true, Bool.and_self, Bool.true_and, if_true, if_false, reduceIte, Bool.false_eq_true, decide_true, decide_false, beq_self_eq_true, Bool.not_true, Bool.not_false, true_and, and_true, and_self, List.append_assoc, List.nil_append, List.cons_append, Int.toNat_natCast, ck, Int.cast_ofNat_Int, Int.reduceToNat, bne_self_eq_false, Bool.or_false, Bool.false_or, Bool.false_and, Bool.and_false, Bool.or_true, Bool.true_or]
end
end Go.Proofs.YtjceimcepogkaaaGreatDoor.Ev
/- The law LpaSyncs, run. -/
namespace Go.Proofs.YtjceimcepogkaaaGreatDoor.Ev
open Go
attribute [local congr] ob_congr sq_congr cd_congr ite_congr1 iter_congr it1_congr jumps_congr
set_option maxRecDepth 100000
set_option linter.unusedSimpArgs false
set_option linter.unusedVariables false
abbrev arr2U (ns : Nat → Int) : D := .arr 2 cU fun i => dU (ns i)
noncomputable def plTo (l : LP) (ops : List OpS) (k : Nat) : LP := upto (fun i l => stepF l (ops.getD i op0)) l k
theorem plTo_succ (l : LP) (ops : List OpS) (k : Nat) : plTo l ops (k + 1) = stepF (plTo l ops k) (ops.getD k op0) := by simp only [plTo, upto]
/-- What a play keeps. -/
structure PlI (l : LP) : Prop where
  all : AllI l
  d : UU l.r.d
  c : UU l.k.c
theorem UU_set {d : Nat → Int} (h : UU d) {k : Nat} {v : Int} (h0 : 0 ≤ v) (h1 : v < 4294967296) : UU (setN d k v) := ⟨fun i => by
  unfold setN; split
  · exact ⟨h0, h1⟩
  · exact h.at' i⟩
theorem UU_farD : UU farD := ⟨fun i => by
  unfold farD fillTo
  split
  · show (0 : Int) ≤ 4294967295 ∧ (4294967295 : Int) < 4294967296
    omega
  · show (0 : Int) ≤ 0 ∧ (0 : Int) < 4294967296
    omega⟩
theorem UU_empty (s : Int) : UU (putN farD s 0) := by
  unfold putN; split
  · exact UU_set UU_farD (by omega) (by omega)
  · exact UU_farD
theorem alRd_nn (k : Kn) (n j : Int) : 0 ≤ alRd k n j := by
  unfold alRd; split
  · unfold alD
    show 0 ≤ (tol k n j + kc k n) % 4294967296
    omega
  · omega
theorem near_nn (k : Kn) (r : Rw) (skip : Int) : 0 ≤ (near k r skip).a := by
  unfold near nearTo
  refine upto_ind (n := (listTo k.up 16).length) (fun _ (s : Bst) => 0 ≤ s.a) (show (0 : Int) ≤ 4294967295 by omega) (fun i s _ hs => ?_) _ (Nat.le_refl _)
  unfold nearN
  refine upto_ind (n := 16) (fun _ (s : Bst) => 0 ≤ s.a) hs (fun j s hj hs => ?_) _ (Nat.le_refl _)
  unfold nearJ
  split
  · exact alRd_nn _ _ _
  · exact hs
theorem near_lt (k : Kn) (r : Rw) (skip : Int) : (near k r skip).a < 4294967296 := by
  rcases SI_to k r skip (listTo k.up 16).length with ⟨_, q, _⟩ | ⟨_, _, q⟩
  · have q : (near k r skip).a = 4294967295 := q
    omega
  · have q : (near k r skip).a < 4294967295 := q
    omega
theorem UU_setTo (k : Kn) (skip : Int) : ∀ t, UU (setTo k skip t).d
  | 0 => UU_empty _
  | t + 1 => by
    show UU (setStep k skip (setTo k skip t)).d
    unfold setStep
    split
    · exact UU_setTo k skip t
    · exact UU_set (UU_setTo k skip t) (near_nn _ _ _) (near_lt _ _ _)
theorem anew_k' (l : LP) : (anewF l).k = l.k := by
  show (lastF l).k = l.k
  exact (rdTo_k l _ _).1
theorem UU_anew (l : LP) : UU (anewF l).r.d := UU_setTo _ _ 15
theorem PlI_anew {l : LP} (h : AllI l) (hc : UU l.k.c) : PlI (anewF l) := ⟨allI_anew h, UU_anew l, by rw [anew_k']; exact hc⟩
theorem costOk_bd {n c : Int} (h : costOk n c = true) : 0 ≤ c ∧ c < 4294967296 := by
  unfold costOk at h
  simp only [Bool.and_eq_true, decide_eq_true_eq] at h
  omega
theorem PlI_step {l : LP} (h : PlI l) (o : OpS) : PlI (stepF l o) := by
  unfold stepF
  split
  · unfold upF
    split
    · rename_i hu
      unfold upO at hu
      simp only [Bool.and_eq_true] at hu
      obtain ⟨b0, b1⟩ := costOk_bd hu.2.2
      exact PlI_anew (allI_upG h.all _ _) (UU_set h.c b0 b1)
    · exact h
  split
  · unfold downF
    split
    · exact PlI_anew (allI_dnG h.all _) (UU_set h.c (by omega) (by omega))
    · exact h
  split
  · unfold costF
    split
    · rename_i hu
      simp only [Bool.and_eq_true] at hu
      obtain ⟨b0, b1⟩ := costOk_bd hu.2
      exact PlI_anew (allI_coG h.all _ _) (UU_set h.c b0 b1)
    · exact h
  split
  · unfold heardF
    split
    · exact PlI_anew (allI_hrG h.all _ _) h.c
    · exact h
  · refine ⟨allI_drain h.all _, ?_, ?_⟩
    · unfold drainF; split
      · exact h.d
      · exact h.d
    · unfold drainF; split
      · exact h.c
      · exact h.c
theorem PlI_new (s : Int) : PlI (newF s) := ⟨allI_new s, UU_empty s, ⟨fun _ => by
  show (0 : Int) ≤ 0 ∧ (0 : Int) < 4294967296
  omega⟩⟩
theorem PlI_play (s : Int) (ops : List OpS) : ∀ k, PlI (plTo (newF s) ops k)
  | 0 => PlI_new s
  | k + 1 => by rw [plTo_succ]; exact PlI_step (PlI_play s ops k) _
theorem up0 (c : Int) (h1 : 1 ≤ c) (h2 : c ≤ 65536) : upE (newF 0) 1 c = 0 := by
  unfold upE costOk
  rw [decide_eq_true h1, decide_eq_true h2]
  rfl
theorem up1 (c : Int) (h1 : 1 ≤ c) (h2 : c ≤ 65536) : upE (newF 1) 0 c = 0 := by
  unfold upE costOk
  rw [decide_eq_true h1, decide_eq_true h2]
  rfl
section
variable {orc : Value → Option (List Itm)}
set_option maxHeartbeats 8000000 in
theorem lpaSyncs_ev (ops : List OpS) (hops : ops.length ≤ maxLen) (ho : ∀ k, k < ops.length → (ops.getD k op0).its ≠ [] → orc (.slice (ops.getD k op0).ad (ops.getD k op0).its.length (ops.getD k op0).cp) = some (ops.getD k op0).its)
    (n : Int) (ns : Nat → Int) (hns : ∀ i, 0 ≤ ns i) : evF Tryz.prog env (xl orc) (30) 3 [.d (.s (.int .i64 (n))), .sl .ro shO (ops.map opD), .d (arr2U ns)] = some (.d (.s (.bool (true)))) := by
  rw [evF_eq Tryz.func3 (show Tryz.f3.body = some _ from rfl) rfl rfl rfl (by show 3 ≤ 193; decide)]
  have eL : evF Tryz.prog env (xl orc) (29) 4 [.sl .ro shO (ops.map opD)] = some (.d (.s (.bool (longB ops)))) := up_x (long31_ev 28 ops hops)
  have eW : evF Tryz.prog env (xl orc) (29) 5 [] = some (.d (.s (.bool (true)))) := up_x awake31_ev
  have hle : (ops.map opD).length = ops.length := List.length_map ..
  rcases Bool.eq_false_or_eq_true (longB ops) with hb | hb
  · rw [hb] at eL
    simp (decide := true) only [eL, eW, Tryz.f3, rid, kl3_5, kl3_24, dp3_19, dp3_21, dp3_22, ↓sBp, sBq, List.all_cons, List.all_nil, List.map_cons, List.map_nil, D.shape, Sh.sub, Sh.size, List.getElem?_cons_zero, List.getElem?_cons_succ, Option.bind_some, Option.bind_none, Option.getD_some, Option.getD_none, V.keysIn, V.kill, V.has, decide_eq_true_eq, beq_iff_eq, bne_iff_ne, ne_eq, Bool.not_eq_true', Bool.and_true, Bool.and_self, Bool.true_and, if_true, if_false, reduceIte, Bool.false_eq_true, decide_true, decide_false, beq_self_eq_true, Bool.not_true, Bool.not_false, true_and, and_true, and_self, List.append_assoc, List.nil_append, List.cons_append, Int.toNat_natCast, ck, Int.cast_ofNat_Int, Int.reduceToNat, bne_self_eq_false, Bool.or_false, Bool.false_or, Bool.false_and, Bool.and_false, Bool.or_true, Bool.true_or]
  rw [hb] at eL
  have eN : ∀ m : Int, evF Tryz.prog env (xl orc) (29) 6 [.d (.s (.int .i64 (m)))] = some (.d (lpD (newF m))) := fun m => up_l (lpNew_ev 25 m)
  have eR : evF Tryz.prog env (xl orc) (29) 7 [.d (.s (.int .i64 (n)))] = some (.d (lpD (newF n))) := up_l (rlpNew_ev 25 n)
  have hlens := (longB_facts hb).2
  have hlen40 := (longB_facts hb).1
  have pl := PlI_play n ops
  simp (decide := true) only [eL, eN, eR, hle, Tryz.f3, rid, kl3_5, kl3_24, dp3_19, dp3_21, dp3_22, ↓sBp, sBq, List.all_cons, List.all_nil, List.map_cons, List.map_nil, D.shape, Sh.sub, Sh.size, List.getElem?_cons_zero, List.getElem?_cons_succ, Option.bind_some, Option.bind_none, Option.getD_some, Option.getD_none, V.keysIn, V.kill, V.has, decide_eq_true_eq, beq_iff_eq, bne_iff_ne, ne_eq, Bool.not_eq_true', Bool.and_true, Bool.and_self, Bool.true_and, if_true, if_false, reduceIte, Bool.false_eq_true, decide_true, decide_false, beq_self_eq_true, Bool.not_true, Bool.not_false, true_and, and_true, and_self, List.append_assoc, List.nil_append, List.cons_append, Int.toNat_natCast, ck, Int.cast_ofNat_Int, Int.reduceToNat, bne_self_eq_false, Bool.or_false, Bool.false_or, Bool.false_and, Bool.and_false, Bool.or_true, Bool.true_or]
  rw [iter_run (S := fun k => ⟨tab .junk [(5, .ptr 5 (.arr 2 cU) [] (.arr 2 cU)), (7, .ptr 7 (shL) [] (shL)), (8, .ptr 8 (shL) [] (shL)), (24, .sl .ro shO (ops.map opD)), (25, .d (.s (.int .i64 (ops.length)))), (26, .d (.s (.int .i64 (k))))], tab none [(5, some (.box (arr2U ns))), (7, some (.box (lpD (plTo (newF n) ops k)))), (8, some (.box (lpD (plTo (newF n) ops k))))]⟩) (n := ops.length) (h0 := ?h0) (hn := ?hn) (step := ?step)]
  case h0 => rfl
  case hn => exact lt_loopFuel (by omega)
  case step =>
    intro k hk
    have hk1 : (k : Int) < (ops.length : Int) := by omega
    have hk0 : (0 : Int) ≤ k := by omega
    have hkw := wrap_succ k (by omega)
    have hg : (ops.map opD)[k]? = some (opD (ops.getD k op0)) := by simp [List.getD, List.getElem?_eq_getElem hk]
    have es := plTo_succ (newF n) ops k
    have hoo := ho k hk
    have hll := hlens k hk
    have hA := (pl k).all
    generalize ops.getD k op0 = o at hg es hoo hll
    generalize plTo (newF n) ops k = l at es hA
    have eS : evF Tryz.prog env (xl orc) (29) 8 [.d (lpD l), .d (opD o)] = some (.tcons (.d (lpD (stepF l o))) (.tcons (.sl .ro shI (stepI l o)) (.tcons (.d (.s (.int .i64 (stepE l o)))) .tnil))) := up_x (step_ev (orc := orc) 19 l o hoo (by omega))
    by_cases h0 : o.kd = 0
    · have e1 : stepF l o = upF l o.n o.cost := by unfold stepF; rw [if_pos h0]
      rw [e1] at eS es
      have e : evF Tryz.prog env (xl orc) (29) 9 [.d (lpD l), .d (.s (.int .i64 (o.n))), .d (.s (.int .u32 (o.cost)))] = _ := up_l (rlpUp_ev 20 l o.n o.cost hA)
      generalize upF l o.n o.cost = m at eS es e
      have h0' : (o.kd == 0) = true := by rw [h0]; rfl
      simp (decide := true) only [hk1, hk0, hkw, hg, eS, h0', e, es, Tryz.f3, rid, kl3_5, kl3_24, dp3_19, dp3_21, dp3_22, ↓sBp, sBq, List.all_cons, List.all_nil, List.map_cons, List.map_nil, D.shape, Sh.sub, Sh.size, List.getElem?_cons_zero, List.getElem?_cons_succ, Option.bind_some, Option.bind_none, Option.getD_some, Option.getD_none, V.keysIn, V.kill, V.has, decide_eq_true_eq, beq_iff_eq, bne_iff_ne, ne_eq, Bool.not_eq_true', Bool.and_true, Bool.and_self, Bool.true_and, if_true, if_false, reduceIte, Bool.false_eq_true, decide_true, decide_false, beq_self_eq_true, Bool.not_true, Bool.not_false, true_and, and_true, and_self, List.append_assoc, List.nil_append, List.cons_append, Int.toNat_natCast, ck, Int.cast_ofNat_Int, Int.reduceToNat, bne_self_eq_false, Bool.or_false, Bool.false_or, Bool.false_and, Bool.and_false, Bool.or_true, Bool.true_or]
    have h0' : (o.kd == 0) = false := by simpa using h0
    by_cases h1 : o.kd = 1
    · have e1 : stepF l o = downF l o.n := by unfold stepF; rw [if_neg h0, if_pos h1]
      rw [e1] at eS es
      have e : evF Tryz.prog env (xl orc) (29) 10 [.d (lpD l), .d (.s (.int .i64 (o.n)))] = _ := up_l (rlpDown_ev 20 l o.n hA)
      generalize downF l o.n = m at eS es e
      have h1' : (o.kd == 1) = true := by rw [h1]; rfl
      simp (decide := true) only [hk1, hk0, hkw, hg, eS, h0', h1', e, es, Tryz.f3, rid, kl3_5, kl3_24, dp3_19, dp3_21, dp3_22, ↓sBp, sBq, List.all_cons, List.all_nil, List.map_cons, List.map_nil, D.shape, Sh.sub, Sh.size, List.getElem?_cons_zero, List.getElem?_cons_succ, Option.bind_some, Option.bind_none, Option.getD_some, Option.getD_none, V.keysIn, V.kill, V.has, decide_eq_true_eq, beq_iff_eq, bne_iff_ne, ne_eq, Bool.not_eq_true', Bool.and_true, Bool.and_self, Bool.true_and, if_true, if_false, reduceIte, Bool.false_eq_true, decide_true, decide_false, beq_self_eq_true, Bool.not_true, Bool.not_false, true_and, and_true, and_self, List.append_assoc, List.nil_append, List.cons_append, Int.toNat_natCast, ck, Int.cast_ofNat_Int, Int.reduceToNat, bne_self_eq_false, Bool.or_false, Bool.false_or, Bool.false_and, Bool.and_false, Bool.or_true, Bool.true_or]
    have h1' : (o.kd == 1) = false := by simpa using h1
    by_cases h2 : o.kd = 2
    · have e1 : stepF l o = costF l o.n o.cost := by unfold stepF; rw [if_neg h0, if_neg h1, if_pos h2]
      rw [e1] at eS es
      have e : evF Tryz.prog env (xl orc) (29) 11 [.d (lpD l), .d (.s (.int .i64 (o.n))), .d (.s (.int .u32 (o.cost)))] = _ := up_l (rlpCost_ev 20 l o.n o.cost hA)
      generalize costF l o.n o.cost = m at eS es e
      have h2' : (o.kd == 2) = true := by rw [h2]; rfl
      simp (decide := true) only [hk1, hk0, hkw, hg, eS, h0', h1', h2', e, es, Tryz.f3, rid, kl3_5, kl3_24, dp3_19, dp3_21, dp3_22, ↓sBp, sBq, List.all_cons, List.all_nil, List.map_cons, List.map_nil, D.shape, Sh.sub, Sh.size, List.getElem?_cons_zero, List.getElem?_cons_succ, Option.bind_some, Option.bind_none, Option.getD_some, Option.getD_none, V.keysIn, V.kill, V.has, decide_eq_true_eq, beq_iff_eq, bne_iff_ne, ne_eq, Bool.not_eq_true', Bool.and_true, Bool.and_self, Bool.true_and, if_true, if_false, reduceIte, Bool.false_eq_true, decide_true, decide_false, beq_self_eq_true, Bool.not_true, Bool.not_false, true_and, and_true, and_self, List.append_assoc, List.nil_append, List.cons_append, Int.toNat_natCast, ck, Int.cast_ofNat_Int, Int.reduceToNat, bne_self_eq_false, Bool.or_false, Bool.false_or, Bool.false_and, Bool.and_false, Bool.or_true, Bool.true_or]
    have h2' : (o.kd == 2) = false := by simpa using h2
    by_cases h3 : o.kd = 3
    · have e1 : stepF l o = heardF l o.n o.its := by unfold stepF; rw [if_neg h0, if_neg h1, if_neg h2, if_pos h3]
      rw [e1] at eS es
      have e := rheardL_ev (orc := orc) 28 l hA o hoo (by omega)
      generalize heardF l o.n o.its = m at eS es e
      have h3' : (o.kd == 3) = true := by rw [h3]; rfl
      simp (decide := true) only [hk1, hk0, hkw, hg, eS, h0', h1', h2', h3', e, es, Tryz.f3, rid, kl3_5, kl3_24, dp3_19, dp3_21, dp3_22, ↓sBp, sBq, List.all_cons, List.all_nil, List.map_cons, List.map_nil, D.shape, Sh.sub, Sh.size, List.getElem?_cons_zero, List.getElem?_cons_succ, Option.bind_some, Option.bind_none, Option.getD_some, Option.getD_none, V.keysIn, V.kill, V.has, decide_eq_true_eq, beq_iff_eq, bne_iff_ne, ne_eq, Bool.not_eq_true', Bool.and_true, Bool.and_self, Bool.true_and, if_true, if_false, reduceIte, Bool.false_eq_true, decide_true, decide_false, beq_self_eq_true, Bool.not_true, Bool.not_false, true_and, and_true, and_self, List.append_assoc, List.nil_append, List.cons_append, Int.toNat_natCast, ck, Int.cast_ofNat_Int, Int.reduceToNat, bne_self_eq_false, Bool.or_false, Bool.false_or, Bool.false_and, Bool.and_false, Bool.or_true, Bool.true_or]
    have h3' : (o.kd == 3) = false := by simpa using h3
    have e1 : stepF l o = drainF l o.n := by unfold stepF; rw [if_neg h0, if_neg h1, if_neg h2, if_neg h3]
    rw [e1] at eS es
    have e : evF Tryz.prog env (xl orc) (29) 13 [.d (lpD l), .d (.s (.int .i64 (o.n)))] = _ := up_l (rdrain_ev 23 l o.n hA)
    generalize drainF l o.n = m at eS es e
    simp (decide := true) only [hk1, hk0, hkw, hg, eS, h0', h1', h2', h3', e, es, Tryz.f3, rid, kl3_5, kl3_24, dp3_19, dp3_21, dp3_22, ↓sBp, sBq, List.all_cons, List.all_nil, List.map_cons, List.map_nil, D.shape, Sh.sub, Sh.size, List.getElem?_cons_zero, List.getElem?_cons_succ, Option.bind_some, Option.bind_none, Option.getD_some, Option.getD_none, V.keysIn, V.kill, V.has, decide_eq_true_eq, beq_iff_eq, bne_iff_ne, ne_eq, Bool.not_eq_true', Bool.and_true, Bool.and_self, Bool.true_and, if_true, if_false, reduceIte, Bool.false_eq_true, decide_true, decide_false, beq_self_eq_true, Bool.not_true, Bool.not_false, true_and, and_true, and_self, List.append_assoc, List.nil_append, List.cons_append, Int.toNat_natCast, ck, Int.cast_ofNat_Int, Int.reduceToNat, bne_self_eq_false, Bool.or_false, Bool.false_or, Bool.false_and, Bool.and_false, Bool.or_true, Bool.true_or]
  have pl := pl ops.length
  generalize plTo (newF n) ops ops.length = l at pl
  have v1 : evF Tryz.prog env (xl orc) (29) 14 [.d (lpD l)] = some (.d (.s (.string (viewB l)))) := view_ev 16 l pl.all pl.d pl.c
  have v2 : evF Tryz.prog env (xl orc) (29) 15 [.d (lpD l)] = some (.d (.s (.string (viewB l)))) := rview_ev 16 l pl.all pl.d pl.c
  have s1 : evF Tryz.prog env (xl orc) (29) 16 [.d (lpD l)] = some (.d (.s (.int .i64 (stkF l)))) := stuck_ev 25 l
  have s2 : evF Tryz.prog env (xl orc) (29) 17 [.d (lpD l)] = some (.d (.s (.int .i64 (stkF l)))) := rstuck_ev 25 l
  have y1 : evF Tryz.prog env (xl orc) (29) 18 [.d (lpD l), .d (lpD l)] = some (.d (.s (.bool (false)))) := sync_self 22 l
  have y2 : evF Tryz.prog env (xl orc) (29) 19 [.d (lpD l), .d (lpD l)] = some (.d (.s (.bool (false)))) := rsync_self 22 l
  generalize viewB l = vw at v1 v2
  generalize stkF l = sk at s1 s2
  have q1 : (vw == vw) = true := beqB_refl vw
  have q2 : (sk != sk) = false := by simp
  have c1000 : (1000 : Int) ≠ 0 := by decide
  obtain ⟨c, hc⟩ : ∃ c, IntKind.u32.wrap (1 + (ns 0).tmod 1000) = c := ⟨_, rfl⟩
  obtain ⟨d, hd⟩ : ∃ d, IntKind.u32.wrap (1 + (ns 1).tmod 1000) = d := ⟨_, rfl⟩
  have bd : ∀ i c, IntKind.u32.wrap (1 + (ns i).tmod 1000) = c → 1 ≤ c ∧ c ≤ 65536 := fun i c h => by
    rw [Int.tmod_eq_emod_of_nonneg (hns i), IntWalk.u32_in _ (by omega)] at h
    omega
  obtain ⟨c1, c2⟩ := bd 0 c hc
  obtain ⟨d1, d2⟩ := bd 1 d hd
  have eU : evF Tryz.prog env (xl orc) (29) 20 [.d (lpD (newF 0)), .d (.s (.int .i64 (1))), .d (.s (.int .u32 (c)))] = some (.tcons (.d (lpD (upF (newF 0) 1 c))) (.tcons (.d (.s (.int .i64 (0)))) .tnil)) := by
    have := up_l (orc := orc) (lpUp_ev 20 (newF 0) 1 c)
    rw [up0 c c1 c2] at this
    exact this
  have eV : evF Tryz.prog env (xl orc) (29) 20 [.d (lpD (newF 1)), .d (.s (.int .i64 (0))), .d (.s (.int .u32 (d)))] = some (.tcons (.d (lpD (upF (newF 1) 0 d))) (.tcons (.d (.s (.int .i64 (0)))) .tnil)) := by
    have := up_l (orc := orc) (lpUp_ev 20 (newF 1) 0 d)
    rw [up1 d d1 d2] at this
    exact this
  have x0 : (xyTo c d 0) = (upF (newF 0) 1 c, upF (newF 1) 0 d) := rfl
  have M := met c1 c2 d1 d2
  simp (decide := true) only [Int.lt_irrefl, v1, v2, s1, s2, y1, y2, q1, q2, c1000, eN, hc, hd, eU, eV, Tryz.f3, rid, kl3_5, kl3_24, dp3_19, dp3_21, dp3_22, ↓sBp, sBq, List.all_cons, List.all_nil, List.map_cons, List.map_nil, D.shape, Sh.sub, Sh.size, List.getElem?_cons_zero, List.getElem?_cons_succ, Option.bind_some, Option.bind_none, Option.getD_some, Option.getD_none, V.keysIn, V.kill, V.has, decide_eq_true_eq, beq_iff_eq, bne_iff_ne, ne_eq, Bool.not_eq_true', Bool.and_true, Bool.and_self, Bool.true_and, if_true, if_false, reduceIte, Bool.false_eq_true, decide_true, decide_false, beq_self_eq_true, Bool.not_true, Bool.not_false, true_and, and_true, and_self, List.append_assoc, List.nil_append, List.cons_append, Int.toNat_natCast, ck, Int.cast_ofNat_Int, Int.reduceToNat, bne_self_eq_false, Bool.or_false, Bool.false_or, Bool.false_and, Bool.and_false, Bool.or_true, Bool.true_or]
  rw [iter_run (S := fun k => ⟨tab .junk [(5, .ptr 5 (.arr 2 cU) [] (.arr 2 cU)), (11, .ptr 11 (shL) [] (shL)), (12, .d (.s (.int .i64 (0)))), (13, .ptr 13 (shL) [] (shL)), (14, .d (.s (.int .i64 (0)))), (129, .d (.s (.int .i64 (k))))], tab none [(5, some (.box (arr2U ns))), (11, some (.box (lpD (xyTo c d k).1))), (13, some (.box (lpD (xyTo c d k).2))), (117, none), (126, none)]⟩) (n := 8) (h0 := ?h0) (hn := lt_loopFuel (by decide)) (step := ?step)]
  case h0 => rw [x0]; rfl
  case step =>
    intro k hk
    have hk1 : (k : Int) < 8 := by omega
    have hkw := wrap_succ k (by omega)
    have es := xyTo_succ c d k
    rw [es]
    generalize xyTo c d k = p
    obtain ⟨x, y⟩ := p
    have er : rx (x, y) = (heardF (drainF x 1) 1 (drainM y 0), heardF (drainF y 0) 0 (drainM x 1)) := rfl
    rw [er]
    have t1 : evF Tryz.prog env (xl orc) (29) 21 [.d (lpD x), .d (.s (.int .i64 (1)))] = some (.tcons (.d (lpD (drainF x 1))) (.tcons (.sl .ro shI (itms (drainM x 1))) .tnil)) := by
      have := up_l (orc := orc) (drain_ev 23 x 1)
      rw [drainM_eq] at this
      exact this
    have t2 : evF Tryz.prog env (xl orc) (29) 21 [.d (lpD y), .d (.s (.int .i64 (0)))] = some (.tcons (.d (lpD (drainF y 0))) (.tcons (.sl .ro shI (itms (drainM y 0))) .tnil)) := by
      have := up_l (orc := orc) (drain_ev 23 y 0)
      rw [drainM_eq] at this
      exact this
    have l1 := drainM_len x 1
    have l2 := drainM_len y 0
    have t3 := lheard_sl (orc := orc) 28 (drainF x 1) 1 (drainM y 0) (by omega)
    have t4 := lheard_sl (orc := orc) 28 (drainF y 0) 0 (drainM x 1) (by omega)
    generalize heardF (drainF x 1) 1 (drainM y 0) = x' at t3
    generalize heardF (drainF y 0) 0 (drainM x 1) = y' at t4
    generalize lnE (drainF x 1) 1 = z1 at t3
    generalize lnE (drainF y 0) 0 = z2 at t4
    generalize drainF x 1 = xd at t1 t3
    generalize drainF y 0 = yd at t2 t4
    generalize itms (drainM x 1) = ix at t1 t4
    generalize itms (drainM y 0) = iy at t2 t3
    simp (decide := true) only [hk1, hkw, t1, t2, t3, t4, Tryz.f3, rid, kl3_5, kl3_24, dp3_19, dp3_21, dp3_22, ↓sBp, sBq, List.all_cons, List.all_nil, List.map_cons, List.map_nil, D.shape, Sh.sub, Sh.size, List.getElem?_cons_zero, List.getElem?_cons_succ, Option.bind_some, Option.bind_none, Option.getD_some, Option.getD_none, V.keysIn, V.kill, V.has, decide_eq_true_eq, beq_iff_eq, bne_iff_ne, ne_eq, Bool.not_eq_true', Bool.and_true, Bool.and_self, Bool.true_and, if_true, if_false, reduceIte, Bool.false_eq_true, decide_true, decide_false, beq_self_eq_true, Bool.not_true, Bool.not_false, true_and, and_true, and_self, List.append_assoc, List.nil_append, List.cons_append, Int.toNat_natCast, ck, Int.cast_ofNat_Int, Int.reduceToNat, bne_self_eq_false, Bool.or_false, Bool.false_or, Bool.false_and, Bool.and_false, Bool.or_true, Bool.true_or]
  generalize (xyTo c d 8).1 = x at M
  generalize (xyTo c d 8).2 = y at M
  have w1 : evF Tryz.prog env (xl orc) (29) 18 [.d (lpD x), .d (lpD y)] = some (.d (.s (.bool (true)))) := sync_met 22 M
  have w2 : evF Tryz.prog env (xl orc) (29) 19 [.d (lpD x), .d (lpD y)] = some (.d (.s (.bool (true)))) := rsync_met 22 M
  have w3 : evF Tryz.prog env (xl orc) (29) 23 [.d (lpD x)] = some (.d (.s (.bool (true)))) := by
    have := up_x (orc := orc) (passive_ev 28 x)
    rw [M.ax] at this
    exact this
  have w4 : evF Tryz.prog env (xl orc) (29) 16 [.d (lpD y)] = some (.d (.s (.int .i64 (0)))) := by
    have := stuck_ev (orc := orc) 25 y
    have e : stkF y = 0 := by
      unfold stkF
      rw [M.ay, listTo_zero]; rfl
    rw [e] at this
    exact this
  have w5 := M.r1
  have w6 : (c == c) = true := by simp
  simp (decide := true) only [w1, w2, w3, w4, w5, c1000, hc, w6, eW, Tryz.f3, rid, kl3_5, kl3_24, dp3_19, dp3_21, dp3_22, ↓sBp, sBq, List.all_cons, List.all_nil, List.map_cons, List.map_nil, D.shape, Sh.sub, Sh.size, List.getElem?_cons_zero, List.getElem?_cons_succ, Option.bind_some, Option.bind_none, Option.getD_some, Option.getD_none, V.keysIn, V.kill, V.has, decide_eq_true_eq, beq_iff_eq, bne_iff_ne, ne_eq, Bool.not_eq_true', Bool.and_true, Bool.and_self, Bool.true_and, if_true, if_false, reduceIte, Bool.false_eq_true, decide_true, decide_false, beq_self_eq_true, Bool.not_true, Bool.not_false, true_and, and_true, and_self, List.append_assoc, List.nil_append, List.cons_append, Int.toNat_natCast, ck, Int.cast_ofNat_Int, Int.reduceToNat, bne_self_eq_false, Bool.or_false, Bool.false_or, Bool.false_and, Bool.and_false, Bool.or_true, Bool.true_or]
end
end Go.Proofs.YtjceimcepogkaaaGreatDoor.Ev
