/- merge.Items: what is told, asked and replied: a closure that writes what it captured: what the closure does. -/
import Derived.Test.YtjceimcepogkaaaGreatDoorTr
import Derived.Test.YtjceimcepogkaaaGreatDoorEvH
import Derived.Test.YtjceimcepogkaaaGreatDoorFacts
import Derived.Test.YtjceimcepogkaaaGreatDoorEvM
import Derived.Test.YtjceimcepogkaaaGreatDoorNa
namespace Go.Proofs.YtjceimcepogkaaaGreatDoor.Ev
open Go
attribute [local congr] ob_congr sq_congr cd_congr ite_congr1 iter_congr it1_congr jumps_congr
set_option maxRecDepth 100000
set_option linter.unusedSimpArgs false
set_option linter.unusedVariables false
open Go.RowKit
noncomputable def putOps : Array Oper := match Tryz.f116.body with
  | some (.region _ ops _) => ops
  | _ => #[]
theorem putBody : Tryz.f116.body = some (.region 0 putOps false) := by rfl
theorem putDst : ∀ (j : Nat) (o : Oper) (d : Nat), putOps[j]? = some o → o.dst = some d → d < 15 := by
  have h : okCode Tryz.prog (env.dp 116) 15 (.region 0 putOps false) = true := by kernel_rfl
  exact (okRegion h).1
abbrev ptrV (g : Nat) : Value := .pointer (some ⟨g, 0, none⟩)
theorem RE_box {w : World} {g : Nat} {x : D} {T : TypeId} {rest : List Value} (hx : x.WF) (h : w.heap[g]? = some (.cells (x.flat ++ rest).toArray T (0, 0))) : RE w 0 w.heap.size x.shape x (ptrV g) :=
  ⟨hx, rfl, g, 0, _, T, _, Nat.zero_le _, lt_of_heap h, rfl, h, fun j v hj => by
    have hlt := (List.getElem?_eq_some_iff.1 hj).1
    simpa [List.getElem?_append_left hlt] using hj⟩
theorem put_calls {B : Nat} {w : World} {g gj ge : Nat} {es : List D} {u : Value} {k j d p : Int} {Tj Te : TypeId} {rj re : List Value} (hh : Hid B w g shI es u)
    (hj : w.heap[gj]? = some (.cells ((dI j).flat ++ rj).toArray Tj (0, 0))) (he : w.heap[ge]? = some (.cells ((entD d p).flat ++ re).toArray Te (0, 0))) (hl : es.length ≤ 1000) (hB : B ≤ w.heap.size) :
    Calls Tryz.prog 116 #[.int .i64 k, ptrV g, ptrV gj, ptrV ge] w fun e w' => e = .returned (.tuple #[]) ∧ ∃ u', Hid B w' g shI (es ++ [itD j k d p]) u' ∧ Below B w w' ∧
      (∀ x, x < w.heap.size → x ≠ g → u.ownBlock ≠ some x → w'.heap[x]? = w.heap[x]?) ∧ (∀ x, u'.ownBlock = some x → u.ownBlock = some x ∨ w.heap.size ≤ x) ∧ w.heap.size ≤ w'.heap.size := by
  obtain ⟨T, hT⟩ := hh.cell
  have hlt := hh.lt
  obtain ⟨hg, e0, ho⟩ := hh.row
  have hu1 : u.oneCell' = true ∧ ck u = .other := by
    rcases ho.2 with ⟨rfl, _⟩ | ⟨g1, cap, cur, rfl, _⟩ <;> exact ⟨rfl, rfl⟩
  refine calls_of_wp Tryz.func116 putBody ?_
  refine wp_region ?_
  rw [show List.range putOps.size = 0 :: ([1, 2, 3, 4, 5, 6, 7, 8] ++ [9, 10]) from rfl]
  have r0 := enter_rel (w := w) (l := [.d (.s (.int .i64 k)), .d (.s (ptrV g)), .ep .ro cI (dI j), .ep .ro shE (entD d p)]) (us := [.int .i64 k, ptrV g, ptrV gj, ptrV ge])
    ⟨⟨rfl, rfl⟩, ⟨rfl, rfl⟩, RE_box (x := dI j) rfl hj, RE_box (x := entD d p) ⟨rfl, rfl, trivial⟩ he, trivial⟩ 15
  have tl : Lies Tryz.prog 47 (.cell .other) := (env_ok.ty 47 _ rfl).lies
  refine wpOps_cons (o := putOps.getD 0 default) rfl rfl ?_
  have q0 : ∀ a : Act, a.tmps.getD 1 undef = ptrV g → (execOp a.eval (putOps.getD 0 default)).run Tryz.prog w = .ok (.value u) w := fun a ha => by
    have e1 : a.eval (.tmp 1) = ptrV g := ha
    have e2 := run_load (P := Tryz.prog) (w := w) tl (x := .s u) hu1.1 (show (D.s u).shape = .cell .other by simp [D.shape, hu1.2]) (g := g) (o := 0) (cells_at hT fun j v hj => by simpa [D.flat] using hj)
    show ((do let v ← Instr.loadAt 47 (a.eval (.tmp 1)); pure (.value v) : Sem Next)).run Tryz.prog w = _
    rw [e1]
    simp only [Instr.loadAt, Instr.sureAddr, Sem.run_bind, Sem.run_pure, Result.andThen_ok, e2]
    rfl
  unfold Oper.wp
  rw [q0 _ rfl, Oper.upon_value]
  obtain ⟨φ1, r1⟩ := r0.app (some 5) (v := .d (.s u)) (b := none) (u := u) (w' := w) (φ' := fun _ => none) (stay ⟨hu1.1, rfl⟩) (fun k hk => by cases hk; simp)
  obtain ⟨sn, hev, h1, h5, h13⟩ : ∃ sn, evIdx env (fun _ _ => none) putOps [1, 2, 3, 4, 5, 6, 7, 8] ((enter [.d (.s (.int .i64 k)), .d (.s (ptrV g)), .ep .ro cI (dI j), .ep .ro shE (entD d p)]).app (some 5) (.d (.s u)) none) = some sn ∧
      sn.t 1 = .d (.s (ptrV g)) ∧ sn.t 5 = .d (.s u) ∧ sn.t 13 = .sl (.tg 13) shI [itD j k d p] := ⟨_, rfl, rfl, rfl, rfl⟩
  refine evOps_first (E := env) (call := fun _ _ => none) (n := 15) (sn := sn) env_ok (fun g l r h => by cases h) putDst (fun a w9 φ9 r9 hn => ?_) [1, 2, 3, 4, 5, 6, 7, 8] _ _ w φ1 r1 (by rw [put_size]; simp) hev
  have b9 := r9.bel
  have t1 := r9.tm 1
  have t5 := r9.tm 5
  have t13 := r9.tm 13
  rw [h1] at t1
  rw [h5] at t5
  rw [h13] at t13
  obtain ⟨_, e1⟩ := t1
  obtain ⟨_, e5⟩ := t5
  have ho9 : w9.ownsRow B e0 shI.size u es.length (flats es) := ownsRow_same ho fun x hx => b9.block x (ownsRow_lt ho hx).2
  obtain ⟨v', w10, e10, q1, q2, q3, q4, q5⟩ := append_run (ty := 47) env_ok (t := 47) (e := 66) (tt := _) (te := _) rfl rfl rfl (by decide) hg t13 (by show (es.length + 1) * _ ≤ _; exact Nat.le_trans (Nat.mul_le_mul_right _ (Nat.succ_le_succ hl)) (by decide)) (by show es.length + 1 ≤ _; simp only [maxLen]; omega) ho9 (Nat.le_trans hB b9.size)
  refine wpOps_cons (o := putOps.getD 9 default) rfl rfl ?_
  have q9 : (execOp a.eval (putOps.getD 9 default)).run Tryz.prog w9 = .ok (.value v') w10 := by
    have e5' : a.eval (.tmp 5) = u := e5
    show (do let d ← resolve a.eval ⟨.builtin .append, #[.tmp 5, .tmp 13], #[47, 47]⟩ 47; invoke d.target d.args : Sem Next).run Tryz.prog w9 = _
    simp only [resolve, invoke, builtin, Sem.run_bind, Sem.run_pure, Result.andThen_ok]
    rw [show (#[Operand.tmp 5, Operand.tmp 13].map a.eval) = #[a.eval (.tmp 5), a.eval (.tmp 13)] from by simp, e5']
    rw [show a.eval (.tmp 13) = a.tmps.getD 13 undef from rfl, q1]
    rfl
  unfold Oper.wp
  rw [q9, Oper.upon_value]
  refine wpOps_cons (o := putOps.getD 10 default) rfl rfl ?_
  have hT9 : w9.heap[g]? = some (.cells #[u] T (0, 0)) := (b9.block g hlt).trans hT
  have hT10 : w10.heap[g]? = some (.cells #[u] T (0, 0)) := (q3.block g (lt_of_heap hT9) (fun e => hh.ne e.symm)).trans hT9
  have hv1 : v'.oneCell' = true ∧ ck v' = .other := by
    rcases q2.2 with ⟨rfl, _⟩ | ⟨g1, cap, cur, rfl, _⟩ <;> exact ⟨rfl, rfl⟩
  have hst := run_store_at (P := Tryz.prog) (w := w10) tl (x := .s u) (v := .s v') (p := []) hu1.1 (show (D.s u).shape.sub [] = some (.cell .other) by simp [D.shape, hu1.2, Sh.sub]) hv1.1 (by simp [D.shape, hv1.2]) (g := g) (T := T) hT10
  have q10 : ∀ b : Act, b.tmps.getD 1 undef = ptrV g → b.tmps.getD 14 undef = v' → (execOp b.eval (putOps.getD 10 default)).run Tryz.prog w10 = .ok .skip (w10.setRow g #[v']) := fun b h1 h14 => by
    have e1 : b.eval (.tmp 1) = ptrV g := h1
    have e14 : b.eval (.tmp 14) = v' := h14
    show ((do Instr.storeAt 47 (b.eval (.tmp 1)) (b.eval (.tmp 14)); pure .skip : Sem Next)).run Tryz.prog w10 = _
    rw [e1, e14]
    simp only [Instr.storeAt, Instr.sureAddr, Sem.run_bind, Sem.run_pure, Result.andThen_ok]
    rw [show (D.s u).shape.off [] = 0 from rfl] at hst
    rw [show (D.s v').val = v' from rfl] at hst
    rw [hst]
    rfl
  unfold Oper.wp
  have hs14 : 14 < a.tmps.size := by omega
  rw [q10 _ (by rw [show (putOps.getD 9 default).dst = some 14 from rfl, put_get a 14 v' hs14]; exact e1) (by rw [show (putOps.getD 9 default).dst = some 14 from rfl, put_get a 14 v' hs14]; rfl), Oper.upon_skip]
  have hres : ∀ ts : Array Value, (results Tryz.f116 ts).run Tryz.prog (w10.setRow g #[v']) = .ok (.tuple #[]) (w10.setRow g #[v']) := fun ts => by
    unfold results
    rw [show Tryz.f116.results = #[] from rfl]
    simp
  refine ⟨?_, .tuple #[], hres _, rfl, v', ?_, ?_, ?_, ?_, ?_⟩
  · rw [put_dfr, put_dfr]; exact r9.dfr
  · refine ⟨hh.lo, ⟨T, setRow_heap w10 g _ _ T (0, 0) hT10⟩, ⟨q5, e10, ownsRow_same q2 fun x hx => setRow_other w10 g x _ fun e => ?_⟩, fun e => ?_⟩
    · subst e
      rcases q4 x hx with h | h
      · exact hh.ne h
      · have := lt_of_heap hT9; omega
    · rcases q4 g e with h | h
      · exact hh.ne h
      · have := lt_of_heap hT9; omega
  · refine (b9.mono hB).trans ((grown_below q3 (fun x hx => (ownsRow_lt ho hx).1) (Nat.le_trans hB b9.size)).trans (setRow_below hh.lo _))
  · intro x hx hxg hxu
    rw [setRow_other w10 g x _ hxg, q3.block x (Nat.lt_of_lt_of_le hx b9.size) (fun e => hxu e.symm), b9.block x hx]
  · intro x hx
    rcases q4 x hx with h | h
    · exact .inl h
    · exact .inr (Nat.le_trans b9.size h)
  · have := q3.size; have := b9.size; simp; omega
theorem putFn : ∃ fn, Tryz.prog.funcs[116]? = some fn ∧ fn.body.isNone = false ∧ (fn.name == "runtime.NumGoroutine") = false := ⟨Tryz.f116, Tryz.func116, by kernel_rfl, by kernel_rfl⟩
abbrev putV (g : Nat) : V := .clos 116 (.tcons (.d (.s (ptrV g))) (.tcons (.ptr 10 cI [] cI) (.tcons (.ptr 11 shE [] shE) .tnil)))
/-- The closure called: the variable that it captured has one more. -/
theorem HR.put {B : Nat} {W : World} {n g : Nat} {es : List D} {s : St} {a : Act} {w : World} (h : HR B W n g shI es s a w) (hf : ∀ i, (s.t i).free = true) {j k d p : Int} (h12 : s.t 12 = putV g) (h10 : s.m 10 = some (.box (dI j))) (h11 : s.m 11 = some (.box (entD d p)))
    (hl : es.length ≤ 1000) {x y t1 t2 id : Nat} {p1 p2 : String} {a1 a2 : Array Edge} {ts : Array Nat} (hx : x < n) (hy : y < n) (hxy : s.m x = none) (hxy2 : s.m y = none)
    {Q : Exit → Act → World → Prop} (hQ : ∀ a' w', HR B W n g shI (es ++ [itD j k d p]) ((s.app (some x) (putV g) none).app (some y) .tnil none) a' w' → Q .normal a' w') :
    (Code.region id #[⟨some x, .move (.tmp 12), t1, p1, a1, none⟩, ⟨some y, .call ⟨.value (.tmp x), #[.const (.int .i64 k)], ts⟩, t2, p2, a2, none⟩] false).wp Tryz.prog Q a w := by
  obtain ⟨⟨φ, u, r, hh, c1, c2⟩, hn, hb⟩ := h
  refine wp_region ?_
  show wpOps _ _ _ [0, 1] a w
  refine wpOps_cons (o := ⟨some x, .move (.tmp 12), t1, p1, a1, none⟩) rfl rfl ?_
  have t12 := r.tm 12
  rw [h12] at t12
  obtain ⟨cs, e12, hcs⟩ := t12
  obtain ⟨q1, qs1, hq1, ⟨_, rfl⟩, hcs⟩ := hcs
  obtain ⟨q2, qs2, rfl, hp10, hcs⟩ := hcs
  obtain ⟨q3, qs3, rfl, hp11, hcs⟩ := hcs
  obtain rfl : qs3 = [] := hcs
  obtain ⟨_, _, _, _, _, g10, T10, f10, rfl, hc10, _⟩ := box_at r h10 hp10
  obtain ⟨_, _, _, _, _, g11, T11, f11, rfl, hc11, _⟩ := box_at r h11 hp11
  obtain rfl : cs = #[ptrV g, ptrV g10, ptrV g11] := Array.ext' hq1
  unfold Oper.wp
  have ex0 : (execOp a.eval ⟨some x, .move (.tmp 12), t1, p1, a1, none⟩).run Tryz.prog w = .ok (.value (a.tmps.getD 12 undef)) w := by simp [execOp, Act.eval]
  rw [ex0, Oper.upon_value]
  have hn' := hn
  obtain ⟨φ1, r1⟩ := r.app (some x) (v := putV g) (b := none) (u := a.tmps.getD 12 undef) (w' := w) (φ' := φ) (stay (by rw [← h12]; exact r.tm 12)) (fun k hk => by cases hk; omega)
  refine wpOps_cons (o := ⟨some y, .call ⟨.value (.tmp x), #[.const (.int .i64 k)], ts⟩, t2, p2, a2, none⟩) rfl rfl ?_
  obtain ⟨fn, hfn, hbody, hname⟩ := putFn
  have ef : (a.put (some x) (a.tmps.getD 12 undef)).eval (.tmp x) = .func (.func 116) #[] #[ptrV g, ptrV g10, ptrV g11] := by
    show (a.put (some x) (a.tmps.getD 12 undef)).tmps.getD x undef = _
    rw [put_get a x _ (by omega), if_pos rfl, e12]
  unfold Oper.wp
  have ex1 : (execOp (a.put (some x) (a.tmps.getD 12 undef)).eval ⟨some y, .call ⟨.value (.tmp x), #[.const (.int .i64 k)], ts⟩, t2, p2, a2, none⟩).run Tryz.prog w = .ok (.enter 116 #[.int .i64 k, ptrV g, ptrV g10, ptrV g11]) w := by
    simp only [execOp, resolve, ef, Deferred.ofValue, invoke, callFunc, Sem.run_bind, Sem.run_pure, Result.andThen_ok, run_program, hfn, hname, hbody, Bool.false_eq_true, if_false, Array.empty_append]
    have em : ∀ ev : Operand → Value, #[Operand.const (.int .i64 k)].map ev = #[ev (.const (.int .i64 k))] := fun ev => by simp
    rw [em]
    rfl
  rw [ex1, Oper.upon_enter]
  refine (put_calls hh hc10 hc11 hl r.base).mono fun en w' hq => ?_
  obtain ⟨rfl, u', hh', hbel, hfr, hown, hsz⟩ := hq
  have rr : Rel B w φ s a w φ := r
  have r2 := r1.re
  obtain ⟨hh1, d1, d2⟩ := hh.fr r1.fr c1 c2
  have r3 : Rel B w' φ1 (s.app (some x) (putV g) none) (a.put (some x) (a.tmps.getD 12 undef)) w' φ1 := r2.anew (fun i => by
      show ((upd s.t x (putV g)) i).free = true
      by_cases hi : i = x
      · subst hi; rw [upd_same]; rfl
      · rw [upd_ne _ _ hi]; exact hf i) (fun k0 x0 hx0 => hfr x0 (r2.lo k0 x0 hx0).2 (fun e => d1 k0 (e ▸ hx0)) (fun e => d2 k0 x0 e hx0)) hsz
  obtain ⟨φ2, r4⟩ := r3.app (some y) (v := .tnil) (b := none) (u := .tuple #[]) (w' := w') (φ' := φ1) (stay rfl) (fun k hk => by cases hk; rw [put_size]; omega)
  refine hQ _ _ (HR.of r4 (by rw [put_size, put_size]; exact hn) (hb.trans hbel) hh' d1 fun k0 x0 hx0 => ?_)
  rcases hown x0 hx0 with h | h
  · exact d2 k0 x0 h
  · intro e
    have := (r2.lo k0 x0 e).2; omega
end Go.Proofs.YtjceimcepogkaaaGreatDoor.Ev
/- nodes.Has, where no function is answered by hand. -/
namespace Go.Proofs.YtjceimcepogkaaaGreatDoor.Ev
open Go
attribute [local congr] ob_congr sq_congr cd_congr ite_congr1 iter_congr it1_congr jumps_congr
set_option maxRecDepth 100000
set_option linter.unusedSimpArgs false
set_option linter.unusedVariables false
theorem right_ev0 (k : Nat) (n : Int) : evF Tryz.prog env noext (k+1) 64 [.d (.s (.int .i64 (n)))] = some (.d (.s (.bool (right n)))) := by
  rw [evF_eq Tryz.func64 (show Tryz.f64.body = some _ from rfl) rfl rfl rfl (by show 1 ≤ 9; decide)]
  by_cases h : 0 ≤ n
  · simp (decide := true) only [h, right, Tryz.f64, rid, ↓sBp, sBq, List.all_cons, List.all_nil, List.map_cons, List.map_nil, D.shape, Sh.sub, Sh.size, List.getElem?_cons_zero, List.getElem?_cons_succ, Option.bind_some, Option.bind_none, Option.getD_some, Option.getD_none, V.keysIn, V.kill, V.has, decide_eq_true_eq, beq_iff_eq, bne_iff_ne, ne_eq, Bool.not_eq_true', Bool.and_true, Bool.and_self, Bool.true_and, if_true, if_false, reduceIte, Bool.false_eq_true, decide_true, decide_false, beq_self_eq_true, Bool.not_true, Bool.not_false, true_and, and_true, and_self, List.append_assoc, List.nil_append, List.cons_append, Int.toNat_natCast, ck, Int.cast_ofNat_Int, Int.reduceToNat, bne_self_eq_false, Bool.or_false, Bool.false_or, Bool.false_and, Bool.and_false, Bool.or_true, Bool.true_or]
  · simp (decide := true) only [h, right, Tryz.f64, rid, ↓sBp, sBq, List.all_cons, List.all_nil, List.map_cons, List.map_nil, D.shape, Sh.sub, Sh.size, List.getElem?_cons_zero, List.getElem?_cons_succ, Option.bind_some, Option.bind_none, Option.getD_some, Option.getD_none, V.keysIn, V.kill, V.has, decide_eq_true_eq, beq_iff_eq, bne_iff_ne, ne_eq, Bool.not_eq_true', Bool.and_true, Bool.and_self, Bool.true_and, if_true, if_false, reduceIte, Bool.false_eq_true, decide_true, decide_false, beq_self_eq_true, Bool.not_true, Bool.not_false, true_and, and_true, and_self, List.append_assoc, List.nil_append, List.cons_append, Int.toNat_natCast, ck, Int.cast_ofNat_Int, Int.reduceToNat, bne_self_eq_false, Bool.or_false, Bool.false_or, Bool.false_and, Bool.and_false, Bool.or_true, Bool.true_or]
theorem has_ev0 (k : Nat) (s n : Int) : evF Tryz.prog env noext (k+2) 79 [.d (.s (.int .i64 (s))), .d (.s (.int .i64 (n)))] = some (.d (.s (.bool (has s n)))) := by
  rw [evF_eq Tryz.func79 (show Tryz.f79.body = some _ from rfl) rfl rfl rfl (by show 2 ≤ 14; decide)]
  by_cases h : right n = true
  · have h2 := (right_nn h).1
    simp (decide := true) only [h, h2, right_ev0, has, Tryz.f79, rid, ↓sBp, sBq, List.all_cons, List.all_nil, List.map_cons, List.map_nil, D.shape, Sh.sub, Sh.size, List.getElem?_cons_zero, List.getElem?_cons_succ, Option.bind_some, Option.bind_none, Option.getD_some, Option.getD_none, V.keysIn, V.kill, V.has, decide_eq_true_eq, beq_iff_eq, bne_iff_ne, ne_eq, Bool.not_eq_true', Bool.and_true, Bool.and_self, Bool.true_and, if_true, if_false, reduceIte, Bool.false_eq_true, decide_true, decide_false, beq_self_eq_true, Bool.not_true, Bool.not_false, true_and, and_true, and_self, List.append_assoc, List.nil_append, List.cons_append, Int.toNat_natCast, ck, Int.cast_ofNat_Int, Int.reduceToNat, bne_self_eq_false, Bool.or_false, Bool.false_or, Bool.false_and, Bool.and_false, Bool.or_true, Bool.true_or]
    rfl
  · simp (decide := true) only [h, right_ev0, has, Tryz.f79, rid, ↓sBp, sBq, List.all_cons, List.all_nil, List.map_cons, List.map_nil, D.shape, Sh.sub, Sh.size, List.getElem?_cons_zero, List.getElem?_cons_succ, Option.bind_some, Option.bind_none, Option.getD_some, Option.getD_none, V.keysIn, V.kill, V.has, decide_eq_true_eq, beq_iff_eq, bne_iff_ne, ne_eq, Bool.not_eq_true', Bool.and_true, Bool.and_self, Bool.true_and, if_true, if_false, reduceIte, Bool.false_eq_true, decide_true, decide_false, beq_self_eq_true, Bool.not_true, Bool.not_false, true_and, and_true, and_self, List.append_assoc, List.nil_append, List.cons_append, Int.toNat_natCast, ck, Int.cast_ofNat_Int, Int.reduceToNat, bne_self_eq_false, Bool.or_false, Bool.false_or, Bool.false_and, Bool.and_false, Bool.or_true, Bool.true_or]
end Go.Proofs.YtjceimcepogkaaaGreatDoor.Ev
/- merge.Items: what is told, asked and replied. -/
namespace Go.Proofs.YtjceimcepogkaaaGreatDoor.Ev
open Go
attribute [local congr] ob_congr sq_congr cd_congr ite_congr1 iter_congr it1_congr jumps_congr
set_option maxRecDepth 100000
set_option linter.unusedSimpArgs false
set_option linter.unusedVariables false
open Go.RowKit
theorem hcall9 : ∀ g l r, evF Tryz.prog env noext 9 g l = some r → ∀ w, CallX Tryz.prog w g l r := fun g l r h w => .plain (noMut' rfl g l) (.inl ((evF_sound env_ok fns_ok (fun _ _ _ h => by cases h) 9 g l r h).at w))
theorem itemsTo_succ (d p : Nat → Int) (tell ask reply : Int) (k : Nat) : itemsTo d p tell ask reply (k + 1) = itemsTo d p tell ask reply k ++ rndI d p tell ask reply k := rfl
theorem rndI_len (d p : Nat → Int) (tell ask reply : Int) (k : Nat) : (rndI d p tell ask reply k).length ≤ 3 := by
  unfold rndI
  rw [List.length_append, List.length_append]
  split <;> split <;> split <;> simp
theorem itemsTo_len (d p : Nat → Int) (tell ask reply : Int) : ∀ k, (itemsTo d p tell ask reply k).length ≤ 3 * k
  | 0 => Nat.le_refl _
  | k + 1 => by
    have := itemsTo_len d p tell ask reply k
    have := rndI_len d p tell ask reply k
    rw [itemsTo_succ, List.length_append]; omega
noncomputable def roundC : Code := match Tryz.f71.body with
  | some (.seq _ (.seq _ (.seq (.seq _ (.block _ (.loop c))) _))) => c
  | _ => .skip
theorem tab_free : ∀ (l : List (Nat × V)), (l.all fun p => p.2.free) = true → ∀ i, (tab V.junk l i).free = true
  | [], _, _ => rfl
  | (k, v) :: l, h, i => by
    simp only [List.all_cons, Bool.and_eq_true] at h
    simp only [tab]
    split
    · exact h.1
    · exact tab_free l h.2 i
section
variable (d p : Nat → Int) (tell ask reply : Int) (g : Nat)
abbrev I0 (k : Nat) : St := ⟨tab .junk [(1, .d (.s (.int .i64 (tell)))), (2, .d (.s (.int .i64 (ask)))), (3, .d (.s (.int .i64 (reply)))), (9, .d (.s (ptrV g))), (15, .d (treeD d p)), (16, .d (.s (.int .i64 (k))))], tab none []⟩
abbrev I3 (k : Nat) (b : Bool) : St := ⟨tab .junk [(1, .d (.s (.int .i64 (tell)))), (2, .d (.s (.int .i64 (ask)))), (3, .d (.s (.int .i64 (reply)))), (9, .d (.s (ptrV g))), (15, .d (treeD d p)), (16, .d (.s (.int .i64 (k)))), (17, .d (.s (.bool (b))))], tab none []⟩
abbrev mI (k : Nat) : Nat → Option Bk := tab none [(10, some (.box (dI k))), (11, some (.box (entD (d k) (p k))))]
abbrev I4 (k : Nat) : St := ⟨tab .junk [(1, .d (.s (.int .i64 (tell)))), (2, .d (.s (.int .i64 (ask)))), (3, .d (.s (.int .i64 (reply)))), (9, .d (.s (ptrV g))), (10, .ptr 10 (cI) [] (cI)), (11, .ptr 11 (shE) [] (shE)), (15, .d (treeD d p)), (16, .d (.s (.int .i64 (k))))], mI d p k⟩
abbrev I5 (k : Nat) : St := ⟨tab .junk [(1, .d (.s (.int .i64 (tell)))), (2, .d (.s (.int .i64 (ask)))), (3, .d (.s (.int .i64 (reply)))), (9, .d (.s (ptrV g))), (10, .ptr 10 (cI) [] (cI)), (11, .ptr 11 (shE) [] (shE)), (12, putV g), (15, .d (treeD d p)), (16, .d (.s (.int .i64 (k))))], mI d p k⟩
abbrev I6 (k : Nat) : St := ⟨tab .junk [(1, .d (.s (.int .i64 (tell)))), (2, .d (.s (.int .i64 (ask)))), (3, .d (.s (.int .i64 (reply)))), (9, .d (.s (ptrV g))), (10, .ptr 10 (cI) [] (cI)), (11, .ptr 11 (shE) [] (shE)), (12, putV g), (13, .d (.s (.bool (has ask k)))), (14, .d (.s (.bool (has reply k)))), (15, .d (treeD d p)), (16, .d (.s (.int .i64 (k))))], mI d p k⟩
abbrev I7 (k j : Nat) (b : Bool) : St := ⟨tab .junk [(1, .d (.s (.int .i64 (tell)))), (2, .d (.s (.int .i64 (ask)))), (3, .d (.s (.int .i64 (reply)))), (9, .d (.s (ptrV g))), (10, .ptr 10 (cI) [] (cI)), (11, .ptr 11 (shE) [] (shE)), (12, putV g), (13, .d (.s (.bool (has ask k)))), (14, .d (.s (.bool (has reply k)))), (15, .d (treeD d p)), (16, .d (.s (.int .i64 (k)))), (j, .d (.s (.bool (b))))], mI d p k⟩
variable {d p tell ask reply g}
theorem round_items {B : Nat} {W : World} {k : Nat} (hk : k < 16) {a : Act} {w : World} {es : List D} (hes : es.length + 3 ≤ 1000) (h : HR B W 48 g shI es (I0 d p tell ask reply g k) a w) {Q : Exit → Act → World → Prop}
    (hQ : ∀ a' w', HR B W 48 g shI (es ++ rndI d p tell ask reply k) (I0 d p tell ask reply g (k + 1)) a' w' → Q .normal a' w') : roundC.wp Tryz.prog Q a w := by
  have hk1 : (k : Int) < 16 := by omega
  have hk0 : (0 : Int) ≤ k := by omega
  have hkw := wrap_succ k (by omega)
  refine wp_seq ?_
  refine h.piece (b := ([1, 2, 3, 9, 15, 16, 17], [])) (s' := I3 d p tell ask reply g k true) (fn := 71) (lf := loopFuel) env_ok hcall9 (by kernel_rfl) ?e1 (fun a w h => ?_)
  case e1 => simp (decide := true) only [hk1, Tryz.f71, rid, kl71_3, dp71_6, ↓sBp, sBq, List.all_cons, List.all_nil, List.map_cons, List.map_nil, D.shape, Sh.sub, Sh.size, List.getElem?_cons_zero, List.getElem?_cons_succ, Option.bind_some, Option.bind_none, Option.getD_some, Option.getD_none, V.keysIn, V.kill, V.has, decide_eq_true_eq, beq_iff_eq, bne_iff_ne, ne_eq, Bool.not_eq_true', Bool.and_true, Bool.and_self, Bool.true_and, if_true, if_false, reduceIte, Bool.false_eq_true, decide_true, decide_false, beq_self_eq_true, Bool.not_true, Bool.not_false, true_and, and_true, and_self, List.append_assoc, List.nil_append, List.cons_append, Int.toNat_natCast, ck, Int.cast_ofNat_Int, Int.reduceToNat, bne_self_eq_false, Bool.or_false, Bool.false_or, Bool.false_and, Bool.and_false, Bool.or_true, Bool.true_or]
  refine wp_seq ?_
  refine wp_cond_true (h.slot (i := 17) rfl) (wp_skip ?_)
  refine wp_seq ?_
  refine wp_block ?_
  refine wp_seq ?_
  refine h.piece (b := ([1, 2, 3, 9, 10, 11, 15, 16], [10, 11])) (s' := I4 d p tell ask reply g k) (fn := 71) (lf := loopFuel) env_ok hcall9 (by kernel_rfl) ?e2 (fun a w h => ?_)
  case e2 => simp (decide := true) only [hk1, hk0, Tryz.f71, rid, kl71_3, dp71_6, ↓sBp, sBq, List.all_cons, List.all_nil, List.map_cons, List.map_nil, D.shape, Sh.sub, Sh.size, List.getElem?_cons_zero, List.getElem?_cons_succ, Option.bind_some, Option.bind_none, Option.getD_some, Option.getD_none, V.keysIn, V.kill, V.has, decide_eq_true_eq, beq_iff_eq, bne_iff_ne, ne_eq, Bool.not_eq_true', Bool.and_true, Bool.and_self, Bool.true_and, if_true, if_false, reduceIte, Bool.false_eq_true, decide_true, decide_false, beq_self_eq_true, Bool.not_true, Bool.not_false, true_and, and_true, and_self, List.append_assoc, List.nil_append, List.cons_append, Int.toNat_natCast, ck, Int.cast_ofNat_Int, Int.reduceToNat, bne_self_eq_false, Bool.or_false, Bool.false_or, Bool.false_and, Bool.and_false, Bool.or_true, Bool.true_or]
  refine wp_seq ?_
  refine h.piece (b := ([1, 2, 3, 9, 10, 11, 12, 15, 16], [10, 11])) (s' := I5 d p tell ask reply g k) (fn := 71) (lf := loopFuel) env_ok hcall9 (by kernel_rfl) ?e3 (fun a w h => ?_)
  case e3 => simp (decide := true) only [Tryz.f71, rid, kl71_3, dp71_6, ↓sBp, sBq, List.all_cons, List.all_nil, List.map_cons, List.map_nil, D.shape, Sh.sub, Sh.size, List.getElem?_cons_zero, List.getElem?_cons_succ, Option.bind_some, Option.bind_none, Option.getD_some, Option.getD_none, V.keysIn, V.kill, V.has, decide_eq_true_eq, beq_iff_eq, bne_iff_ne, ne_eq, Bool.not_eq_true', Bool.and_true, Bool.and_self, Bool.true_and, if_true, if_false, reduceIte, Bool.false_eq_true, decide_true, decide_false, beq_self_eq_true, Bool.not_true, Bool.not_false, true_and, and_true, and_self, List.append_assoc, List.nil_append, List.cons_append, Int.toNat_natCast, ck, Int.cast_ofNat_Int, Int.reduceToNat, bne_self_eq_false, Bool.or_false, Bool.false_or, Bool.false_and, Bool.and_false, Bool.or_true, Bool.true_or]
  refine wp_seq ?_
  refine h.piece (b := ([1, 2, 3, 9, 10, 11, 12, 13, 14, 15, 16], [10, 11])) (s' := I6 d p tell ask reply g k) (fn := 71) (lf := loopFuel) env_ok hcall9 (by kernel_rfl) ?e4 (fun a w h => ?_)
  case e4 => simp (decide := true) only [has_ev0, Tryz.f71, rid, kl71_3, dp71_6, ↓sBp, sBq, List.all_cons, List.all_nil, List.map_cons, List.map_nil, D.shape, Sh.sub, Sh.size, List.getElem?_cons_zero, List.getElem?_cons_succ, Option.bind_some, Option.bind_none, Option.getD_some, Option.getD_none, V.keysIn, V.kill, V.has, decide_eq_true_eq, beq_iff_eq, bne_iff_ne, ne_eq, Bool.not_eq_true', Bool.and_true, Bool.and_self, Bool.true_and, if_true, if_false, reduceIte, Bool.false_eq_true, decide_true, decide_false, beq_self_eq_true, Bool.not_true, Bool.not_false, true_and, and_true, and_self, List.append_assoc, List.nil_append, List.cons_append, Int.toNat_natCast, ck, Int.cast_ofNat_Int, Int.reduceToNat, bne_self_eq_false, Bool.or_false, Bool.false_or, Bool.false_and, Bool.and_false, Bool.or_true, Bool.true_or]
  refine wp_seq ?_
  refine wp_seq ?_
  refine h.piece (b := ([1, 2, 3, 9, 10, 11, 12, 13, 14, 15, 16, 27], [10, 11])) (s' := I7 d p tell ask reply g k 27 (has ask k)) (fn := 71) (lf := loopFuel) env_ok hcall9 (by kernel_rfl) ?e5 (fun a w h => ?_)
  case e5 => simp (decide := true) only [Tryz.f71, rid, kl71_3, dp71_6, ↓sBp, sBq, List.all_cons, List.all_nil, List.map_cons, List.map_nil, D.shape, Sh.sub, Sh.size, List.getElem?_cons_zero, List.getElem?_cons_succ, Option.bind_some, Option.bind_none, Option.getD_some, Option.getD_none, V.keysIn, V.kill, V.has, decide_eq_true_eq, beq_iff_eq, bne_iff_ne, ne_eq, Bool.not_eq_true', Bool.and_true, Bool.and_self, Bool.true_and, if_true, if_false, reduceIte, Bool.false_eq_true, decide_true, decide_false, beq_self_eq_true, Bool.not_true, Bool.not_false, true_and, and_true, and_self, List.append_assoc, List.nil_append, List.cons_append, Int.toNat_natCast, ck, Int.cast_ofNat_Int, Int.reduceToNat, bne_self_eq_false, Bool.or_false, Bool.false_or, Bool.false_and, Bool.and_false, Bool.or_true, Bool.true_or]
  -- asked
  suffices hA : ∀ a w, HR B W 48 g shI (es ++ (if has ask k = true then [itD k 1 (d k) (p k)] else [])) (I6 d p tell ask reply g k) a w → _ by
    cases ha : has ask k with
    | true =>
      rw [ha] at h hA
      refine wp_cond_true (h.slot (i := 27) rfl) ?_
      refine h.put (tab_free _ rfl) rfl rfl rfl (by omega) (by decide) (by decide) rfl rfl fun a w h => ?_
      rw [if_pos rfl] at hA
      refine hA a w (h.forget (b := ([1, 2, 3, 9, 10, 11, 12, 13, 14, 15, 16], [10, 11])) ?_)
      simp (decide := true) only [ha, I6, Tryz.f71, rid, kl71_3, dp71_6, ↓sBp, sBq, List.all_cons, List.all_nil, List.map_cons, List.map_nil, D.shape, Sh.sub, Sh.size, List.getElem?_cons_zero, List.getElem?_cons_succ, Option.bind_some, Option.bind_none, Option.getD_some, Option.getD_none, V.keysIn, V.kill, V.has, decide_eq_true_eq, beq_iff_eq, bne_iff_ne, ne_eq, Bool.not_eq_true', Bool.and_true, Bool.and_self, Bool.true_and, if_true, if_false, reduceIte, Bool.false_eq_true, decide_true, decide_false, beq_self_eq_true, Bool.not_true, Bool.not_false, true_and, and_true, and_self, List.append_assoc, List.nil_append, List.cons_append, Int.toNat_natCast, ck, Int.cast_ofNat_Int, Int.reduceToNat, bne_self_eq_false, Bool.or_false, Bool.false_or, Bool.false_and, Bool.and_false, Bool.or_true, Bool.true_or]
    | false =>
      rw [ha] at h hA
      refine wp_cond_false (h.slot (i := 27) rfl) (wp_skip ?_)
      rw [if_neg Bool.false_ne_true, List.append_nil] at hA
      refine hA a w (h.forget (b := ([1, 2, 3, 9, 10, 11, 12, 13, 14, 15, 16], [10, 11])) ?_)
      simp (decide := true) only [ha, I6, Tryz.f71, rid, kl71_3, dp71_6, ↓sBp, sBq, List.all_cons, List.all_nil, List.map_cons, List.map_nil, D.shape, Sh.sub, Sh.size, List.getElem?_cons_zero, List.getElem?_cons_succ, Option.bind_some, Option.bind_none, Option.getD_some, Option.getD_none, V.keysIn, V.kill, V.has, decide_eq_true_eq, beq_iff_eq, bne_iff_ne, ne_eq, Bool.not_eq_true', Bool.and_true, Bool.and_self, Bool.true_and, if_true, if_false, reduceIte, Bool.false_eq_true, decide_true, decide_false, beq_self_eq_true, Bool.not_true, Bool.not_false, true_and, and_true, and_self, List.append_assoc, List.nil_append, List.cons_append, Int.toNat_natCast, ck, Int.cast_ofNat_Int, Int.reduceToNat, bne_self_eq_false, Bool.or_false, Bool.false_or, Bool.false_and, Bool.and_false, Bool.or_true, Bool.true_or]
  clear h
  intro a w h
  refine wp_seq ?_
  refine wp_seq ?_
  refine h.piece (b := ([1, 2, 3, 9, 10, 11, 12, 13, 14, 15, 16, 30], [10, 11])) (s' := I7 d p tell ask reply g k 30 (has reply k)) (fn := 71) (lf := loopFuel) env_ok hcall9 (by kernel_rfl) ?e6 (fun a w h => ?_)
  case e6 => simp (decide := true) only [Tryz.f71, rid, kl71_3, dp71_6, ↓sBp, sBq, List.all_cons, List.all_nil, List.map_cons, List.map_nil, D.shape, Sh.sub, Sh.size, List.getElem?_cons_zero, List.getElem?_cons_succ, Option.bind_some, Option.bind_none, Option.getD_some, Option.getD_none, V.keysIn, V.kill, V.has, decide_eq_true_eq, beq_iff_eq, bne_iff_ne, ne_eq, Bool.not_eq_true', Bool.and_true, Bool.and_self, Bool.true_and, if_true, if_false, reduceIte, Bool.false_eq_true, decide_true, decide_false, beq_self_eq_true, Bool.not_true, Bool.not_false, true_and, and_true, and_self, List.append_assoc, List.nil_append, List.cons_append, Int.toNat_natCast, ck, Int.cast_ofNat_Int, Int.reduceToNat, bne_self_eq_false, Bool.or_false, Bool.false_or, Bool.false_and, Bool.and_false, Bool.or_true, Bool.true_or]
  suffices hB : ∀ a w, HR B W 48 g shI ((es ++ (if has ask k = true then [itD k 1 (d k) (p k)] else [])) ++ (if has reply k = true then [itD k 2 (d k) (p k)] else [])) (I6 d p tell ask reply g k) a w → _ by
    have hl1 : (es ++ (if has ask k = true then [itD k 1 (d k) (p k)] else [])).length ≤ 1000 := by
      rw [List.length_append]; split <;> simp <;> omega
    cases hr : has reply k with
    | true =>
      rw [hr] at h hB
      refine wp_cond_true (h.slot (i := 30) rfl) ?_
      refine h.put (tab_free _ rfl) rfl rfl rfl hl1 (by decide) (by decide) rfl rfl fun a w h => ?_
      rw [if_pos (rfl : true = true)] at hB
      refine hB a w (h.forget (b := ([1, 2, 3, 9, 10, 11, 12, 13, 14, 15, 16], [10, 11])) ?_)
      simp (decide := true) only [hr, I6, Tryz.f71, rid, kl71_3, dp71_6, ↓sBp, sBq, List.all_cons, List.all_nil, List.map_cons, List.map_nil, D.shape, Sh.sub, Sh.size, List.getElem?_cons_zero, List.getElem?_cons_succ, Option.bind_some, Option.bind_none, Option.getD_some, Option.getD_none, V.keysIn, V.kill, V.has, decide_eq_true_eq, beq_iff_eq, bne_iff_ne, ne_eq, Bool.not_eq_true', Bool.and_true, Bool.and_self, Bool.true_and, if_true, if_false, reduceIte, Bool.false_eq_true, decide_true, decide_false, beq_self_eq_true, Bool.not_true, Bool.not_false, true_and, and_true, and_self, List.append_assoc, List.nil_append, List.cons_append, Int.toNat_natCast, ck, Int.cast_ofNat_Int, Int.reduceToNat, bne_self_eq_false, Bool.or_false, Bool.false_or, Bool.false_and, Bool.and_false, Bool.or_true, Bool.true_or]
    | false =>
      rw [hr] at h hB
      refine wp_cond_false (h.slot (i := 30) rfl) (wp_skip ?_)
      rw [if_neg Bool.false_ne_true, List.append_nil] at hB
      refine hB a w (h.forget (b := ([1, 2, 3, 9, 10, 11, 12, 13, 14, 15, 16], [10, 11])) ?_)
      simp (decide := true) only [hr, I6, Tryz.f71, rid, kl71_3, dp71_6, ↓sBp, sBq, List.all_cons, List.all_nil, List.map_cons, List.map_nil, D.shape, Sh.sub, Sh.size, List.getElem?_cons_zero, List.getElem?_cons_succ, Option.bind_some, Option.bind_none, Option.getD_some, Option.getD_none, V.keysIn, V.kill, V.has, decide_eq_true_eq, beq_iff_eq, bne_iff_ne, ne_eq, Bool.not_eq_true', Bool.and_true, Bool.and_self, Bool.true_and, if_true, if_false, reduceIte, Bool.false_eq_true, decide_true, decide_false, beq_self_eq_true, Bool.not_true, Bool.not_false, true_and, and_true, and_self, List.append_assoc, List.nil_append, List.cons_append, Int.toNat_natCast, ck, Int.cast_ofNat_Int, Int.reduceToNat, bne_self_eq_false, Bool.or_false, Bool.false_or, Bool.false_and, Bool.and_false, Bool.or_true, Bool.true_or]
  clear h
  intro a w h
  refine wp_seq ?_
  refine h.piece (b := ([1, 2, 3, 9, 10, 11, 12, 13, 14, 15, 16, 43], [10, 11])) (s' := I7 d p tell ask reply g k 43 (has tell k && (!has ask k && !has reply k))) (fn := 71) (lf := loopFuel) env_ok hcall9 (by kernel_rfl) ?e7 (fun a w h => ?_)
  case e7 =>
    rcases Bool.eq_false_or_eq_true (has tell k) with ht | ht
    · rcases Bool.eq_false_or_eq_true (has ask k) with ha | ha
      · simp (decide := true) only [has_ev0, ht, ha, I7, Tryz.f71, rid, kl71_3, dp71_6, ↓sBp, sBq, List.all_cons, List.all_nil, List.map_cons, List.map_nil, D.shape, Sh.sub, Sh.size, List.getElem?_cons_zero, List.getElem?_cons_succ, Option.bind_some, Option.bind_none, Option.getD_some, Option.getD_none, V.keysIn, V.kill, V.has, decide_eq_true_eq, beq_iff_eq, bne_iff_ne, ne_eq, Bool.not_eq_true', Bool.and_true, Bool.and_self, Bool.true_and, if_true, if_false, reduceIte, Bool.false_eq_true, decide_true, decide_false, beq_self_eq_true, Bool.not_true, Bool.not_false, true_and, and_true, and_self, List.append_assoc, List.nil_append, List.cons_append, Int.toNat_natCast, ck, Int.cast_ofNat_Int, Int.reduceToNat, bne_self_eq_false, Bool.or_false, Bool.false_or, Bool.false_and, Bool.and_false, Bool.or_true, Bool.true_or]
      · rcases Bool.eq_false_or_eq_true (has reply k) with hr | hr
        · simp (decide := true) only [has_ev0, ht, ha, hr, I7, Tryz.f71, rid, kl71_3, dp71_6, ↓sBp, sBq, List.all_cons, List.all_nil, List.map_cons, List.map_nil, D.shape, Sh.sub, Sh.size, List.getElem?_cons_zero, List.getElem?_cons_succ, Option.bind_some, Option.bind_none, Option.getD_some, Option.getD_none, V.keysIn, V.kill, V.has, decide_eq_true_eq, beq_iff_eq, bne_iff_ne, ne_eq, Bool.not_eq_true', Bool.and_true, Bool.and_self, Bool.true_and, if_true, if_false, reduceIte, Bool.false_eq_true, decide_true, decide_false, beq_self_eq_true, Bool.not_true, Bool.not_false, true_and, and_true, and_self, List.append_assoc, List.nil_append, List.cons_append, Int.toNat_natCast, ck, Int.cast_ofNat_Int, Int.reduceToNat, bne_self_eq_false, Bool.or_false, Bool.false_or, Bool.false_and, Bool.and_false, Bool.or_true, Bool.true_or]
        · simp (decide := true) only [has_ev0, ht, ha, hr, I7, Tryz.f71, rid, kl71_3, dp71_6, ↓sBp, sBq, List.all_cons, List.all_nil, List.map_cons, List.map_nil, D.shape, Sh.sub, Sh.size, List.getElem?_cons_zero, List.getElem?_cons_succ, Option.bind_some, Option.bind_none, Option.getD_some, Option.getD_none, V.keysIn, V.kill, V.has, decide_eq_true_eq, beq_iff_eq, bne_iff_ne, ne_eq, Bool.not_eq_true', Bool.and_true, Bool.and_self, Bool.true_and, if_true, if_false, reduceIte, Bool.false_eq_true, decide_true, decide_false, beq_self_eq_true, Bool.not_true, Bool.not_false, true_and, and_true, and_self, List.append_assoc, List.nil_append, List.cons_append, Int.toNat_natCast, ck, Int.cast_ofNat_Int, Int.reduceToNat, bne_self_eq_false, Bool.or_false, Bool.false_or, Bool.false_and, Bool.and_false, Bool.or_true, Bool.true_or]
    · simp (decide := true) only [has_ev0, ht, I7, Tryz.f71, rid, kl71_3, dp71_6, ↓sBp, sBq, List.all_cons, List.all_nil, List.map_cons, List.map_nil, D.shape, Sh.sub, Sh.size, List.getElem?_cons_zero, List.getElem?_cons_succ, Option.bind_some, Option.bind_none, Option.getD_some, Option.getD_none, V.keysIn, V.kill, V.has, decide_eq_true_eq, beq_iff_eq, bne_iff_ne, ne_eq, Bool.not_eq_true', Bool.and_true, Bool.and_self, Bool.true_and, if_true, if_false, reduceIte, Bool.false_eq_true, decide_true, decide_false, beq_self_eq_true, Bool.not_true, Bool.not_false, true_and, and_true, and_self, List.append_assoc, List.nil_append, List.cons_append, Int.toNat_natCast, ck, Int.cast_ofNat_Int, Int.reduceToNat, bne_self_eq_false, Bool.or_false, Bool.false_or, Bool.false_and, Bool.and_false, Bool.or_true, Bool.true_or]
  suffices hC : ∀ a w, HR B W 48 g shI (es ++ rndI d p tell ask reply k) (I6 d p tell ask reply g k) a w → _ by
    have hl2 : ((es ++ (if has ask k = true then [itD k 1 (d k) (p k)] else [])) ++ (if has reply k = true then [itD k 2 (d k) (p k)] else [])).length ≤ 1000 := by
      rw [List.length_append, List.length_append]; split <;> split <;> simp <;> omega
    have er : es ++ rndI d p tell ask reply k = ((es ++ (if has ask k = true then [itD k 1 (d k) (p k)] else [])) ++ (if has reply k = true then [itD k 2 (d k) (p k)] else [])) ++ (if (has tell k && (!has ask k && !has reply k)) = true then [itD k 0 (d k) (p k)] else []) := by
      unfold rndI; simp only [List.append_assoc]
    rw [er] at hC
    cases hb : (has tell k && (!has ask k && !has reply k)) with
    | true =>
      rw [hb] at h hC
      refine wp_cond_true (h.slot (i := 43) rfl) ?_
      refine h.put (tab_free _ rfl) rfl rfl rfl hl2 (by decide) (by decide) rfl rfl fun a w h => ?_
      rw [if_pos (rfl : true = true)] at hC
      refine hC a w (h.forget (b := ([1, 2, 3, 9, 10, 11, 12, 13, 14, 15, 16], [10, 11])) ?_)
      simp (decide := true) only [I6, Tryz.f71, rid, kl71_3, dp71_6, ↓sBp, sBq, List.all_cons, List.all_nil, List.map_cons, List.map_nil, D.shape, Sh.sub, Sh.size, List.getElem?_cons_zero, List.getElem?_cons_succ, Option.bind_some, Option.bind_none, Option.getD_some, Option.getD_none, V.keysIn, V.kill, V.has, decide_eq_true_eq, beq_iff_eq, bne_iff_ne, ne_eq, Bool.not_eq_true', Bool.and_true, Bool.and_self, Bool.true_and, if_true, if_false, reduceIte, Bool.false_eq_true, decide_true, decide_false, beq_self_eq_true, Bool.not_true, Bool.not_false, true_and, and_true, and_self, List.append_assoc, List.nil_append, List.cons_append, Int.toNat_natCast, ck, Int.cast_ofNat_Int, Int.reduceToNat, bne_self_eq_false, Bool.or_false, Bool.false_or, Bool.false_and, Bool.and_false, Bool.or_true, Bool.true_or]
    | false =>
      rw [hb] at h hC
      refine wp_cond_false (h.slot (i := 43) rfl) (wp_skip ?_)
      rw [if_neg Bool.false_ne_true, List.append_nil] at hC
      refine hC a w (h.forget (b := ([1, 2, 3, 9, 10, 11, 12, 13, 14, 15, 16], [10, 11])) ?_)
      simp (decide := true) only [I6, Tryz.f71, rid, kl71_3, dp71_6, ↓sBp, sBq, List.all_cons, List.all_nil, List.map_cons, List.map_nil, D.shape, Sh.sub, Sh.size, List.getElem?_cons_zero, List.getElem?_cons_succ, Option.bind_some, Option.bind_none, Option.getD_some, Option.getD_none, V.keysIn, V.kill, V.has, decide_eq_true_eq, beq_iff_eq, bne_iff_ne, ne_eq, Bool.not_eq_true', Bool.and_true, Bool.and_self, Bool.true_and, if_true, if_false, reduceIte, Bool.false_eq_true, decide_true, decide_false, beq_self_eq_true, Bool.not_true, Bool.not_false, true_and, and_true, and_self, List.append_assoc, List.nil_append, List.cons_append, Int.toNat_natCast, ck, Int.cast_ofNat_Int, Int.reduceToNat, bne_self_eq_false, Bool.or_false, Bool.false_or, Bool.false_and, Bool.and_false, Bool.or_true, Bool.true_or]
  clear h
  intro a w h
  refine h.piece (b := ([1, 2, 3, 9, 15, 16], [])) (s' := I0 d p tell ask reply g (k + 1)) (fn := 71) (lf := loopFuel) env_ok hcall9 (by kernel_rfl) ?e8 (fun a w h => ?_)
  case e8 => simp (decide := true) only [hkw, Tryz.f71, rid, kl71_3, dp71_6, ↓sBp, sBq, List.all_cons, List.all_nil, List.map_cons, List.map_nil, D.shape, Sh.sub, Sh.size, List.getElem?_cons_zero, List.getElem?_cons_succ, Option.bind_some, Option.bind_none, Option.getD_some, Option.getD_none, V.keysIn, V.kill, V.has, decide_eq_true_eq, beq_iff_eq, bne_iff_ne, ne_eq, Bool.not_eq_true', Bool.and_true, Bool.and_self, Bool.true_and, if_true, if_false, reduceIte, Bool.false_eq_true, decide_true, decide_false, beq_self_eq_true, Bool.not_true, Bool.not_false, true_and, and_true, and_self, List.append_assoc, List.nil_append, List.cons_append, Int.toNat_natCast, ck, Int.cast_ofNat_Int, Int.reduceToNat, bne_self_eq_false, Bool.or_false, Bool.false_or, Bool.false_and, Bool.and_false, Bool.or_true, Bool.true_or]
  exact hQ a w h
theorem rounds_items {B : Nat} {W : World} {Q : Exit → Act → World → Prop} (hQ : ∀ a w, HR B W 48 g shI (itemsTo d p tell ask reply 16) (I3 d p tell ask reply g 16 false) a w → Q (.exit 0) a w) :
    ∀ (m k : Nat), k + m = 16 → ∀ a w, HR B W 48 g shI (itemsTo d p tell ask reply k) (I0 d p tell ask reply g k) a w → Code.rounds Tryz.prog roundC Q (m + 1) a w
  | 0, k, hk, a, w, h => by
    obtain rfl : k = 16 := by omega
    rw [rounds_succ]
    refine wp_seq ?_
    refine h.piece (b := ([1, 2, 3, 9, 15, 16, 17], [])) (s' := I3 d p tell ask reply g 16 false) (fn := 71) (lf := loopFuel) env_ok hcall9 (by kernel_rfl) ?e1 (fun a w h => ?_)
    case e1 =>
      simp (decide := true) only [Tryz.f71, rid, kl71_3, dp71_6, ↓sBp, sBq, List.all_cons, List.all_nil, List.map_cons, List.map_nil, D.shape, Sh.sub, Sh.size, List.getElem?_cons_zero, List.getElem?_cons_succ, Option.bind_some, Option.bind_none, Option.getD_some, Option.getD_none, V.keysIn, V.kill, V.has, decide_eq_true_eq, beq_iff_eq, bne_iff_ne, ne_eq, Bool.not_eq_true', Bool.and_true, Bool.and_self, Bool.true_and, if_true, if_false, reduceIte, Bool.false_eq_true, decide_true, decide_false, beq_self_eq_true, Bool.not_true, Bool.not_false, true_and, and_true, and_self, List.append_assoc, List.nil_append, List.cons_append, Int.toNat_natCast, ck, Int.cast_ofNat_Int, Int.reduceToNat, bne_self_eq_false, Bool.or_false, Bool.false_or, Bool.false_and, Bool.and_false, Bool.or_true, Bool.true_or]
      rfl
    refine wp_seq ?_
    exact wp_cond_false (h.slot (i := 17) rfl) (wp_exit (hQ a w h))
  | m + 1, k, hk, a, w, h => by
    rw [rounds_succ]
    have hl := itemsTo_len d p tell ask reply k
    exact round_items (by omega) (by omega) h fun a w h => rounds_items hQ m (k + 1) (by omega) a w h
end
theorem itemsFn : ∃ fn, Tryz.prog.funcs[71]? = some fn ∧ fn.body.isNone = false ∧ (fn.name == "runtime.NumGoroutine") = false := ⟨Tryz.f71, Tryz.func71, by kernel_rfl, by kernel_rfl⟩
/-- What Items answers, of any tree and sets. -/
theorem items_ok (d p : Nat → Int) (tell ask reply : Int) : CallOK Tryz.prog 71 [.d (treeD d p), .d (.s (.int .i64 (tell))), .d (.s (.int .i64 (ask))), .d (.s (.int .i64 (reply)))] (.sl .ro shI (itemsTo d p tell ask reply 16)) := by
  refine ⟨itemsFn, fun W vs hra => ?_⟩
  have hl := (RA_at hra).1
  refine calls_of_wp Tryz.func71 rfl ?_
  have r0 := enter_rel hra 48
  have hn0 : ({ tmps := vs.toArray ++ Array.replicate (48 - vs.toArray.size) undef, defers := [] } : Act).tmps.size = 48 := by simp at hl ⊢; omega
  refine wp_seq ?_
  refine pieceR (b := ([1, 2, 3, 4], [4])) (s' := ⟨tab .junk [(1, .d (.s (.int .i64 (tell)))), (2, .d (.s (.int .i64 (ask)))), (3, .d (.s (.int .i64 (reply)))), (4, .ptr 4 (shT) [] (shT))], tab none [(4, some (.box (treeD d p)))]⟩) (fn := 71) (lf := loopFuel) env_ok hcall9 (by kernel_rfl) ?e1 r0 hn0 (fun a w φ r hn => ?_)
  case e1 => simp (decide := true) only [Tryz.f71, rid, kl71_3, dp71_6, ↓sBp, sBq, List.all_cons, List.all_nil, List.map_cons, List.map_nil, D.shape, Sh.sub, Sh.size, List.getElem?_cons_zero, List.getElem?_cons_succ, Option.bind_some, Option.bind_none, Option.getD_some, Option.getD_none, V.keysIn, V.kill, V.has, decide_eq_true_eq, beq_iff_eq, bne_iff_ne, ne_eq, Bool.not_eq_true', Bool.and_true, Bool.and_self, Bool.true_and, if_true, if_false, reduceIte, Bool.false_eq_true, decide_true, decide_false, beq_self_eq_true, Bool.not_true, Bool.not_false, true_and, and_true, and_self, List.append_assoc, List.nil_append, List.cons_append, Int.toNat_natCast, ck, Int.cast_ofNat_Int, Int.reduceToNat, bne_self_eq_false, Bool.or_false, Bool.false_or, Bool.false_and, Bool.and_false, Bool.or_true, Bool.true_or]
  refine wp_seq ?_
  refine pieceR (b := ([1, 2, 3, 4, 9], [4, 9])) (s' := ⟨tab .junk [(1, .d (.s (.int .i64 (tell)))), (2, .d (.s (.int .i64 (ask)))), (3, .d (.s (.int .i64 (reply)))), (4, .ptr 4 (shT) [] (shT)), (9, .ptr 9 (.cell .other) [] (.cell .other))], tab none [(4, some (.box (treeD d p))), (9, some (.box (.s (.slice none 0 0))))]⟩) (fn := 71) (lf := loopFuel) env_ok hcall9 (by kernel_rfl) ?e2 r hn (fun a w φ r hn => ?_)
  case e2 => simp (decide := true) only [Tryz.f71, rid, kl71_3, dp71_6, ↓sBp, sBq, List.all_cons, List.all_nil, List.map_cons, List.map_nil, D.shape, Sh.sub, Sh.size, List.getElem?_cons_zero, List.getElem?_cons_succ, Option.bind_some, Option.bind_none, Option.getD_some, Option.getD_none, V.keysIn, V.kill, V.has, decide_eq_true_eq, beq_iff_eq, bne_iff_ne, ne_eq, Bool.not_eq_true', Bool.and_true, Bool.and_self, Bool.true_and, if_true, if_false, reduceIte, Bool.false_eq_true, decide_true, decide_false, beq_self_eq_true, Bool.not_true, Bool.not_false, true_and, and_true, and_self, List.append_assoc, List.nil_append, List.cons_append, Int.toNat_natCast, ck, Int.cast_ofNat_Int, Int.reduceToNat, bne_self_eq_false, Bool.or_false, Bool.false_or, Bool.false_and, Bool.and_false, Bool.or_true, Bool.true_or]
  refine wp_seq ?_
  refine wp_seq ?_
  refine pieceR (b := ([1, 2, 3, 9, 15, 16], [9])) (s' := ⟨tab .junk [(1, .d (.s (.int .i64 (tell)))), (2, .d (.s (.int .i64 (ask)))), (3, .d (.s (.int .i64 (reply)))), (9, .ptr 9 (.cell .other) [] (.cell .other)), (15, .d (treeD d p)), (16, .d (.s (.int .i64 (0))))], tab none [(9, some (.box (.s (.slice none 0 0))))]⟩) (fn := 71) (lf := loopFuel) env_ok hcall9 (by kernel_rfl) ?e3 r hn (fun a w φ r hn => ?_)
  case e3 => simp (decide := true) only [Tryz.f71, rid, kl71_3, dp71_6, ↓sBp, sBq, List.all_cons, List.all_nil, List.map_cons, List.map_nil, D.shape, Sh.sub, Sh.size, List.getElem?_cons_zero, List.getElem?_cons_succ, Option.bind_some, Option.bind_none, Option.getD_some, Option.getD_none, V.keysIn, V.kill, V.has, decide_eq_true_eq, beq_iff_eq, bne_iff_ne, ne_eq, Bool.not_eq_true', Bool.and_true, Bool.and_self, Bool.true_and, if_true, if_false, reduceIte, Bool.false_eq_true, decide_true, decide_false, beq_self_eq_true, Bool.not_true, Bool.not_false, true_and, and_true, and_self, List.append_assoc, List.nil_append, List.cons_append, Int.toNat_natCast, ck, Int.cast_ofNat_Int, Int.reduceToNat, bne_self_eq_false, Bool.or_false, Bool.false_or, Bool.false_and, Bool.and_false, Bool.or_true, Bool.true_or]
  obtain ⟨x, g, m9, _, _, f9, e9⟩ := r.tm 9
  obtain ⟨_, g', T, f9', h9⟩ := r.box 9 _ rfl
  rw [f9] at f9'
  cases f9'
  have e9 : a.tmps.getD 9 undef = ptrV g := e9
  have hlo := r.lo 9 g f9
  have hB := r.base
  rw [tl_new hlo.1, List.append_nil] at h9
  have start : HR W.heap.size W 48 g shI (itemsTo d p tell ask reply 0) (I0 d p tell ask reply g 0) a w := by
    refine ⟨⟨fun _ => none, .slice none 0 0, ⟨r.dfr, fun i => ?_, Below.refl _ _, hB, (fun k x h => by cases h), (fun k k' g h => by cases h), (fun k g h => by cases h), Fr.refl _ _, fun _ _ _ _ h _ => by cases h⟩, ⟨hlo.1, ⟨T, h9⟩, ⟨(fun x hx => by cases hx), 0, World.ownsRow_nil w _ 0 _⟩, fun e => by cases e⟩, (fun k e => by cases e), fun k g' e => by cases e⟩, hn, r.bel⟩
    by_cases hi : i = 9
    · subst hi; exact ⟨rfl, e9⟩
    · have ti := r.tm i
      simp only [tab] at ti ⊢
      by_cases h1 : i = 1
      · subst h1; exact ti
      by_cases h2 : i = 2
      · subst h2; exact ti
      by_cases h3 : i = 3
      · subst h3; exact ti
      by_cases h15 : i = 15
      · subst h15; exact ti
      by_cases h16 : i = 16
      · subst h16; exact ti
      simp only [h1, h2, h3, hi, h15, h16, if_false]
      trivial
  refine wp_block (wp_loop_rounds 17 (rounds_items (d := d) (p := p) (tell := tell) (ask := ask) (reply := reply) (g := g) (B := W.heap.size) (W := W) (fun a w h => ?_) 16 0 rfl a w start))
  -- behind the loop: the variable is loaded
  obtain ⟨⟨φ', u, r', hh, c1, c2⟩, hn', hb'⟩ := h
  have t9 := r'.tm 9
  obtain ⟨_, t9⟩ := t9
  obtain ⟨T', hT'⟩ := hh.cell
  obtain ⟨hg, e0, ho⟩ := hh.row
  have hu1 : u.oneCell' = true ∧ ck u = .other := by
    rcases ho.2 with ⟨rfl, _⟩ | ⟨g1, cap, cur, rfl, _⟩ <;> exact ⟨rfl, rfl⟩
  have tl : Lies Tryz.prog 47 (.cell .other) := (env_ok.ty 47 _ rfl).lies
  show (Code.seq _ _).wp _ _ a w
  refine wp_seq (wp_region ?_)
  show wpOps _ _ _ [0, 1] a w
  refine wpOps_cons rfl rfl ?_
  refine Yields.value (w' := w) (u := u) (R := fun x y => x = u ∧ y = w) ?_ ⟨rfl, rfl⟩ _ _ (fun x y hxy => ?_)
  · have e1 : a.eval (.tmp 9) = ptrV g := t9
    have e2 := run_load (P := Tryz.prog) (w := w) tl (x := .s u) hu1.1 (show (D.s u).shape = .cell .other by simp [D.shape, hu1.2]) (g := g) (o := 0) (cells_at hT' fun j v hj => by simpa [D.flat] using hj)
    show ((do let v ← Instr.loadAt 47 (a.eval (.tmp 9)); pure (.value v) : Sem Next)).run Tryz.prog w = _
    rw [e1]
    simp only [Instr.loadAt, Instr.sureAddr, Sem.run_bind, Sem.run_pure, Result.andThen_ok, e2]
    rfl
  obtain ⟨rfl, rfl⟩ := hxy
  have z47 : ∀ z, z < 48 → z < a.tmps.size := fun z hz => by omega
  refine wpOps_cons rfl rfl ?_
  refine Yields.value (w' := y) (u := x) (R := fun x' y' => x' = x ∧ y' = y) ?_ ⟨rfl, rfl⟩ _ _ (fun x' y' hxy => ?_)
  · have e1 : (a.put (some 47) x).eval (.tmp 47) = x := by
      show (a.put (some 47) x).tmps.getD 47 undef = x
      rw [put_get a 47 x (z47 47 (by omega)), if_pos rfl]
    show ((pure (.value ((a.put (some 47) x).eval (.tmp 47))) : Sem Next)).run Tryz.prog y = _
    rw [e1]; rfl
  obtain ⟨rfl, rfl⟩ := hxy
  refine wp_ret ?_
  refine ⟨?_, x', ?_, x', rfl, hb', hh.row⟩
  · rw [put_dfr, put_dfr]; exact r'.dfr
  · have e8 : (((a.put (some 47) x').put (some 8) x').tmps.getD 8 undef) = x' := by
      rw [put_get _ 8 x' (by rw [put_size]; exact z47 8 (by omega)), if_pos rfl]
    show (results Tryz.f71 ((a.put (some 47) x').put (some 8) x').tmps).run Tryz.prog y' = .ok x' y'
    unfold results
    rw [show Tryz.f71.results = #[.tmp 8] from rfl]
    simp only [List.mapM_toArray, Array.mapM_eq_mapM_toList]
    simp only [List.mapM_cons, List.mapM_nil, Sem.run_bind, Sem.run_pure, Result.andThen_ok, Sem.run_map]
    simpa using e8
end Go.Proofs.YtjceimcepogkaaaGreatDoor.Ev
