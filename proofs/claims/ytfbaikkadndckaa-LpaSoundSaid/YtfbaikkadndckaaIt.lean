/- merge.Items: what is told, asked and replied: a closure that writes what it captured: what the closure does. -/
import Derived.Test.YtfbaikkadndckaaTr
import Derived.Test.YtfbaikkadndckaaEvH
import Derived.Test.YtfbaikkadndckaaFacts
namespace Go.Proofs.Ytfbaikkadndckaa.Ev
open Go
attribute [local congr] ob_congr sq_congr cd_congr ite_congr1 iter_congr it1_congr jumps_congr
set_option maxRecDepth 100000
set_option linter.unusedSimpArgs false
set_option linter.unusedVariables false
open Go.RowKit
noncomputable def putOps : Array Oper := match Try.f101.body with
  | some (.region _ ops _) => ops
  | _ => #[]
theorem putBody : Try.f101.body = some (.region 0 putOps false) := by rfl
theorem putDst : ∀ (j : Nat) (o : Oper) (d : Nat), putOps[j]? = some o → o.dst = some d → d < 15 := by
  have h : okCode Try.prog (env.dp 101) 15 (.region 0 putOps false) = true := by kernel_rfl
  exact (okRegion h).1
abbrev ptrV (g : Nat) : Value := .pointer (some ⟨g, 0, none⟩)
theorem RE_box {w : World} {g : Nat} {x : D} {T : TypeId} (hx : x.WF) (h : w.heap[g]? = some (.cells x.flat.toArray T (0, 0))) : RE w 0 w.heap.size x.shape x (ptrV g) :=
  ⟨hx, rfl, g, 0, _, T, _, Nat.zero_le _, lt_of_heap h, rfl, h, fun j v hj => by simpa using hj⟩
theorem put_calls {B : Nat} {w : World} {g gj ge : Nat} {es : List D} {u : Value} {k j d p : Int} {Tj Te : TypeId} (hh : Hid B w g shI es u)
    (hj : w.heap[gj]? = some (.cells (dI j).flat.toArray Tj (0, 0))) (he : w.heap[ge]? = some (.cells (entD d p).flat.toArray Te (0, 0))) (hl : es.length ≤ 1000) (hB : B ≤ w.heap.size) :
    Calls Try.prog 101 #[.int .i64 k, ptrV g, ptrV gj, ptrV ge] w fun e w' => e = .returned (.tuple #[]) ∧ ∃ u', Hid B w' g shI (es ++ [itD j k d p]) u' ∧ Below B w w' ∧
      (∀ x, x < w.heap.size → x ≠ g → u.ownBlock ≠ some x → w'.heap[x]? = w.heap[x]?) ∧ (∀ x, u'.ownBlock = some x → u.ownBlock = some x ∨ w.heap.size ≤ x) ∧ w.heap.size ≤ w'.heap.size := by
  obtain ⟨T, hT⟩ := hh.cell
  have hlt := hh.lt
  obtain ⟨hg, e0, ho⟩ := hh.row
  have hu1 : u.oneCell' = true ∧ ck u = .other := by
    rcases ho.2 with ⟨rfl, _⟩ | ⟨g1, cap, cur, rfl, _⟩ <;> exact ⟨rfl, rfl⟩
  refine calls_of_wp Try.func101 putBody ?_
  refine wp_region ?_
  rw [show List.range putOps.size = 0 :: ([1, 2, 3, 4, 5, 6, 7, 8] ++ [9, 10]) from rfl]
  have r0 := enter_rel (w := w) (l := [.d (.s (.int .i64 k)), .d (.s (ptrV g)), .ep .ro cI (dI j), .ep .ro shE (entD d p)]) (us := [.int .i64 k, ptrV g, ptrV gj, ptrV ge])
    ⟨⟨rfl, rfl⟩, ⟨rfl, rfl⟩, RE_box (x := dI j) rfl hj, RE_box (x := entD d p) ⟨rfl, rfl, trivial⟩ he, trivial⟩ 15
  have tl : Lies Try.prog 64 (.cell .other) := (env_ok.ty 64 _ rfl).lies
  refine wpOps_cons (o := putOps.getD 0 default) rfl rfl ?_
  have q0 : ∀ a : Act, a.tmps.getD 1 undef = ptrV g → (execOp a.eval (putOps.getD 0 default)).run Try.prog w = .ok (.value u) w := fun a ha => by
    have e1 : a.eval (.tmp 1) = ptrV g := ha
    have e2 := run_load (P := Try.prog) (w := w) tl (x := .s u) hu1.1 (show (D.s u).shape = .cell .other by simp [D.shape, hu1.2]) (g := g) (o := 0) (cells_at hT fun j v hj => by simpa [D.flat] using hj)
    show ((do let v ← Instr.loadAt 64 (a.eval (.tmp 1)); pure (.value v) : Sem Next)).run Try.prog w = _
    rw [e1]
    simp only [Instr.loadAt, Instr.sureAddr, Sem.run_bind, Sem.run_pure, Result.andThen_ok, e2]
    rfl
  unfold Oper.wp
  rw [q0 _ rfl, Oper.upon_value]
  obtain ⟨φ1, r1⟩ := r0.app (some 5) (v := .d (.s u)) (b := none) (u := u) (w' := w) (φ' := fun _ => none) (stay ⟨hu1.1, rfl⟩) (fun k hk => by cases hk; simp)
  obtain ⟨sn, hev, h1, h5, h13⟩ : ∃ sn, evIdx env (fun _ _ => none) putOps [1, 2, 3, 4, 5, 6, 7, 8] ((enter [.d (.s (.int .i64 k)), .d (.s (ptrV g)), .ep .ro cI (dI j), .ep .ro shE (entD d p)]).app (some 5) (.d (.s u)) none) = some sn ∧
      sn.t 1 = .d (.s (ptrV g)) ∧ sn.t 5 = .d (.s u) ∧ sn.t 13 = .sl (.tg 13) shI [itD j k d p] := ⟨_, rfl, rfl, rfl, rfl⟩
  refine evOps_first (E := env) (call := fun _ _ => none) (n := 15) (sn := sn) env_ok (fun g l r h => by cases h) putDst (fun a w9 φ9 r9 hn => ?_) [1, 2, 3, 4, 5, 6, 7, 8] _ _ w φ1 r1 (by rw [put_size]; simp) hev
  have b9 := r9.bel
  have t1 := r9.tm 1
  have t5 := r9.tm 5
  have t13 := r9.tm 13
  rw [h1] at t1
  rw [h5] at t5
  rw [h13] at t13
  obtain ⟨_, e1⟩ := t1
  obtain ⟨_, e5⟩ := t5
  have ho9 : w9.ownsRow B e0 shI.size u es.length (flats es) := ownsRow_same ho fun x hx => b9.block x (ownsRow_lt ho hx).2
  obtain ⟨v', w10, e10, q1, q2, q3, q4, q5⟩ := append_run (ty := 64) env_ok (t := 64) (e := 68) (tt := _) (te := _) rfl rfl rfl (by decide) hg t13 (by show (es.length + 1) * _ ≤ _; exact Nat.le_trans (Nat.mul_le_mul_right _ (Nat.succ_le_succ hl)) (by decide)) (by show es.length + 1 ≤ _; simp only [maxLen]; omega) ho9 (Nat.le_trans hB b9.size)
  refine wpOps_cons (o := putOps.getD 9 default) rfl rfl ?_
  have q9 : (execOp a.eval (putOps.getD 9 default)).run Try.prog w9 = .ok (.value v') w10 := by
    have e5' : a.eval (.tmp 5) = u := e5
    show (do let d ← resolve a.eval ⟨.builtin .append, #[.tmp 5, .tmp 13], #[64, 64]⟩ 64; invoke d.target d.args : Sem Next).run Try.prog w9 = _
    simp only [resolve, invoke, builtin, Sem.run_bind, Sem.run_pure, Result.andThen_ok]
    rw [show (#[Operand.tmp 5, Operand.tmp 13].map a.eval) = #[a.eval (.tmp 5), a.eval (.tmp 13)] from by simp, e5']
    rw [show a.eval (.tmp 13) = a.tmps.getD 13 undef from rfl, q1]
    rfl
  unfold Oper.wp
  rw [q9, Oper.upon_value]
  refine wpOps_cons (o := putOps.getD 10 default) rfl rfl ?_
  have hT9 : w9.heap[g]? = some (.cells #[u] T (0, 0)) := (b9.block g hlt).trans hT
  have hT10 : w10.heap[g]? = some (.cells #[u] T (0, 0)) := (q3.block g (lt_of_heap hT9) (fun e => hh.ne e.symm)).trans hT9
  have hv1 : v'.oneCell' = true ∧ ck v' = .other := by
    rcases q2.2 with ⟨rfl, _⟩ | ⟨g1, cap, cur, rfl, _⟩ <;> exact ⟨rfl, rfl⟩
  have hst := run_store_at (P := Try.prog) (w := w10) tl (x := .s u) (v := .s v') (p := []) hu1.1 (show (D.s u).shape.sub [] = some (.cell .other) by simp [D.shape, hu1.2, Sh.sub]) hv1.1 (by simp [D.shape, hv1.2]) (g := g) (T := T) hT10
  have q10 : ∀ b : Act, b.tmps.getD 1 undef = ptrV g → b.tmps.getD 14 undef = v' → (execOp b.eval (putOps.getD 10 default)).run Try.prog w10 = .ok .skip (w10.setRow g #[v']) := fun b h1 h14 => by
    have e1 : b.eval (.tmp 1) = ptrV g := h1
    have e14 : b.eval (.tmp 14) = v' := h14
    show ((do Instr.storeAt 64 (b.eval (.tmp 1)) (b.eval (.tmp 14)); pure .skip : Sem Next)).run Try.prog w10 = _
    rw [e1, e14]
    simp only [Instr.storeAt, Instr.sureAddr, Sem.run_bind, Sem.run_pure, Result.andThen_ok]
    rw [show (D.s u).shape.off [] = 0 from rfl] at hst
    rw [show (D.s v').val = v' from rfl] at hst
    rw [hst]
    rfl
  unfold Oper.wp
  have hs14 : 14 < a.tmps.size := by omega
  rw [q10 _ (by rw [show (putOps.getD 9 default).dst = some 14 from rfl, put_get a 14 v' hs14]; exact e1) (by rw [show (putOps.getD 9 default).dst = some 14 from rfl, put_get a 14 v' hs14]; rfl), Oper.upon_skip]
  have hres : ∀ ts : Array Value, (results Try.f101 ts).run Try.prog (w10.setRow g #[v']) = .ok (.tuple #[]) (w10.setRow g #[v']) := fun ts => by
    unfold results
    rw [show Try.f101.results = #[] from rfl]
    simp
  refine ⟨?_, .tuple #[], hres _, rfl, v', ?_, ?_, ?_, ?_, ?_⟩
  · rw [put_dfr, put_dfr]; exact r9.dfr
  · refine ⟨hh.lo, ⟨T, setRow_heap w10 g _ _ T (0, 0) hT10⟩, ⟨q5, e10, ownsRow_same q2 fun x hx => setRow_other w10 g x _ fun e => ?_⟩, fun e => ?_⟩
    · subst e
      rcases q4 x hx with h | h
      · exact hh.ne h
      · have := lt_of_heap hT9; omega
    · rcases q4 g e with h | h
      · exact hh.ne h
      · have := lt_of_heap hT9; omega
  · refine (b9.mono hB).trans ((grown_below q3 (fun x hx => (ownsRow_lt ho hx).1) (Nat.le_trans hB b9.size)).trans (setRow_below hh.lo _))
  · intro x hx hxg hxu
    rw [setRow_other w10 g x _ hxg, q3.block x (Nat.lt_of_lt_of_le hx b9.size) (fun e => hxu e.symm), b9.block x hx]
  · intro x hx
    rcases q4 x hx with h | h
    · exact .inl h
    · exact .inr (Nat.le_trans b9.size h)
  · have := q3.size; have := b9.size; simp; omega
theorem putFn : ∃ fn, Try.prog.funcs[101]? = some fn ∧ fn.body.isNone = false ∧ (fn.name == "runtime.NumGoroutine") = false := ⟨Try.f101, Try.func101, by kernel_rfl, by kernel_rfl⟩
abbrev putV (g : Nat) : V := .clos 101 (.tcons (.d (.s (ptrV g))) (.tcons (.ptr 10 cI [] cI) (.tcons (.ptr 11 shE [] shE) .tnil)))
/-- The closure called: the variable that it captured has one more. -/
theorem HR.put {B : Nat} {W : World} {n g : Nat} {es : List D} {s : St} {a : Act} {w : World} (h : HR B W n g shI es s a w) (hf : ∀ i, (s.t i).free = true) {j k d p : Int} (h12 : s.t 12 = putV g) (h10 : s.m 10 = some (.box (dI j))) (h11 : s.m 11 = some (.box (entD d p)))
    (hl : es.length ≤ 1000) {x y t1 t2 id : Nat} {p1 p2 : String} {a1 a2 : Array Edge} {ts : Array Nat} (hx : x < n) (hy : y < n) (hxy : s.m x = none) (hxy2 : s.m y = none)
    {Q : Exit → Act → World → Prop} (hQ : ∀ a' w', HR B W n g shI (es ++ [itD j k d p]) ((s.app (some x) (putV g) none).app (some y) .tnil none) a' w' → Q .normal a' w') :
    (Code.region id #[⟨some x, .move (.tmp 12), t1, p1, a1, none⟩, ⟨some y, .call ⟨.value (.tmp x), #[.const (.int .i64 k)], ts⟩, t2, p2, a2, none⟩] false).wp Try.prog Q a w := by
  obtain ⟨⟨φ, u, r, hh, c1, c2⟩, hn, hb⟩ := h
  refine wp_region ?_
  show wpOps _ _ _ [0, 1] a w
  refine wpOps_cons (o := ⟨some x, .move (.tmp 12), t1, p1, a1, none⟩) rfl rfl ?_
  have t12 := r.tm 12
  rw [h12] at t12
  obtain ⟨cs, e12, hcs⟩ := t12
  obtain ⟨q1, qs1, hq1, ⟨_, rfl⟩, hcs⟩ := hcs
  obtain ⟨q2, qs2, rfl, hp10, hcs⟩ := hcs
  obtain ⟨q3, qs3, rfl, hp11, hcs⟩ := hcs
  obtain rfl : qs3 = [] := hcs
  obtain ⟨_, _, _, _, _, g10, T10, f10, rfl, hc10, _⟩ := box_at r h10 hp10
  obtain ⟨_, _, _, _, _, g11, T11, f11, rfl, hc11, _⟩ := box_at r h11 hp11
  obtain rfl : cs = #[ptrV g, ptrV g10, ptrV g11] := Array.ext' hq1
  unfold Oper.wp
  have ex0 : (execOp a.eval ⟨some x, .move (.tmp 12), t1, p1, a1, none⟩).run Try.prog w = .ok (.value (a.tmps.getD 12 undef)) w := by simp [execOp, Act.eval]
  rw [ex0, Oper.upon_value]
  have hn' := hn
  obtain ⟨φ1, r1⟩ := r.app (some x) (v := putV g) (b := none) (u := a.tmps.getD 12 undef) (w' := w) (φ' := φ) (stay (by rw [← h12]; exact r.tm 12)) (fun k hk => by cases hk; omega)
  refine wpOps_cons (o := ⟨some y, .call ⟨.value (.tmp x), #[.const (.int .i64 k)], ts⟩, t2, p2, a2, none⟩) rfl rfl ?_
  obtain ⟨fn, hfn, hbody, hname⟩ := putFn
  have ef : (a.put (some x) (a.tmps.getD 12 undef)).eval (.tmp x) = .func (.func 101) #[] #[ptrV g, ptrV g10, ptrV g11] := by
    show (a.put (some x) (a.tmps.getD 12 undef)).tmps.getD x undef = _
    rw [put_get a x _ (by omega), if_pos rfl, e12]
  unfold Oper.wp
  have ex1 : (execOp (a.put (some x) (a.tmps.getD 12 undef)).eval ⟨some y, .call ⟨.value (.tmp x), #[.const (.int .i64 k)], ts⟩, t2, p2, a2, none⟩).run Try.prog w = .ok (.enter 101 #[.int .i64 k, ptrV g, ptrV g10, ptrV g11]) w := by
    simp only [execOp, resolve, ef, Deferred.ofValue, invoke, callFunc, Sem.run_bind, Sem.run_pure, Result.andThen_ok, run_program, hfn, hname, hbody, Bool.false_eq_true, if_false, Array.empty_append]
    have em : ∀ ev : Operand → Value, #[Operand.const (.int .i64 k)].map ev = #[ev (.const (.int .i64 k))] := fun ev => by simp
    rw [em]
    rfl
  rw [ex1, Oper.upon_enter]
  refine (put_calls hh hc10 hc11 hl r.base).mono fun en w' hq => ?_
  obtain ⟨rfl, u', hh', hbel, hfr, hown, hsz⟩ := hq
  have rr : Rel B w φ s a w φ := r
  have r2 := r1.re
  obtain ⟨hh1, d1, d2⟩ := hh.fr r1.fr c1 c2
  have r3 : Rel B w' φ1 (s.app (some x) (putV g) none) (a.put (some x) (a.tmps.getD 12 undef)) w' φ1 := r2.anew (fun i => by
      show ((upd s.t x (putV g)) i).free = true
      by_cases hi : i = x
      · subst hi; rw [upd_same]; rfl
      · rw [upd_ne _ _ hi]; exact hf i) (fun k0 x0 hx0 => hfr x0 (r2.lo k0 x0 hx0).2 (fun e => d1 k0 (e ▸ hx0)) (fun e => d2 k0 x0 e hx0)) hsz
  obtain ⟨φ2, r4⟩ := r3.app (some y) (v := .tnil) (b := none) (u := .tuple #[]) (w' := w') (φ' := φ1) (stay rfl) (fun k hk => by cases hk; rw [put_size]; omega)
  refine hQ _ _ (HR.of r4 (by rw [put_size, put_size]; exact hn) (hb.trans hbel) hh' d1 fun k0 x0 hx0 => ?_)
  rcases hown x0 hx0 with h | h
  · exact d2 k0 x0 h
  · intro e
    have := (r2.lo k0 x0 e).2; omega
end Go.Proofs.Ytfbaikkadndckaa.Ev
