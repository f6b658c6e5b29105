/- Bins: what both compute. -/
import Derived.Test.YtfmbchnejelpkaaUm
namespace Go.Proofs.Ytfmbchnejelpkaa.Ev
open Go
attribute [local congr] ob_congr sq_congr cd_congr ite_congr1 iter_congr it1_congr jumps_congr
set_option maxRecDepth 100000
set_option linter.unusedSimpArgs false
set_option linter.unusedVariables false
open Go.RowKit
theorem arr_flat_range (n : Nat) (sh : Sh) (f : Nat → D) : (D.arr n sh f).flat = flats ((List.range n).map f) := by
  simp [D.flat, flats, List.flatMap_map]
theorem Rel.weak {B : Nat} {w0 w : World} {φ0 φ : Nat → Option Nat} {s s' : St} {a : Act} (r : Rel B w0 φ0 s a w φ) (h : ∀ i, s.t i = s'.t i ∨ s'.t i = .junk) (hm : s'.m = s.m) : Rel B w0 φ0 s' a w φ where
  dfr := r.dfr
  tm i := by
    rw [hm]
    rcases h i with h | h
    · rw [← h]; exact r.tm i
    · rw [h]; trivial
  bel := r.bel
  base := r.base
  box := by rw [hm]; exact r.box
  inj := r.inj
  lo := r.lo
  fr := r.fr
  pin := by rw [hm]; exact r.pin
abbrev C3g (ed l : List Nat) (i q : Nat) (u : Value) : St := ⟨tab .junk [(1, .sl .ro cF (fl ed)), (7, .d (.s u)), (10, .d (.s (.int .i64 (q)))), (41, .sl .ro cF (fl l)), (42, .d (.s (.int .i64 (l.length)))), (43, .d (.s (.int .i64 (i))))], fun _ => none⟩
abbrev C3r (ed l : List Nat) (i q : Nat) (u : Value) : St := ⟨tab .junk [(1, .sl .ro cF (fl ed)), (7, .d (.s u)), (10, .d (.s (.int .i64 (q)))), (39, .sl .ro cF (fl l)), (40, .d (.s (.int .i64 (l.length)))), (41, .d (.s (.int .i64 (i))))], fun _ => none⟩
/-- One more in part q, of gauge.Bins. -/
theorem inc_g {B n i q : Nat} {W w : World} {u : Value} {f : Nat → Nat} {ed l : List Nat} {a : Act} (h : RB B W 77 (ci f n) u (C3g ed l i q u) a w) (hq : q < n) (hf : f q ≤ 1000) {id t1 t2 t3 t4 t5 t6 t7 : Nat} {p1 p2 p3 p4 p5 p6 p7 : String} {a1 a2 a3 a4 a5 a6 a7 : Array Edge}
    {Q : Exit → Act → World → Prop} (hQ : ∀ a' w', RB B W 77 (ci (fun j => if j = q then f j + 1 else f j) n) u (C3g ed l i q u) a' w' → Q .normal a' w') :
    (Code.region id #[⟨some 69, .move (.tmp 7), t1, p1, a1, none⟩, ⟨some 70, .move (.tmp 10), t2, p2, a2, none⟩, ⟨some 71, .indexAddr 41 (.tmp 69) (.tmp 70), t3, p3, a3, none⟩, ⟨some 72, .load 3 (.tmp 71), t4, p4, a4, none⟩,
      ⟨some 73, .binOp .add 3 (.tmp 72) (.const (.int .i64 1)) 3, t5, p5, a5, none⟩, ⟨some 74, .indexAddr 41 (.tmp 69) (.tmp 70), t6, p6, a6, none⟩, ⟨none, .store 3 (.tmp 74) (.tmp 73), t7, p7, a7, none⟩] false).wp Try.prog Q a w := by
  obtain ⟨r, ⟨hg, e0, ho⟩, hn, hb⟩ := h
  have hlen : (ci f n).length = n := ci_len f n
  rcases ho.2 with ⟨_, hz⟩ | ⟨g, cap, cur, rfl, hB, hcell, hnc, hcm, hsz, htk⟩
  · rw [hlen] at hz; omega
  rw [hlen] at htk hnc r hQ
  have tl : Lies Try.prog 3 cI := (env_ok.ty 3 _ rfl).lies
  have tf : ∀ (f : Nat → Nat), (D.arr n cI fun j => .s (.int .i64 (f j))).flat = flats (ci f n) := fun f => arr_flat_range n cI _
  have hcur : cur = ((D.arr n cI fun j => .s (.int .i64 (f j))).flat ++ cur.toList.drop n).toArray := by
    rw [tf f, ← htk, show n * Sh.size cI = n from Nat.mul_one n, List.take_append_drop]
  have hflat : (flats (ci f n)).length = n := by rw [flats_length hg, hlen]; exact Nat.mul_one n
  have hgl := lt_of_heap hcell
  generalize hops : (#[⟨some 69, .move (.tmp 7), t1, p1, a1, none⟩, ⟨some 70, .move (.tmp 10), t2, p2, a2, none⟩, ⟨some 71, .indexAddr 41 (.tmp 69) (.tmp 70), t3, p3, a3, none⟩, ⟨some 72, .load 3 (.tmp 71), t4, p4, a4, none⟩,
      ⟨some 73, .binOp .add 3 (.tmp 72) (.const (.int .i64 1)) 3, t5, p5, a5, none⟩, ⟨some 74, .indexAddr 41 (.tmp 69) (.tmp 70), t6, p6, a6, none⟩, ⟨none, .store 3 (.tmp 74) (.tmp 73), t7, p7, a7, none⟩] : Array Oper) = ops
  have hdst : ∀ (j : Nat) (o : Oper) (d : Nat), ops[j]? = some o → o.dst = some d → d < 77 := by
    subst hops
    intro j o d h1 h2
    match j with
    | 0 => cases h1; cases h2; decide
    | 1 => cases h1; cases h2; decide
    | 2 => cases h1; cases h2; decide
    | 3 => cases h1; cases h2; decide
    | 4 => cases h1; cases h2; decide
    | 5 => cases h1; cases h2; decide
    | 6 => cases h1; cases h2
    | j + 7 => simp at h1
  have c5 : ∀ a : Act, a.tmps.getD 69 undef = .slice (some ⟨g, 0, none⟩) n cap → a.tmps.getD 70 undef = .int .i64 (q : Int) → ∀ (x t : Nat) (p : String) (e : Array Edge) (w : World), (execOp a.eval ⟨some x, .indexAddr 41 (.tmp 69) (.tmp 70), t, p, e, none⟩).run Try.prog w = .ok (.value (.pointer (some ⟨g, q, none⟩))) w := fun a h1 h2 x t p e w => by
    have e1 : a.eval (.tmp 69) = .slice (some ⟨g, 0, none⟩) n cap := h1
    have e2 : a.eval (.tmp 70) = .int .i64 (q : Int) := h2
    have hr := idx_run1 (t := 41) (e := 3) rfl rfl rfl rfl (g := g) (cap := cap) hq w
    simp [execOp, e1, e2, hr]
  refine wp_region ?_
  rw [show List.range ops.size = [0, 1] ++ [2, 3, 4, 5, 6] by subst hops; rfl]
  refine evOps_first (E := env) (call := fun _ _ => none) (n := 77) (sn := ⟨upd (upd (C3g ed l i q (.slice (some ⟨g, 0, none⟩) n cap)).t 69 (.d (.s (.slice (some ⟨g, 0, none⟩) n cap)))) 70 (.d (.s (.int .i64 (q)))), fun _ => none⟩) env_ok (fun g l r h => by cases h) hdst (fun b1 w1 φ1 r1 hn1 => ?_) [0, 1] _ _ w _ r hn (by subst hops; rfl)
  have k1 : w1.heap[g]? = some (.cells cur e0 (0, 0)) := (r1.fr.keep g hgl fun k e => by cases e).trans hcell
  have s69 : b1.tmps.getD 69 undef = .slice (some ⟨g, 0, none⟩) n cap := (r1.tm 69).2
  have s70 : b1.tmps.getD 70 undef = .int .i64 (q : Int) := (r1.tm 70).2
  refine wpOps_cons (o := ⟨some 71, .indexAddr 41 (.tmp 69) (.tmp 70), t3, p3, a3, none⟩) (by subst hops; rfl) rfl ?_
  unfold Oper.wp
  rw [c5 b1 s69 s70, Oper.upon_value]
  obtain ⟨φ2, r2⟩ := r1.app (some 71) (v := .d (.s (.pointer (some ⟨g, q, none⟩)))) (b := none) (u := .pointer (some ⟨g, q, none⟩)) (w' := w1) (φ' := φ1) (stay ⟨rfl, rfl⟩) (fun k hk => by cases hk; omega)
  refine wpOps_cons (o := ⟨some 72, .load 3 (.tmp 71), t4, p4, a4, none⟩) (by subst hops; rfl) rfl ?_
  have ld := run_load (P := Try.prog) (w := w1) tl (x := .s (.int .i64 (f q))) rfl rfl (g := g) (o := q) (cells_at k1 fun j v hj => by
    have h1 := flats_at hg (ci_get f hq) (j := j) hj
    rw [← htk, show n * Sh.size cI = n from Nat.mul_one n, show q * Sh.size cI = q from Nat.mul_one q, List.getElem?_take] at h1
    split at h1
    · simpa using h1
    · cases h1)
  have q3 : (execOp (b1.put (some 71) (.pointer (some ⟨g, q, none⟩))).eval ⟨some 72, .load 3 (.tmp 71), t4, p4, a4, none⟩).run Try.prog w1 = .ok (.value (.int .i64 (f q))) w1 := by
    have e1 : (b1.put (some 71) (.pointer (some ⟨g, q, none⟩))).eval (.tmp 71) = .pointer (some ⟨g, q, none⟩) := (r2.tm 71).2
    show ((do let v ← Instr.loadAt 3 ((b1.put (some 71) (.pointer (some ⟨g, q, none⟩))).eval (.tmp 71)); pure (.value v) : Sem Next)).run Try.prog w1 = _
    rw [e1]
    simp only [Instr.loadAt, Instr.sureAddr, Sem.run_bind, Sem.run_pure, Result.andThen_ok, ld]
    rfl
  unfold Oper.wp
  rw [q3, Oper.upon_value]
  obtain ⟨φ3, r3⟩ := r2.app (some 72) (v := .d (.s (.int .i64 (f q)))) (b := none) (u := .int .i64 (f q)) (w' := w1) (φ' := φ2) (stay ⟨rfl, rfl⟩) (fun k hk => by cases hk; rw [put_size]; omega)
  obtain ⟨sn, hev, h69, h70, h73, hsn⟩ : ∃ sn, evIdx env (fun _ _ => none) ops [4] ((St.app ⟨upd (upd (C3g ed l i q (.slice (some ⟨g, 0, none⟩) n cap)).t 69 (.d (.s (.slice (some ⟨g, 0, none⟩) n cap)))) 70 (.d (.s (.int .i64 (q)))), fun _ => none⟩ (some 71) (.d (.s (.pointer (some ⟨g, q, none⟩)))) none).app (some 72) (.d (.s (.int .i64 (f q)))) none) = some sn ∧
      sn.t 69 = .d (.s (.slice (some ⟨g, 0, none⟩) n cap)) ∧ sn.t 70 = .d (.s (.int .i64 (q))) ∧ sn.t 73 = .d (.s (.int .i64 (IntKind.i64.wrap ((f q : Int) + 1)))) ∧ (∀ k, (sn.app (some 74) (.d (.s (.pointer (some ⟨g, q, none⟩)))) none).t k = (C3g ed l i q (.slice (some ⟨g, 0, none⟩) n cap)).t k ∨ (C3g ed l i q (.slice (some ⟨g, 0, none⟩) n cap)).t k = .junk) := by
    refine ⟨_, by subst hops; rfl, rfl, rfl, rfl, fun k => ?_⟩
    by_cases k0 : k = 69
    · right; subst k0; rfl
    by_cases k1 : k = 70
    · right; subst k1; rfl
    by_cases k2 : k = 71
    · right; subst k2; rfl
    by_cases k3 : k = 72
    · right; subst k3; rfl
    by_cases k4 : k = 73
    · right; subst k4; rfl
    by_cases k5 : k = 74
    · right; subst k5; rfl
    left
    show upd (upd (upd (upd (upd (upd _ 69 _) 70 _) 71 _) 72 _) 73 _) 74 _ k = _
    rw [upd_ne _ _ k5, upd_ne _ _ k4, upd_ne _ _ k3, upd_ne _ _ k2, upd_ne _ _ k1, upd_ne _ _ k0]
  refine evOps_first (E := env) (call := fun _ _ => none) (n := 77) (sn := sn) env_ok (fun g l r h => by cases h) hdst (fun b4 w4 φ4 r4 hn4 => ?_) [4] _ _ w1 _ r3 (by rw [put_size, put_size]; exact hn1) hev
  have k4 : w4.heap[g]? = some (.cells cur e0 (0, 0)) := (r4.fr.keep g hgl fun k e => by cases e).trans hcell
  have t69 := r4.tm 69
  have t70 := r4.tm 70
  have t73 := r4.tm 73
  rw [h69] at t69
  rw [h70] at t70
  rw [h73, wrap_succ (f q) (by omega)] at t73
  refine wpOps_cons (o := ⟨some 74, .indexAddr 41 (.tmp 69) (.tmp 70), t6, p6, a6, none⟩) (by subst hops; rfl) rfl ?_
  unfold Oper.wp
  rw [c5 b4 t69.2 t70.2, Oper.upon_value]
  obtain ⟨φ5, r5⟩ := r4.app (some 74) (v := .d (.s (.pointer (some ⟨g, q, none⟩)))) (b := none) (u := .pointer (some ⟨g, q, none⟩)) (w' := w4) (φ' := φ4) (stay ⟨rfl, rfl⟩) (fun k hk => by cases hk; omega)
  refine wpOps_cons (o := ⟨none, .store 3 (.tmp 74) (.tmp 73), t7, p7, a7, none⟩) (by subst hops; rfl) rfl ?_
  have hst := run_store_at (P := Try.prog) (w := w4) tl (x := .arr n cI fun j => .s (.int .i64 (f j))) (v := .s (.int .i64 ((f q + 1 : Nat) : Int))) (p := [q]) (fun i => ⟨rfl, rfl⟩) (by simp [D.shape, Sh.sub, hq]) rfl rfl (g := g) (T := e0) (rest := cur.toList.drop n) (by rw [← hcur]; exact k4)
  have hoff : (D.arr n cI fun j => .s (.int .i64 (f j))).shape.off [q] = q := by simp [D.shape, Sh.off, Sh.size]
  have hset : ((D.arr n cI fun j => .s (.int .i64 (f j))).set [q] (.s (.int .i64 ((f q + 1 : Nat) : Int)))).flat = flats (ci (fun j => if j = q then f j + 1 else f j) n) := by
    rw [← tf]
    rw [D.set_arr]
    congr 1
    congr 1
    funext j
    by_cases e : j = q
    · rw [if_pos e, if_pos e, D.set_nil, e]
    · rw [if_neg e, if_neg e]
  rw [hoff, hset] at hst
  have e74 : (b4.put (some 74) (.pointer (some ⟨g, q, none⟩))).eval (.tmp 74) = .pointer (some ⟨g, q, none⟩) := (r5.tm 74).2
  have e73 : (b4.put (some 74) (.pointer (some ⟨g, q, none⟩))).eval (.tmp 73) = .int .i64 ((f q + 1 : Nat) : Int) := by
    show (b4.put (some 74) _).tmps.getD 73 undef = _
    rw [put_get b4 74 _ (by omega), if_neg (by decide)]; exact t73.2
  have q10 : (execOp (b4.put (some 74) (.pointer (some ⟨g, q, none⟩))).eval ⟨none, .store 3 (.tmp 74) (.tmp 73), t7, p7, a7, none⟩).run Try.prog w4 = .ok .skip (w4.setRow g (flats (ci (fun j => if j = q then f j + 1 else f j) n) ++ cur.toList.drop n).toArray) := by
    show ((do Instr.storeAt 3 ((b4.put (some 74) (.pointer (some ⟨g, q, none⟩))).eval (.tmp 74)) ((b4.put (some 74) (.pointer (some ⟨g, q, none⟩))).eval (.tmp 73)); pure .skip : Sem Next)).run Try.prog w4 = _
    rw [e74, e73]
    simp only [Instr.storeAt, Instr.sureAddr, Sem.run_bind, Sem.run_pure, Result.andThen_ok]
    rw [show (Value.int .i64 ((f q + 1 : Nat) : Int)) = (D.s (.int .i64 ((f q + 1 : Nat) : Int))).val from rfl, hst]
    rfl
  unfold Oper.wp
  rw [q10, Oper.upon_skip]
  have hg' : Good cI (ci (fun j => if j = q then f j + 1 else f j) n) := fun x hx => by
    obtain ⟨j, _, rfl⟩ := List.mem_map.1 hx
    exact ⟨rfl, rfl⟩
  have hfl' : (flats (ci (fun j => if j = q then f j + 1 else f j) n)).length = n := by rw [flats_length hg', ci_len]; exact Nat.mul_one n
  have hcl : n ≤ cur.toList.length := by
    have := congrArg List.length htk
    rw [List.length_take, hflat] at this
    have e : n * Sh.size cI = n := Nat.mul_one n
    rw [e] at this
    omega
  refine hQ _ _ ⟨?_, ⟨hg', e0, ?_⟩, by rw [put_size, put_size]; exact hn4, (hb.trans r5.bel).trans (setRow_below hB _)⟩
  · have r6 := r5.weak (s' := ⟨(C3g ed l i q (.slice (some ⟨g, 0, none⟩) n cap)).t, (sn.app (some 74) (.d (.s (.pointer (some ⟨g, q, none⟩)))) none).m⟩) hsn rfl
    exact r6.lower (tab_low rfl) (fun g' hg' => setRow_other w4 g g' _ (by omega)) (by simp)
  · refine ⟨by rw [hfl', ci_len]; exact (Nat.mul_one n).symm, .inr ⟨g, cap, _, by rw [ci_len], hB, setRow_heap w4 g _ _ e0 (0, 0) k4, by rw [ci_len]; exact hnc, hcm, ?_, ?_⟩⟩
    · rw [← hsz]; simp only [List.size_toArray, List.length_append, List.length_drop, hfl', Array.length_toList] at hcl ⊢; omega
    · rw [ci_len, show n * Sh.size cI = n from Nat.mul_one n]
      simp [hfl']
/-- One more in part q, of fingerpostref04.Bins. -/
theorem inc_r {B n i q : Nat} {W w : World} {u : Value} {f : Nat → Nat} {ed l : List Nat} {a : Act} (h : RB B W 69 (ci f n) u (C3r ed l i q u) a w) (hq : q < n) (hf : f q ≤ 1000) {id t1 t2 t3 t4 t5 t6 t7 : Nat} {p1 p2 p3 p4 p5 p6 p7 : String} {a1 a2 a3 a4 a5 a6 a7 : Array Edge}
    {Q : Exit → Act → World → Prop} (hQ : ∀ a' w', RB B W 69 (ci (fun j => if j = q then f j + 1 else f j) n) u (C3r ed l i q u) a' w' → Q .normal a' w') :
    (Code.region id #[⟨some 61, .move (.tmp 7), t1, p1, a1, none⟩, ⟨some 62, .move (.tmp 10), t2, p2, a2, none⟩, ⟨some 63, .indexAddr 41 (.tmp 61) (.tmp 62), t3, p3, a3, none⟩, ⟨some 64, .load 3 (.tmp 63), t4, p4, a4, none⟩,
      ⟨some 65, .binOp .add 3 (.tmp 64) (.const (.int .i64 1)) 3, t5, p5, a5, none⟩, ⟨some 66, .indexAddr 41 (.tmp 61) (.tmp 62), t6, p6, a6, none⟩, ⟨none, .store 3 (.tmp 66) (.tmp 65), t7, p7, a7, none⟩] false).wp Try.prog Q a w := by
  obtain ⟨r, ⟨hg, e0, ho⟩, hn, hb⟩ := h
  have hlen : (ci f n).length = n := ci_len f n
  rcases ho.2 with ⟨_, hz⟩ | ⟨g, cap, cur, rfl, hB, hcell, hnc, hcm, hsz, htk⟩
  · rw [hlen] at hz; omega
  rw [hlen] at htk hnc r hQ
  have tl : Lies Try.prog 3 cI := (env_ok.ty 3 _ rfl).lies
  have tf : ∀ (f : Nat → Nat), (D.arr n cI fun j => .s (.int .i64 (f j))).flat = flats (ci f n) := fun f => arr_flat_range n cI _
  have hcur : cur = ((D.arr n cI fun j => .s (.int .i64 (f j))).flat ++ cur.toList.drop n).toArray := by
    rw [tf f, ← htk, show n * Sh.size cI = n from Nat.mul_one n, List.take_append_drop]
  have hflat : (flats (ci f n)).length = n := by rw [flats_length hg, hlen]; exact Nat.mul_one n
  have hgl := lt_of_heap hcell
  generalize hops : (#[⟨some 61, .move (.tmp 7), t1, p1, a1, none⟩, ⟨some 62, .move (.tmp 10), t2, p2, a2, none⟩, ⟨some 63, .indexAddr 41 (.tmp 61) (.tmp 62), t3, p3, a3, none⟩, ⟨some 64, .load 3 (.tmp 63), t4, p4, a4, none⟩,
      ⟨some 65, .binOp .add 3 (.tmp 64) (.const (.int .i64 1)) 3, t5, p5, a5, none⟩, ⟨some 66, .indexAddr 41 (.tmp 61) (.tmp 62), t6, p6, a6, none⟩, ⟨none, .store 3 (.tmp 66) (.tmp 65), t7, p7, a7, none⟩] : Array Oper) = ops
  have hdst : ∀ (j : Nat) (o : Oper) (d : Nat), ops[j]? = some o → o.dst = some d → d < 69 := by
    subst hops
    intro j o d h1 h2
    match j with
    | 0 => cases h1; cases h2; decide
    | 1 => cases h1; cases h2; decide
    | 2 => cases h1; cases h2; decide
    | 3 => cases h1; cases h2; decide
    | 4 => cases h1; cases h2; decide
    | 5 => cases h1; cases h2; decide
    | 6 => cases h1; cases h2
    | j + 7 => simp at h1
  have c5 : ∀ a : Act, a.tmps.getD 61 undef = .slice (some ⟨g, 0, none⟩) n cap → a.tmps.getD 62 undef = .int .i64 (q : Int) → ∀ (x t : Nat) (p : String) (e : Array Edge) (w : World), (execOp a.eval ⟨some x, .indexAddr 41 (.tmp 61) (.tmp 62), t, p, e, none⟩).run Try.prog w = .ok (.value (.pointer (some ⟨g, q, none⟩))) w := fun a h1 h2 x t p e w => by
    have e1 : a.eval (.tmp 61) = .slice (some ⟨g, 0, none⟩) n cap := h1
    have e2 : a.eval (.tmp 62) = .int .i64 (q : Int) := h2
    have hr := idx_run1 (t := 41) (e := 3) rfl rfl rfl rfl (g := g) (cap := cap) hq w
    simp [execOp, e1, e2, hr]
  refine wp_region ?_
  rw [show List.range ops.size = [0, 1] ++ [2, 3, 4, 5, 6] by subst hops; rfl]
  refine evOps_first (E := env) (call := fun _ _ => none) (n := 69) (sn := ⟨upd (upd (C3r ed l i q (.slice (some ⟨g, 0, none⟩) n cap)).t 61 (.d (.s (.slice (some ⟨g, 0, none⟩) n cap)))) 62 (.d (.s (.int .i64 (q)))), fun _ => none⟩) env_ok (fun g l r h => by cases h) hdst (fun b1 w1 φ1 r1 hn1 => ?_) [0, 1] _ _ w _ r hn (by subst hops; rfl)
  have k1 : w1.heap[g]? = some (.cells cur e0 (0, 0)) := (r1.fr.keep g hgl fun k e => by cases e).trans hcell
  have s69 : b1.tmps.getD 61 undef = .slice (some ⟨g, 0, none⟩) n cap := (r1.tm 61).2
  have s70 : b1.tmps.getD 62 undef = .int .i64 (q : Int) := (r1.tm 62).2
  refine wpOps_cons (o := ⟨some 63, .indexAddr 41 (.tmp 61) (.tmp 62), t3, p3, a3, none⟩) (by subst hops; rfl) rfl ?_
  unfold Oper.wp
  rw [c5 b1 s69 s70, Oper.upon_value]
  obtain ⟨φ2, r2⟩ := r1.app (some 63) (v := .d (.s (.pointer (some ⟨g, q, none⟩)))) (b := none) (u := .pointer (some ⟨g, q, none⟩)) (w' := w1) (φ' := φ1) (stay ⟨rfl, rfl⟩) (fun k hk => by cases hk; omega)
  refine wpOps_cons (o := ⟨some 64, .load 3 (.tmp 63), t4, p4, a4, none⟩) (by subst hops; rfl) rfl ?_
  have ld := run_load (P := Try.prog) (w := w1) tl (x := .s (.int .i64 (f q))) rfl rfl (g := g) (o := q) (cells_at k1 fun j v hj => by
    have h1 := flats_at hg (ci_get f hq) (j := j) hj
    rw [← htk, show n * Sh.size cI = n from Nat.mul_one n, show q * Sh.size cI = q from Nat.mul_one q, List.getElem?_take] at h1
    split at h1
    · simpa using h1
    · cases h1)
  have q3 : (execOp (b1.put (some 63) (.pointer (some ⟨g, q, none⟩))).eval ⟨some 64, .load 3 (.tmp 63), t4, p4, a4, none⟩).run Try.prog w1 = .ok (.value (.int .i64 (f q))) w1 := by
    have e1 : (b1.put (some 63) (.pointer (some ⟨g, q, none⟩))).eval (.tmp 63) = .pointer (some ⟨g, q, none⟩) := (r2.tm 63).2
    show ((do let v ← Instr.loadAt 3 ((b1.put (some 63) (.pointer (some ⟨g, q, none⟩))).eval (.tmp 63)); pure (.value v) : Sem Next)).run Try.prog w1 = _
    rw [e1]
    simp only [Instr.loadAt, Instr.sureAddr, Sem.run_bind, Sem.run_pure, Result.andThen_ok, ld]
    rfl
  unfold Oper.wp
  rw [q3, Oper.upon_value]
  obtain ⟨φ3, r3⟩ := r2.app (some 64) (v := .d (.s (.int .i64 (f q)))) (b := none) (u := .int .i64 (f q)) (w' := w1) (φ' := φ2) (stay ⟨rfl, rfl⟩) (fun k hk => by cases hk; rw [put_size]; omega)
  obtain ⟨sn, hev, h69, h70, h73, hsn⟩ : ∃ sn, evIdx env (fun _ _ => none) ops [4] ((St.app ⟨upd (upd (C3r ed l i q (.slice (some ⟨g, 0, none⟩) n cap)).t 61 (.d (.s (.slice (some ⟨g, 0, none⟩) n cap)))) 62 (.d (.s (.int .i64 (q)))), fun _ => none⟩ (some 63) (.d (.s (.pointer (some ⟨g, q, none⟩)))) none).app (some 64) (.d (.s (.int .i64 (f q)))) none) = some sn ∧
      sn.t 61 = .d (.s (.slice (some ⟨g, 0, none⟩) n cap)) ∧ sn.t 62 = .d (.s (.int .i64 (q))) ∧ sn.t 65 = .d (.s (.int .i64 (IntKind.i64.wrap ((f q : Int) + 1)))) ∧ (∀ k, (sn.app (some 66) (.d (.s (.pointer (some ⟨g, q, none⟩)))) none).t k = (C3r ed l i q (.slice (some ⟨g, 0, none⟩) n cap)).t k ∨ (C3r ed l i q (.slice (some ⟨g, 0, none⟩) n cap)).t k = .junk) := by
    refine ⟨_, by subst hops; rfl, rfl, rfl, rfl, fun k => ?_⟩
    by_cases k0 : k = 61
    · right; subst k0; rfl
    by_cases k1 : k = 62
    · right; subst k1; rfl
    by_cases k2 : k = 63
    · right; subst k2; rfl
    by_cases k3 : k = 64
    · right; subst k3; rfl
    by_cases k4 : k = 65
    · right; subst k4; rfl
    by_cases k5 : k = 66
    · right; subst k5; rfl
    left
    show upd (upd (upd (upd (upd (upd _ 61 _) 62 _) 63 _) 64 _) 65 _) 66 _ k = _
    rw [upd_ne _ _ k5, upd_ne _ _ k4, upd_ne _ _ k3, upd_ne _ _ k2, upd_ne _ _ k1, upd_ne _ _ k0]
  refine evOps_first (E := env) (call := fun _ _ => none) (n := 69) (sn := sn) env_ok (fun g l r h => by cases h) hdst (fun b4 w4 φ4 r4 hn4 => ?_) [4] _ _ w1 _ r3 (by rw [put_size, put_size]; exact hn1) hev
  have k4 : w4.heap[g]? = some (.cells cur e0 (0, 0)) := (r4.fr.keep g hgl fun k e => by cases e).trans hcell
  have t69 := r4.tm 61
  have t70 := r4.tm 62
  have t73 := r4.tm 65
  rw [h69] at t69
  rw [h70] at t70
  rw [h73, wrap_succ (f q) (by omega)] at t73
  refine wpOps_cons (o := ⟨some 66, .indexAddr 41 (.tmp 61) (.tmp 62), t6, p6, a6, none⟩) (by subst hops; rfl) rfl ?_
  unfold Oper.wp
  rw [c5 b4 t69.2 t70.2, Oper.upon_value]
  obtain ⟨φ5, r5⟩ := r4.app (some 66) (v := .d (.s (.pointer (some ⟨g, q, none⟩)))) (b := none) (u := .pointer (some ⟨g, q, none⟩)) (w' := w4) (φ' := φ4) (stay ⟨rfl, rfl⟩) (fun k hk => by cases hk; omega)
  refine wpOps_cons (o := ⟨none, .store 3 (.tmp 66) (.tmp 65), t7, p7, a7, none⟩) (by subst hops; rfl) rfl ?_
  have hst := run_store_at (P := Try.prog) (w := w4) tl (x := .arr n cI fun j => .s (.int .i64 (f j))) (v := .s (.int .i64 ((f q + 1 : Nat) : Int))) (p := [q]) (fun i => ⟨rfl, rfl⟩) (by simp [D.shape, Sh.sub, hq]) rfl rfl (g := g) (T := e0) (rest := cur.toList.drop n) (by rw [← hcur]; exact k4)
  have hoff : (D.arr n cI fun j => .s (.int .i64 (f j))).shape.off [q] = q := by simp [D.shape, Sh.off, Sh.size]
  have hset : ((D.arr n cI fun j => .s (.int .i64 (f j))).set [q] (.s (.int .i64 ((f q + 1 : Nat) : Int)))).flat = flats (ci (fun j => if j = q then f j + 1 else f j) n) := by
    rw [← tf]
    rw [D.set_arr]
    congr 1
    congr 1
    funext j
    by_cases e : j = q
    · rw [if_pos e, if_pos e, D.set_nil, e]
    · rw [if_neg e, if_neg e]
  rw [hoff, hset] at hst
  have e74 : (b4.put (some 66) (.pointer (some ⟨g, q, none⟩))).eval (.tmp 66) = .pointer (some ⟨g, q, none⟩) := (r5.tm 66).2
  have e73 : (b4.put (some 66) (.pointer (some ⟨g, q, none⟩))).eval (.tmp 65) = .int .i64 ((f q + 1 : Nat) : Int) := by
    show (b4.put (some 66) _).tmps.getD 65 undef = _
    rw [put_get b4 66 _ (by omega), if_neg (by decide)]; exact t73.2
  have q10 : (execOp (b4.put (some 66) (.pointer (some ⟨g, q, none⟩))).eval ⟨none, .store 3 (.tmp 66) (.tmp 65), t7, p7, a7, none⟩).run Try.prog w4 = .ok .skip (w4.setRow g (flats (ci (fun j => if j = q then f j + 1 else f j) n) ++ cur.toList.drop n).toArray) := by
    show ((do Instr.storeAt 3 ((b4.put (some 66) (.pointer (some ⟨g, q, none⟩))).eval (.tmp 66)) ((b4.put (some 66) (.pointer (some ⟨g, q, none⟩))).eval (.tmp 65)); pure .skip : Sem Next)).run Try.prog w4 = _
    rw [e74, e73]
    simp only [Instr.storeAt, Instr.sureAddr, Sem.run_bind, Sem.run_pure, Result.andThen_ok]
    rw [show (Value.int .i64 ((f q + 1 : Nat) : Int)) = (D.s (.int .i64 ((f q + 1 : Nat) : Int))).val from rfl, hst]
    rfl
  unfold Oper.wp
  rw [q10, Oper.upon_skip]
  have hg' : Good cI (ci (fun j => if j = q then f j + 1 else f j) n) := fun x hx => by
    obtain ⟨j, _, rfl⟩ := List.mem_map.1 hx
    exact ⟨rfl, rfl⟩
  have hfl' : (flats (ci (fun j => if j = q then f j + 1 else f j) n)).length = n := by rw [flats_length hg', ci_len]; exact Nat.mul_one n
  have hcl : n ≤ cur.toList.length := by
    have := congrArg List.length htk
    rw [List.length_take, hflat] at this
    have e : n * Sh.size cI = n := Nat.mul_one n
    rw [e] at this
    omega
  refine hQ _ _ ⟨?_, ⟨hg', e0, ?_⟩, by rw [put_size, put_size]; exact hn4, (hb.trans r5.bel).trans (setRow_below hB _)⟩
  · have r6 := r5.weak (s' := ⟨(C3r ed l i q (.slice (some ⟨g, 0, none⟩) n cap)).t, (sn.app (some 66) (.d (.s (.pointer (some ⟨g, q, none⟩)))) none).m⟩) hsn rfl
    exact r6.lower (tab_low rfl) (fun g' hg' => setRow_other w4 g g' _ (by omega)) (by simp)
  · refine ⟨by rw [hfl', ci_len]; exact (Nat.mul_one n).symm, .inr ⟨g, cap, _, by rw [ci_len], hB, setRow_heap w4 g _ _ e0 (0, 0) k4, by rw [ci_len]; exact hnc, hcm, ?_, ?_⟩⟩
    · rw [← hsz]; simp only [List.size_toArray, List.length_append, List.length_drop, hfl', Array.length_toList] at hcl ⊢; omega
    · rw [ci_len, show n * Sh.size cI = n from Nat.mul_one n]
      simp [hfl']
end Go.Proofs.Ytfmbchnejelpkaa.Ev
