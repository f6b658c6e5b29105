/-
  The facts on types, by a check that the kernel reckons; what Go's '==' finds of data.
-/
import Derived.Test.YtjceimcepogkaaaGreatDoorEvZ
import Derived.ChangeKeysEq
namespace Go.Proofs.YtjceimcepogkaaaGreatDoor.Ev
open Go Go.RowKit

def liesB (P : Program) (t : TypeId) (u : Sh) : Bool :=
  match P.info? t, P.underlying t with
  | some i, some d => i.size == u.size && d.isRow == u.isAgg
  | _, _ => false

def fldL (P : Program) : List Field → Sh → Nat → Bool
  | [], .nil, _ => true
  | f :: r, .cons a b, off => f.offset == off && liesB P f.type a && fldL P r b (off + a.size)
  | _, _, _ => false

def eqFs (P : Program) (g : TypeId → Sh → Bool) : List Field → Sh → Nat → Bool
  | [], .nil, _ => true
  | f :: r, .cons a b, off => f.name != "_" && f.offset == off && liesB P f.type a && g f.type a && eqFs P g r b (off + a.size)
  | _, _, _ => false

def eqTy (P : Program) : Nat → TypeId → Sh → Bool
  | 0, _, _ => false
  | d + 1, t, sh =>
    match P.underlying t, sh with
    | some (.int k), .cell (.int k') => k == k'
    | some .bool, .cell .bool => true
    | some .string, .cell .string => true
    | some (.array n e), .arr m u => n == m && liesB P e u && eqTy P d e u
    | some (.struct fs), sh => !P.stoodInHeld t && eqFs P (eqTy P d) fs.toList sh 0
    | _, _ => false

section
variable {P : Program} {w : World}

theorem lies_of {t : TypeId} {u : Sh} (h : liesB P t u = true) : Lies P t u := by
  unfold liesB at h
  split at h
  · rename_i i d h1 h2
    simp only [Bool.and_eq_true, beq_iff_eq] at h
    exact ⟨i, d, h1, h.1, h2, h.2⟩
  · cases h

theorem fldL_at : ∀ {fs : List Field} {sh : Sh} {off : Nat}, fldL P fs sh off = true → (∀ j u, sh.sub [j] = some u → ∃ f, fs[j]? = some f ∧ f.offset = off + sh.off [j] ∧ Lies P f.type u) ∧ (∀ j f, fs[j]? = some f → ∃ u, sh.sub [j] = some u)
  | [], .nil, off, _ => ⟨fun j u h => by simp [Sh.sub] at h, fun j f h => by simp at h⟩
  | f :: r, .cons a b, off, h => by
    simp only [fldL, Bool.and_eq_true, beq_iff_eq] at h
    obtain ⟨⟨h1, h2⟩, h3⟩ := h
    obtain ⟨q1, q2⟩ := fldL_at h3
    refine ⟨fun j u hu => ?_, fun j f' hf => ?_⟩
    · cases j with
      | zero =>
        simp only [Sh.sub, Sh.sub_nil] at hu
        cases hu
        exact ⟨f, rfl, by simp [Sh.off, Sh.off_nil, h1], lies_of h2⟩
      | succ j =>
        simp only [Sh.sub] at hu
        obtain ⟨f', p1, p2, p3⟩ := q1 j u hu
        exact ⟨f', by simpa using p1, by rw [p2]; simp [Sh.off, Nat.add_assoc], p3⟩
    · cases j with
      | zero => exact ⟨a, by simp [Sh.sub, Sh.sub_nil]⟩
      | succ j => obtain ⟨u, hu⟩ := q2 j f' (by simpa using hf); exact ⟨u, by simpa [Sh.sub] using hu⟩
  | [], .cell _, _, h => by simp [fldL] at h
  | [], .arr _ _, _, h => by simp [fldL] at h
  | [], .cons _ _, _, h => by simp [fldL] at h
  | _ :: _, .cell _, _, h => by simp [fldL] at h
  | _ :: _, .arr _ _, _, h => by simp [fldL] at h
  | _ :: _, .nil, _, h => by simp [fldL] at h

def EqAt (P : Program) (d : Nat) (t : TypeId) (sh : Sh) : Prop := ∀ (w : World) (x y : D), x.WF → y.WF → x.shape = sh → y.shape = sh → (Op.equalIn d t x.val y.val).run P w = .ok (x.eqv y) w

theorem eqFs_run {d : Nat} {g : TypeId → Sh → Bool} (hg : ∀ t u, g t u = true → EqAt P d t u) : ∀ (fs : List Field) (sh : Sh) (off : Nat), eqFs P g fs sh off = true →
    ∀ (w : World) (x y : D) (l1 l2 : List Value), x.WF → y.WF → x.shape = sh → y.shape = sh → l1.length = off → l2.length = off → (Op.eqFields d (l1 ++ x.flat).toArray (l2 ++ y.flat).toArray fs).run P w = .ok (x.eqv y) w
  | [], .nil, off, _, w, x, y, l1, l2, hx, hy, sx, sy, _, _ => by
    cases x <;> simp [D.shape] at sx
    cases y <;> simp [D.shape] at sy
    rfl
  | f :: r, .cons a b, off, h, w, x, y, l1, l2, hx, hy, sx, sy, e1, e2 => by
    cases x <;> simp only [D.shape] at sx <;> first | cases sx | skip
    cases y <;> simp only [D.shape] at sy <;> first | cases sy | skip
    rename_i xa xb ya yb
    simp only [Sh.cons.injEq] at sy
    obtain ⟨sya, syb⟩ := sy
    simp only [eqFs, Bool.and_eq_true, beq_iff_eq, bne_iff_ne, ne_eq] at h
    obtain ⟨⟨⟨⟨h1, h2⟩, h3⟩, h4⟩, h5⟩ := h
    have p1 := run_part (P := P) (w := w) (lies_of h3) (y := xa) hx.1 rfl (l := l1) (r := xb.flat) (off := f.offset) (by omega)
    have p2 := run_part (P := P) (w := w) (lies_of h3) (y := ya) hy.1 sya (l := l2) (r := yb.flat) (off := f.offset) (by omega)
    have q := hg f.type xa.shape h4 w xa ya hx.1 hy.1 rfl sya
    have lx : (l1 ++ xa.flat).length = off + xa.shape.size := by rw [List.length_append, xa.flat_length hx.1, e1]
    have ly : (l2 ++ ya.flat).length = off + xa.shape.size := by rw [List.length_append, ya.flat_length hy.1, sya, e2]
    have ih := eqFs_run hg r xb.shape (off + xa.shape.size) h5 w xb yb (l1 ++ xa.flat) (l2 ++ ya.flat) hx.2 hy.2 rfl syb lx ly
    simp only [D.flat]
    simp only [Op.eqFields, h1, not_false_eq_true, if_true, Sem.run_bind, p1, p2, Result.andThen_ok, q, ne_eq]
    simp only [D.eqv]
    cases he : xa.eqv ya with
    | false => simp
    | true =>
      simp only [Bool.not_true, Bool.false_eq_true, if_false, Bool.true_and]
      rw [← ih]
      simp only [List.append_assoc]
  | [], .cell _, _, h, _, _, _, _, _, _, _, _, _, _, _ => by simp [eqFs] at h
  | [], .arr _ _, _, h, _, _, _, _, _, _, _, _, _, _, _ => by simp [eqFs] at h
  | [], .cons _ _, _, h, _, _, _, _, _, _, _, _, _, _, _ => by simp [eqFs] at h
  | _ :: _, .cell _, _, h, _, _, _, _, _, _, _, _, _, _, _ => by simp [eqFs] at h
  | _ :: _, .arr _ _, _, h, _, _, _, _, _, _, _, _, _, _, _ => by simp [eqFs] at h
  | _ :: _, .nil, _, h, _, _, _, _, _, _, _, _, _, _, _ => by simp [eqFs] at h

theorem cell_int {x : D} {k : IntKind} (h : x.shape = .cell (.int k)) : ∃ n, x = .s (.int k n) := by
  cases x with
  | s v => simp only [D.shape, Sh.cell.injEq] at h; cases v <;> simp [ck] at h; subst h; exact ⟨_, rfl⟩
  | _ => simp [D.shape] at h
theorem cell_bool {x : D} (h : x.shape = .cell .bool) : ∃ n, x = .s (.bool n) := by
  cases x with
  | s v => simp only [D.shape, Sh.cell.injEq] at h; cases v <;> simp [ck] at h; exact ⟨_, rfl⟩
  | _ => simp [D.shape] at h
theorem cell_string {x : D} (h : x.shape = .cell .string) : ∃ n, x = .s (.string n) := by
  cases x with
  | s v => simp only [D.shape, Sh.cell.injEq] at h; cases v <;> simp [ck] at h; exact ⟨_, rfl⟩
  | _ => simp [D.shape] at h

theorem eqItems_run {d : Nat} {e : TypeId} {u : Sh} (he : EqAt P d e u) (hl : Lies P e u) {n : Nat} {f g : Nat → D} (hf : (D.arr n u f).WF) (hg : (D.arr n u g).WF) (w : World) :
    ∀ (is : List Nat), (∀ i ∈ is, i < n) → (Op.eqItems d e u.size (D.arr n u f).flat.toArray (D.arr n u g).flat.toArray is).run P w = .ok (is.all fun i => (f i).eqv (g i)) w
  | [], _ => rfl
  | i :: is, h => by
    have hi := h i (by simp)
    have ih := eqItems_run he hl hf hg w is fun j hj => h j (by simp [hj])
    have part_at : ∀ (q : Nat → D), (D.arr n u q).WF → (part e (D.arr n u q).flat.toArray (i * u.size)).run P w = .ok (q i).val w := by
      intro q hq
      obtain ⟨g1, g2, l, r, e1, e2, _⟩ := (D.arr n u q).at_path [i] u hq (by simp [D.shape, Sh.sub, hi, Sh.sub_nil])
      rw [e1]
      simp only [D.get_arr, D.get_nil] at g1 g2 ⊢
      exact run_part hl g1 g2 (by rw [e2]; simp [D.shape, Sh.off, Sh.off_nil])
    simp only [Op.eqItems, Sem.run_bind, part_at f hf, part_at g hg, Result.andThen_ok, he w (f i) (g i) (hf i).1 (hg i).1 (hf i).2 (hg i).2, List.all_cons]
    cases hc : (f i).eqv (g i) with
    | false => simp
    | true =>
      simp only [Bool.not_true, Bool.false_eq_true, if_false, Bool.true_and]
      exact ih

theorem eqTy_run (k : Nat) : ∀ (d : Nat) (t : TypeId) (sh : Sh), eqTy P d t sh = true → EqAt P (k + d) t sh
  | 0, t, sh, h => by simp [eqTy] at h
  | d + 1, t, sh, h => by
    intro w x y hx hy sx sy
    rw [show k + (d + 1) = (k + d) + 1 by omega]
    unfold eqTy at h
    split at h
    · rename_i kk kk' hu
      obtain ⟨a, rfl⟩ := cell_int sx
      obtain ⟨b, rfl⟩ := cell_int sy
      exact run_equalIn_int w (k + d) t _ _ a b hu
    · rename_i hu
      obtain ⟨a, rfl⟩ := cell_bool sx
      obtain ⟨b, rfl⟩ := cell_bool sy
      exact run_equalIn_bool w (k + d) t a b hu
    · rename_i hu
      obtain ⟨a, rfl⟩ := cell_string sx
      obtain ⟨b, rfl⟩ := cell_string sy
      show (Op.equalIn (k + d + 1) t (.string a) (.string b)).run P w = .ok (a == b) w
      rw [run_equalIn_string w (k + d) t a b hu, beq_toListBytes]
    · rename_i n e m u hu
      simp only [Bool.and_eq_true, beq_iff_eq] at h
      obtain ⟨⟨rfl, hl⟩, he⟩ := h
      cases x <;> simp only [D.shape] at sx <;> first | cases sx | skip
      cases y <;> simp only [D.shape] at sy <;> first | cases sy | skip
      rename_i f g
      obtain ⟨i, dd, hi, hsz, hu2, hr⟩ := lies_of hl
      have hc : P.cellsOf e = u.size := by simp [Program.cellsOf, hi, hsz]
      have := run_equalIn_array (P := P) (w := w) (k + d) (D.arr n u f).flat.toArray (D.arr n u g).flat.toArray hu hi
      show (Op.equalIn (k + d + 1) t (.agg _) (.agg _)).run P w = _
      rw [this, hc, eqItems_run (eqTy_run k d e u he) ⟨i, dd, hi, hsz, hu2, hr⟩ hx hy w _ (fun i hi => List.mem_range.1 hi)]
      rfl
    · rename_i sh' _ _ fs hu
      simp only [Bool.and_eq_true, Bool.not_eq_true'] at h
      obtain ⟨hst, hfs⟩ := h
      have hagg : sh'.isAgg = true := by
        cases hq : fs.toList <;> rw [hq] at hfs <;> cases sh' <;> simp [eqFs] at hfs <;> rfl
      have hfo : P.fieldsOf t = fs := by simp [Program.fieldsOf, hu]
      rw [val_agg (by rw [sx]; exact hagg), val_agg (by rw [sy]; exact hagg)]
      rw [run_equalIn_struct w (k + d) t _ _ (by rw [hfo]; exact hu) hst, hfo]
      exact eqFs_run (fun t u hg => eqTy_run k d t u hg) fs.toList sh' 0 hfs w x y [] [] hx hy sx sy rfl rfl
    · cases h

def kdB (P : Program) (t : TypeId) (sh : Sh) : Kd → Bool
  | .int k => match P.underlying t with | some (.int k') => k == k' | _ => false
  | .bool => match P.underlying t with | some .bool => true | _ => false
  | .string => match P.underlying t with | some .string => true | _ => false
  | .float k => match P.underlying t with | some (.float k') => k == k' | _ => false
  | .arr n e => match P.underlying t, sh with | some (.array n' e'), .arr m u => n == n' && e == e' && m == n && liesB P e u | _, _ => false
  | .str _ => match P.underlying t with | some (.struct fs) => fldL P fs.toList sh 0 | _ => false
  | .slice e => match P.underlying t with | some (.slice e') => e == e' | _ => false
  | .other => true

def tyB (P : Program) (t : TypeId) (ty : Ty) : Bool :=
  liesB P t ty.sh && (match P.info? t with | some i => i.bytes == ty.bytes | none => false) && kdB P t ty.sh ty.kd && (!ty.eq || (eqTy P 20 t ty.sh && !P.eqGuardType P.depth t))

theorem kdOK_of {t : TypeId} {sh : Sh} : ∀ {kd : Kd}, kdB P t sh kd = true → KdOK P t sh kd
  | .int k, h => by
    simp only [kdB] at h
    split at h
    · rename_i hu; simp at h; subst h; exact hu
    · cases h
  | .bool, h => by
    simp only [kdB] at h
    split at h
    · rename_i hu; exact hu
    · cases h
  | .string, h => by
    simp only [kdB] at h
    split at h
    · rename_i hu; exact hu
    · cases h
  | .float k, h => by
    simp only [kdB] at h
    split at h
    · rename_i hu; simp at h; subst h; exact hu
    · cases h
  | .arr n e, h => by
    simp only [kdB] at h
    split at h
    · rename_i hu
      simp at h
      obtain ⟨⟨⟨rfl, rfl⟩, rfl⟩, hl⟩ := h
      exact ⟨hu, _, rfl, lies_of hl⟩
    · cases h
  | .str _, h => by
    simp only [kdB] at h
    split at h
    · rename_i fs hu
      obtain ⟨q1, q2⟩ := fldL_at h
      exact ⟨fs, hu, fun j u hj => by
        obtain ⟨f, p1, p2, p3⟩ := q1 j u hj
        exact ⟨f, by simpa using p1, by simpa using p2, p3⟩, fun j f hj => q2 j f (by simpa using hj)⟩
    · cases h
  | .slice e, h => by
    simp only [kdB] at h
    split at h
    · rename_i hu; simp at h; subst h; exact hu
    · cases h
  | .other, _ => trivial

theorem tyOK_of {t : TypeId} {ty : Ty} (h : tyB P t ty = true) (hz : (P.info? t).map (·.zero) = some (some ty.zero.val)) (hw : ty.zero.WF ∧ ty.zero.shape = ty.sh) : TyOK P t ty := by
  simp only [tyB, Bool.and_eq_true, Bool.or_eq_true, Bool.not_eq_true'] at h
  obtain ⟨⟨⟨h1, h2⟩, h3⟩, h4⟩ := h
  have heq : ty.eq = true → eqTy P 20 t ty.sh = true ∧ P.eqGuardType P.depth t = false := fun e => by
    rcases h4 with h4 | h4
    · rw [e] at h4; cases h4
    · exact h4
  refine ⟨lies_of h1, ?_, hw, ?_, fun e => (heq e).2, fun e w x y hx hy sx sy => eqTy_run 9980 20 t ty.sh (heq e).1 w x y hx hy sx sy⟩
  · cases hi : P.info? t with
    | none => rw [hi] at hz; cases hz
    | some i =>
      rw [hi] at hz h2
      simp at hz h2
      exact ⟨i, rfl, hz, h2⟩
  · exact kdOK_of h3

/-- Is a function's code in order? -/
def fnB (P : Program) (dp : Nat → Nat → List (Nat × Nat)) (f : Nat) : Bool :=
  match P.funcs[f]? with
  | none => true
  | some fn =>
    match fn.body with
    | none => true
    | some c => okCode P (dp f) fn.ntmps c && !(fn.name == "runtime.NumGoroutine")

theorem fnsOK_of {E : Env} {l : List Nat} (hE : ∀ f, E.ok f = true → f ∈ l) (h : (l.all fun f => fnB P E.dp f) = true) : FnsOK P E := by
  intro f fn c hok hfn hc
  have := List.all_eq_true.1 h f (hE f hok)
  unfold fnB at this
  rw [hfn] at this
  simp only [hc, Bool.and_eq_true, Bool.not_eq_true'] at this
  exact this
end
end Go.Proofs.YtjceimcepogkaaaGreatDoor.Ev
