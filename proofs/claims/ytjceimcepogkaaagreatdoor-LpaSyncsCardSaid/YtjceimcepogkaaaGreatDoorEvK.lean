/-
  Loops of the evaluator, run: from a state a turn to the last turn; equality of data; what the laws' texts share.
-/
import Derived.Test.YtjceimcepogkaaaGreatDoorEvS
import Derived.IntWalk
namespace Go.Proofs.YtjceimcepogkaaaGreatDoor.Ev
open Go

def noext : Nat → List V → Option V := fun _ _ => none

def it1 (lf : Nat) (f : St → Option (Ex × St)) (r : Option (Ex × St)) : Option (Ex × St) :=
  match r with
  | some (.normal, s) => iter lf f s
  | r => r

theorem it1_normal (lf : Nat) (f : St → Option (Ex × St)) (s : St) : it1 lf f (some (.normal, s)) = iter lf f s := nr rfl
theorem it1_exit (lf : Nat) (f : St → Option (Ex × St)) (i : Nat) (s : St) : it1 lf f (some (.exit i, s)) = some (.exit i, s) := nr rfl
theorem it1_goto (lf : Nat) (f : St → Option (Ex × St)) (i : Nat) (s : St) : it1 lf f (some (.goto i, s)) = some (.goto i, s) := nr rfl
theorem it1_ret (lf : Nat) (f : St → Option (Ex × St)) (s : St) : it1 lf f (some (.ret, s)) = some (.ret, s) := nr rfl
theorem it1_ite (lf : Nat) (f : St → Option (Ex × St)) (c : Prop) [Decidable c] (x y : Option (Ex × St)) : it1 lf f (if c then x else y) = if c then it1 lf f x else it1 lf f y := by split <;> rfl
theorem it1_congr {lf : Nat} {f : St → Option (Ex × St)} {r r' : Option (Ex × St)} (h : r = r') : it1 lf f r = it1 lf f r' := by rw [h]
theorem iter_congr {n : Nat} {f : St → Option (Ex × St)} {s t : St} (h : s = t) : iter n f s = iter n f t := by rw [h]

theorem iter_one {f : St → Option (Ex × St)} {n : Nat} {s : St} : iter (n + 1) f s = it1 n f (f s) := by
  simp only [iter, it1]
  rcases f s with _ | ⟨x, s⟩
  · rfl
  · cases x <;> rfl

/-- A loop, run to its last turn: the states by the number of the turn. -/
theorem iter_run {f : St → Option (Ex × St)} (S : Nat → St) (n : Nat) {lf : Nat} {s0 : St} (h0 : s0 = S 0) (hn : n < lf)
    (step : ∀ k, k < n → f (S k) = some (.normal, S (k + 1))) : iter lf f s0 = it1 (lf - n - 1) f (f (S n)) := by
  have key : ∀ d k l, k + d = n → d < l → iter l f (S k) = it1 (l - d - 1) f (f (S n)) := by
    intro d
    induction d with
    | zero =>
      intro k l hk hl
      obtain ⟨l, rfl⟩ : ∃ m, l = m + 1 := ⟨l - 1, by omega⟩
      obtain rfl : k = n := by omega
      rw [iter_one]; rfl
    | succ d ih =>
      intro k l hk hl
      obtain ⟨l, rfl⟩ : ∃ m, l = m + 1 := ⟨l - 1, by omega⟩
      rw [iter_one, step k (by omega), it1_normal, ih (k + 1) l (by omega) (by omega)]
      congr 1; omega
  subst h0
  exact key n 0 lf (by omega) hn

theorem lt_loopFuel {n : Nat} (h : n < 1000000) : n < loopFuel := by unfold loopFuel; omega

theorem wrap_id {n : Int} (h : -9223372036854775808 ≤ n ∧ n ≤ 9223372036854775807) : IntKind.i64.wrap n = n := IntWalk.i64_in _ (by omega)
theorem wrap_succ (k : Nat) (h : k < 9223372036854775807) : IntKind.i64.wrap ((k : Int) + 1) = ((k + 1 : Nat) : Int) := by
  rw [IntWalk.i64_in _ (by omega)]; omega

/-! Scopes and labels. -/
theorem joinB_nn : joinB none none = some none := nr rfl
theorem joinB_rn (b : Bk) : joinB (some b) none = some (some b) := by cases b <;> rfl
theorem joinB_nr (b : Bk) : joinB none (some b) = some (some b) := by cases b <;> rfl
def jfuel : Nat := 18446744073709551615
theorem evC_scope (E : Env) (call : Nat → List V → Option V) (fn : Nat) (s : St) (c : Code) : evC E call fn loopFuel (.scope c) s = jumps (jfuel + 1) (fun l s => evL E call fn loopFuel c l s) (hasLab c) (evC E call fn loopFuel c s) := by
  simp only [evC]; rfl
section
variable (n : Nat) (f : Nat → St → Option (Ex × St)) (h : Nat → Bool)
theorem jumps_normal (s : St) : jumps (n + 1) f h (some (.normal, s)) = some (.normal, s) := nr rfl
theorem jumps_exit (i : Nat) (s : St) : jumps (n + 1) f h (some (.exit i, s)) = some (.exit i, s) := nr rfl
theorem jumps_ret (s : St) : jumps (n + 1) f h (some (.ret, s)) = some (.ret, s) := nr rfl
theorem jumps_ite (c : Prop) [Decidable c] (x y : Option (Ex × St)) : jumps n f h (if c then x else y) = if c then jumps n f h x else jumps n f h y := by split <;> rfl
theorem jumps_congr {r r' : Option (Ex × St)} (e : r = r') : jumps n f h r = jumps n f h r' := by rw [e]
theorem jumps_goto (l : Nat) (s : St) : jumps (n + 1) f h (some (.goto l, s)) = if h l = true then jumps n f h (f l s) else some (.goto l, s) := nr rfl
end
/-- A label to which one comes back: the states by the number of the turn. -/
theorem jumps_run {f : Nat → St → Option (Ex × St)} {h : Nat → Bool} (l : Nat) (S : Nat → St) (n : Nat) {r0 : Option (Ex × St)} (h0 : r0 = some (.goto l, S 0)) (hl : h l = true) (hn : n < 1000000)
    (step : ∀ k, k < n → f l (S k) = some (.goto l, S (k + 1))) : jumps (jfuel + 1) f h r0 = jumps (jfuel - n - 1 + 1) f h (f l (S n)) := by
  have key : ∀ d k m, k + d = n → jumps (m + d + 1) f h (some (.goto l, S k)) = jumps m f h (f l (S n)) := by
    intro d
    induction d with
    | zero => intro k m hk; obtain rfl : k = n := by omega
              rw [jumps_goto, if_pos hl]
    | succ d ih =>
      intro k m hk
      rw [show m + (d + 1) + 1 = (m + d + 1) + 1 by omega, jumps_goto, if_pos hl, step k (by omega), ih (k + 1) m (by omega)]
  rw [h0, show jfuel + 1 = (jfuel - n - 1 + 1) + n + 1 by unfold jfuel; omega, key n 0 _ (by omega)]
theorem hasLab_seq (a b : Code) (l : Nat) : hasLab (.seq a b) l = (hasLab a l || hasLab b l) := by
  unfold hasLab; rw [findLabel]; cases findLabel a l <;> rfl
theorem hasLab_label (l' l : Nat) : hasLab (.label l') l = (l' == l) := by
  unfold hasLab; rw [findLabel]; cases l' == l <;> rfl
theorem hasLab_region (i : Nat) (o : Array Oper) (d : Bool) (l : Nat) : hasLab (.region i o d) l = false := nr rfl
theorem hasLab_cond (c : Operand) (a b : Code) (l : Nat) : hasLab (.cond c a b) l = false := nr rfl
theorem hasLab_block (i : Nat) (a : Code) (l : Nat) : hasLab (.block i a) l = false := nr rfl
theorem hasLab_loop (a : Code) (l : Nat) : hasLab (.loop a) l = false := nr rfl
theorem hasLab_scope (a : Code) (l : Nat) : hasLab (.scope a) l = false := nr rfl
theorem hasLab_skip (l : Nat) : hasLab .skip l = false := nr rfl
theorem hasLab_ret (l : Nat) : hasLab .ret l = false := nr rfl
theorem hasLab_goto (i l : Nat) : hasLab (.goto i) l = false := nr rfl
theorem hasLab_exit (i l : Nat) : hasLab (.exit i) l = false := nr rfl
theorem evL_seq (E : Env) (call : Nat → List V → Option V) (fn lf : Nat) (a b : Code) (l : Nat) (s : St) : evL E call fn lf (.seq a b) l s = if hasLab a l = true then sq (evL E call fn lf a l s) (evC E call fn lf b) else evL E call fn lf b l s := by
  simp only [evL]
theorem evL_label (E : Env) (call : Nat → List V → Option V) (fn lf : Nat) (l' l : Nat) (s : St) : evL E call fn lf (.label l') l s = if l' = l then some (.normal, s) else none := by
  simp only [evL]

def upto {α : Type} (f : Nat → α → α) (a : α) : Nat → α
  | 0 => a
  | n + 1 => f n (upto f a n)

/-- What holds turn by turn. -/
theorem upto_ind {α : Type} {f : Nat → α → α} {a : α} (p : Nat → α → Prop) (h0 : p 0 a) {n : Nat} (hs : ∀ k x, k < n → p k x → p (k + 1) (f k x)) : ∀ k, k ≤ n → p k (upto f a k)
  | 0, _ => h0
  | k + 1, h => hs k _ (by omega) (upto_ind p h0 hs k (by omega))

section
variable (E : Env) (t : Nat)
theorem evBin_eqD {x y : D} (hx : ∀ v, x ≠ .s v) : evBin E .eql t (.d x) (.d y) = ob (E.ty t) fun ty => if ty.eq = true ∧ x.shape = ty.sh ∧ y.shape = ty.sh then some (.d (.s (.bool (x.eqv y)))) else none := by
  cases x with
  | s v => exact absurd rfl (hx v)
  | _ => rfl
theorem evBin_neD {x y : D} (hx : ∀ v, x ≠ .s v) : evBin E .neq t (.d x) (.d y) = ob (E.ty t) fun ty => if ty.eq = true ∧ x.shape = ty.sh ∧ y.shape = ty.sh then some (.d (.s (.bool (!(x.eqv y))))) else none := by
  cases x with
  | s v => exact absurd rfl (hx v)
  | _ => rfl
theorem evBin_eqA (n : Nat) (sh : Sh) (f : Nat → D) (y : D) : evBin E .eql t (.d (.arr n sh f)) (.d y) = ob (E.ty t) fun ty => if ty.eq = true ∧ (D.arr n sh f).shape = ty.sh ∧ y.shape = ty.sh then some (.d (.s (.bool ((D.arr n sh f).eqv y)))) else none := evBin_eqD E t (fun v h => by cases h)
theorem evBin_neA (n : Nat) (sh : Sh) (f : Nat → D) (y : D) : evBin E .neq t (.d (.arr n sh f)) (.d y) = ob (E.ty t) fun ty => if ty.eq = true ∧ (D.arr n sh f).shape = ty.sh ∧ y.shape = ty.sh then some (.d (.s (.bool (!((D.arr n sh f).eqv y))))) else none := evBin_neD E t (fun v h => by cases h)
theorem evBin_eqC (a b y : D) : evBin E .eql t (.d (.cons a b)) (.d y) = ob (E.ty t) fun ty => if ty.eq = true ∧ (D.cons a b).shape = ty.sh ∧ y.shape = ty.sh then some (.d (.s (.bool ((D.cons a b).eqv y)))) else none := evBin_eqD E t (fun v h => by cases h)
theorem evBin_neC (a b y : D) : evBin E .neq t (.d (.cons a b)) (.d y) = ob (E.ty t) fun ty => if ty.eq = true ∧ (D.cons a b).shape = ty.sh ∧ y.shape = ty.sh then some (.d (.s (.bool (!((D.cons a b).eqv y))))) else none := evBin_neD E t (fun v h => by cases h)
end

def cdb (b : Option Bk) (r : Bool) : Bool := match b with | none => r | some _ => false
theorem cdb_none (r : Bool) : cdb none r = r := nr rfl
theorem cdb_some (b : Bk) (r : Bool) : cdb (some b) r = false := nr rfl
theorem clearD_nil (s : St) : clearD s [] = true := nr rfl
theorem clearD_cons0 (s : St) (op : Op) (t : Nat) (p : String) (a : Array Edge) (g : Option (Nat × Bool)) (r : List Oper) : clearD s (⟨none, op, t, p, a, g⟩ :: r) = clearD s r := nr rfl
theorem clearD_cons1 (s : St) (d : Nat) (op : Op) (t : Nat) (p : String) (a : Array Edge) (g : Option (Nat × Bool)) (r : List Oper) : clearD s (⟨some d, op, t, p, a, g⟩ :: r) = cdb (s.m d) (clearD s r) := by
  simp only [clearD, cdb]; cases s.m d <;> rfl

def setN {α : Type} (l : Nat → α) (k : Nat) (v : α) : Nat → α := fun i => if i = k then v else l i
theorem setN_eq {α : Type} (l : Nat → α) (k : Nat) (v : α) : setN l k v k = v := by simp [setN]
theorem setN_ne {α : Type} (l : Nat → α) {k i : Nat} (v : α) (h : i ≠ k) : setN l k v i = l i := by simp [setN, h]
theorem D.set_arr' (n : Nat) (sh : Sh) (f : Nat → D) (i : Nat) (p : List Nat) (v : D) : (D.arr n sh f).set (i :: p) v = .arr n sh (setN f i ((f i).set p v)) :=
  congrArg (D.arr n sh) (funext fun j => by by_cases h : j = i <;> simp [setN, h])
theorem setN_int (k : IntKind) (l : Nat → Int) (i : Nat) (v : Int) : setN (fun i => D.s (.int k (l i))) i (.s (.int k v)) = fun j => D.s (.int k (setN l i v j)) :=
  funext fun j => by by_cases h : j = i <;> simp [setN, h]

def onAgg {α : Type} (k : Kd) (x : Option α) : Option α := match k with | .arr _ _ => x | .str _ => x | _ => none
theorem onAgg_arr {α : Type} (n e : Nat) (x : Option α) : onAgg (.arr n e) x = x := nr rfl
theorem onAgg_str {α : Type} (l : List Nat) (x : Option α) : onAgg (.str l) x = x := nr rfl
theorem fillD_nil (E : Env) (s : St) (sh : Sh) (z : D) : fillD E s sh [] z = some z := nr rfl
theorem fillD_cons (E : Env) (s : St) (sh : Sh) (i : Nat) (x : Operand) (r : List (Nat × Operand)) (z : D) : fillD E s sh ((i, x) :: r) z = ob (opd E 0 s x) fun v => ob v.dat fun v => if sh.sub [i] = some v.shape then fillD E s sh r (z.set [i] v) else none := nr rfl
theorem fillL_nil (E : Env) (s : St) (sh : Sh) (z : List D) : fillL E s sh [] z = some z := nr rfl
theorem fillL_cons (E : Env) (s : St) (sh : Sh) (i : Nat) (x : Operand) (r : List (Nat × Operand)) (z : List D) : fillL E s sh ((i, x) :: r) z = ob (opd E 0 s x) fun v => ob v.dat fun v => if i < z.length ∧ v.shape = sh then fillL E s sh r (z.set i v) else none := nr rfl
theorem evBuild_eq (E : Env) (s : St) (t : Nat) (parts : List (Nat × Operand)) : evBuild E s t parts = ob (E.ty t) fun ty => onAgg ty.kd (ob (fillD E s ty.sh parts ty.zero) fun z => some (.d z)) := by
  unfold evBuild
  refine congrArg (ob (E.ty t)) (funext fun ty => ?_)
  cases ty.kd <;> rfl
theorem evBuildSlice_eq (E : Env) (s : St) (k t len : Nat) (parts : List (Nat × Operand)) : evBuildSlice E s k t len parts = ob (E.ty t) fun ty => onSlice ty.kd fun e => ob (E.ty e) fun te =>
      if len ≤ 1000 ∧ len * te.sh.size ≤ 1000 then ob (fillL E s te.sh parts (List.replicate len te.zero)) fun es => some (.sl (.tg k) te.sh es, some .row) else none := by
  unfold evBuildSlice
  refine congrArg (ob (E.ty t)) (funext fun ty => ?_)
  cases ty.kd <;> rfl
theorem evAppend_tg (E : Env) (s : St) (k t t' k' : Nat) (sh sh' : Sh) (es es' : List D) (o : Own) : evAppend E s k t t' (.sl (.tg k') sh es) (.sl o sh' es') = ob (E.ty t) fun ty => onSlice ty.kd fun e => ob (E.ty e) fun te =>
      if t = t' ∧ te.sh = sh ∧ sh' = sh ∧ 0 < sh.size then
        if (es.length + es'.length) * te.bytes ≤ 140737488355328 ∧ es.length + es'.length ≤ maxLen then some { t := upd (fun i => (s.t i).kill k') k (.sl (.tg k') sh (es ++ es')), m := s.m } else none
      else none := by
  unfold evAppend
  refine congrArg (ob (E.ty t)) (funext fun ty => ?_)
  cases ty.kd <;> rfl
theorem evAppend_nil (E : Env) (s : St) (k t t' : Nat) (sh sh' : Sh) (es es' : List D) (o : Own) : evAppend E s k t t' (.sl .nil sh es) (.sl o sh' es') = ob (E.ty t) fun ty => onSlice ty.kd fun e => ob (E.ty e) fun te =>
      if t = t' ∧ te.sh = sh ∧ sh' = sh ∧ 0 < sh.size then
        if (es.length + es'.length) * te.bytes ≤ 140737488355328 ∧ es.length + es'.length ≤ maxLen then some (s.app (some k) (.sl (.tg k) sh (es ++ es')) (some .row)) else none
      else none := by
  unfold evAppend
  refine congrArg (ob (E.ty t)) (funext fun ty => ?_)
  cases ty.kd <;> rfl

def onBool {α : Type} (k : Kd) (x : Option α) : Option α := match k with | .bool => x | _ => none
theorem onBool_bool {α : Type} (x : Option α) : onBool .bool x = x := nr rfl
theorem evBin_eqB (E : Env) (t : Nat) (a b : Bool) : evBin E .eql t (.d (.s (.bool a))) (.d (.s (.bool b))) = ob (E.ty t) fun ty => onBool ty.kd (some (.d (.s (.bool (a == b))))) := by
  simp only [evBin]
  cases E.ty t with
  | none => rfl
  | some ty => obtain ⟨_, _, k, _, _⟩ := ty; cases k <;> rfl
theorem evBin_neB (E : Env) (t : Nat) (a b : Bool) : evBin E .neq t (.d (.s (.bool a))) (.d (.s (.bool b))) = ob (E.ty t) fun ty => onBool ty.kd (some (.d (.s (.bool (!(a == b)))))) := by
  simp only [evBin]
  cases E.ty t with
  | none => rfl
  | some ty => obtain ⟨_, _, k, _, _⟩ := ty; cases k <;> rfl
theorem evBin_rem (E : Env) (t : Nat) (k : IntKind) (a b : Int) (h : b ≠ 0) : evBin E .rem t (.d (.s (.int k a))) (.d (.s (.int k b))) = some (.d (.s (.int k (a.tmod b)))) := by
  simp [evBin, scal, binOp_rem, Op.intDiv, h, Value.oneCell', Pure.pure]
theorem evBin_quo (E : Env) (t : Nat) (k : IntKind) (a b : Int) (h : b ≠ 0) : evBin E .quo t (.d (.s (.int k a))) (.d (.s (.int k b))) = some (.d (.s (.int k (k.wrap (a.tdiv b))))) := by
  simp [evBin, scal, binOp_quo, Op.intDiv, h, Value.oneCell', Pure.pure]

/-! Sixteen numbers. -/
abbrev arr16 (l : Nat → Int) : D := .arr 16 (.cell (.int .i64)) fun i => .s (.int .i64 (l i))

def intOf : D → Int
  | .s (.int _ n) => n
  | _ => 0

theorem of_cell {x : D} {k : IntKind} (h : x.shape = .cell (.int k)) : x = .s (.int k (intOf x)) := by
  cases x with
  | s v => simp only [D.shape, Sh.cell.injEq] at h; cases v <;> simp [ck] at h; subst h; rfl
  | _ => simp [D.shape] at h

theorem of_arr {x : D} {n : Nat} {sh : Sh} (h : x.shape = .arr n sh) (hw : x.WF) : ∃ f : Nat → D, x = .arr n sh f ∧ ∀ i, (f i).WF ∧ (f i).shape = sh := by
  cases x with
  | arr m s f => simp only [D.shape, Sh.arr.injEq] at h; obtain ⟨rfl, rfl⟩ := h; exact ⟨f, rfl, hw⟩
  | _ => simp [D.shape] at h

theorem of_cons {x : D} {a b : Sh} (h : x.shape = .cons a b) : ∃ y z, x = .cons y z ∧ y.shape = a ∧ z.shape = b := by
  cases x with
  | cons y z => simp only [D.shape, Sh.cons.injEq] at h; exact ⟨y, z, rfl, h.1, h.2⟩
  | _ => simp [D.shape] at h

theorem of_nil {x : D} (h : x.shape = .nil) : x = .nil := by
  cases x with
  | nil => rfl
  | _ => simp [D.shape] at h

theorem of_arr16 {x : D} (h : x.shape = .arr 16 (.cell (.int .i64))) (hw : x.WF) : ∃ l : Nat → Int, x = arr16 l := by
  obtain ⟨f, rfl, hf⟩ := of_arr h hw
  exact ⟨fun i => intOf (f i), congrArg (D.arr 16 _) (funext fun i => of_cell (hf i).2)⟩

theorem arr16_eqv (l m : Nat → Int) : (D.arr 16 (.cell (.int .i64)) fun i => .s (.int .i64 (l i))).eqv (.arr 16 (.cell (.int .i64)) fun i => .s (.int .i64 (m i))) = (List.range 16).all fun i => l i == m i := nr rfl
end Go.Proofs.YtjceimcepogkaaaGreatDoor.Ev
