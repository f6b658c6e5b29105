/-
  The evaluator's equations, one a kind of operation: what a symbolic run by simp goes by.
-/
import Derived.Test.YtjceimcepogkaaaGreatDoorEvB
namespace Go.Proofs.YtjceimcepogkaaaGreatDoor.Ev
open Go

/-- An equation that simp is to take as a step of its own, not as a thing to be reckoned again. -/
theorem nr {α : Sort _} {a b : α} (h : a = b) : a = b := h

theorem ob_some' {α β : Type} (a : α) (f : α → Option β) : ob (some a) f = f a := nr rfl
theorem ob_none' {α β : Type} (f : α → Option β) : ob none f = none := nr rfl
/- Joints for what a block, or a type, is: what stands behind them is looked at only once it is known. -/
def onBox {α : Type} (b : Bk) (f : D → Option α) : Option α := match b with | .box x => f x | .row => none
theorem onBox_box {α : Type} (x : D) (f : D → Option α) : onBox (.box x) f = f x := nr rfl
theorem onBox_row {α : Type} (f : D → Option α) : onBox .row f = none := nr rfl
def onArr {α : Type} (k : Kd) (f : Nat → Nat → Option α) : Option α := match k with | .arr n e => f n e | _ => none
theorem onArr_arr {α : Type} (n e : Nat) (f : Nat → Nat → Option α) : onArr (.arr n e) f = f n e := nr rfl
def onSlice {α : Type} (k : Kd) (f : Nat → Option α) : Option α := match k with | .slice e => f e | _ => none
theorem onSlice_slice {α : Type} (e : Nat) (f : Nat → Option α) : onSlice (.slice e) f = f e := nr rfl
def onStr {α : Type} (k : Kd) (x : Option α) : Option α := match k with | .str _ => x | _ => none
theorem onStr_str {α : Type} (l : List Nat) (x : Option α) : onStr (.str l) x = x := nr rfl
def onInt {α : Type} (k : Kd) (f : IntKind → Option α) : Option α := match k with | .int e => f e | _ => none
theorem onInt_int {α : Type} (e : IntKind) (f : IntKind → Option α) : onInt (.int e) f = f e := nr rfl
def onNum {α : Type} (k : Kd) (f : IntKind → Option α) (g : FloatKind → Option α) : Option α := match k with | .int e => f e | .float e => g e | _ => none
theorem onNum_int {α : Type} (e : IntKind) (f : IntKind → Option α) (g : FloatKind → Option α) : onNum (.int e) f g = f e := nr rfl
theorem onNum_float {α : Type} (e : FloatKind) (f : IntKind → Option α) (g : FloatKind → Option α) : onNum (.float e) f g = g e := nr rfl
def onFloat {α : Type} (k : Kd) (f : FloatKind → Option α) : Option α := match k with | .float e => f e | _ => none
theorem onFloat_float {α : Type} (e : FloatKind) (f : FloatKind → Option α) : onFloat (.float e) f = f e := nr rfl
/- Numbers of 64 bits. -/
def flt (a b : Nat) : Bool := Ieee.double.order a b == some .lt
def fle (a b : Nat) : Bool := Ieee.double.order a b == some .lt || Ieee.double.order a b == some .eq
def feq (a b : Nat) : Bool := Ieee.double.order a b == some .eq
def fAdd (a b : Nat) : Option V := ob (Ieee.double.add a b) fun r => some (.d (.s (.float .f64 r)))
def fSub (a b : Nat) : Option V := ob (Ieee.double.sub a b) fun r => some (.d (.s (.float .f64 r)))
def fMul (a b : Nat) : Option V := ob (Ieee.double.mul a b) fun r => some (.d (.s (.float .f64 r)))
def fDiv (a b : Nat) : Option V := ob (Ieee.double.div a b) fun r => some (.d (.s (.float .f64 r)))
def dstAt : List Oper → Nat → Option Nat
  | [], _ => none
  | o :: _, 0 => o.dst
  | _ :: r, j + 1 => dstAt r j
theorem dstAt_zero (d : Option Nat) (op : Op) (t : Nat) (p : String) (a : Array Edge) (g : Option (Nat × Bool)) (r : List Oper) : dstAt (⟨d, op, t, p, a, g⟩ :: r) 0 = d := nr rfl
theorem dstAt_succ (o : Oper) (r : List Oper) (j : Nat) : dstAt (o :: r) (j + 1) = dstAt r j := nr rfl
theorem dstAt_eq : ∀ (l : List Oper) (j : Nat), (l[j]?).bind (·.dst) = dstAt l j
  | [], _ => rfl
  | _ :: _, 0 => rfl
  | _ :: r, j + 1 => by rw [List.getElem?_cons_succ]; exact dstAt_eq r j
def gdAt (o : Option Nat) (z : Option St) (f : Nat → Option St) : Option St := match o with | none => z | some k => f k
theorem gdAt_some (k : Nat) (z : Option St) (f : Nat → Option St) : gdAt (some k) z f = f k := nr rfl
theorem resX_normal (E : Env) (rs : List ResultVar) (s : St) : resX E rs (some (.normal, s)) = resF E s rs := nr rfl
theorem resX_ret (E : Env) (rs : List ResultVar) (s : St) : resX E rs (some (.ret, s)) = resF E s rs := nr rfl
theorem resF_one (E : Env) (s : St) (r : ResultVar) : resF E s [r] = res1 E s r := nr rfl
theorem resF_two (E : Env) (s : St) (r q : ResultVar) (l : List ResultVar) : resF E s (r :: q :: l) = resL E s (r :: q :: l) := nr rfl
theorem resF_nil (E : Env) (s : St) : resF E s [] = some .tnil := nr rfl
theorem resL_nil (E : Env) (s : St) : resL E s [] = some .tnil := nr rfl
theorem resL_cons (E : Env) (s : St) (r : ResultVar) (l : List ResultVar) : resL E s (r :: l) = ob (res1 E s r) fun a => ob (resL E s l) fun b => some (.tcons a b) := nr rfl
theorem res1_tmp (E : Env) (s : St) (t : Nat) : res1 E s (.tmp t) = resV s.m (s.t t) := nr rfl
theorem res1_cell (E : Env) (s : St) (a t : Nat) : res1 E s (.cell a t) = evLoad E s.m t (s.t a) := nr rfl
theorem resV_d (m : Nat → Option Bk) (x : D) : resV m (.d x) = some (.d x) := nr rfl
theorem resV_nil (m : Nat → Option Bk) (sh : Sh) (es : List D) : resV m (.sl .nil sh es) = some (.sl .ro sh es) := nr rfl
theorem resV_tg (m : Nat → Option Bk) (k : Nat) (sh : Sh) (es : List D) : resV m (.sl (.tg k) sh es) = some (.sl .ro sh es) := nr rfl
theorem resV_clos0 (m : Nat → Option Bk) (g : Nat) : resV m (.clos g .tnil) = some (.clos g .tnil) := nr rfl
theorem resV_clos1 (m : Nat → Option Bk) (g k : Nat) (sh : Sh) (p : List Nat) (u : Sh) : resV m (.clos g (.tcons (.ptr k sh p u) .tnil)) = ob (m k) fun b => onBox b fun x => some (.clos g (.tcons (.ep .ro u (x.get p)) .tnil)) := nr rfl
theorem enter_eq (vs : List V) : enter vs = ⟨tab .undef (frame 0 vs), tab none []⟩ := nr rfl
theorem toList_lit {α : Type} (l : List α) : l.toArray.toList = l := nr rfl

theorem sq_normal (s : St) (f : St → Option (Ex × St)) : sq (some (.normal, s)) f = f s := nr rfl
theorem sq_exit (i : Nat) (s : St) (f : St → Option (Ex × St)) : sq (some (.exit i, s)) f = some (.exit i, s) := nr rfl
theorem sq_goto (i : Nat) (s : St) (f : St → Option (Ex × St)) : sq (some (.goto i, s)) f = some (.goto i, s) := nr rfl
theorem sq_ret (s : St) (f : St → Option (Ex × St)) : sq (some (.ret, s)) f = some (.ret, s) := nr rfl
theorem sq_none (f : St → Option (Ex × St)) : sq none f = none := nr rfl
theorem sq_ite (c : Prop) [Decidable c] (x y : Option (Ex × St)) (f : St → Option (Ex × St)) : sq (if c then x else y) f = if c then sq x f else sq y f := by split <;> rfl
theorem sq_congr {x y : Option (Ex × St)} {f : St → Option (Ex × St)} (h : x = y) : sq x f = sq y f := by rw [h]
theorem bkx_normal (i : Nat) (s : St) : bkx i (some (.normal, s)) = some (.normal, s) := nr rfl
theorem bkx_exit (i j : Nat) (s : St) : bkx i (some (.exit j, s)) = if j = i then some (.normal, s) else some (.exit j, s) := nr rfl
theorem bkx_goto (i j : Nat) (s : St) : bkx i (some (.goto j, s)) = some (.goto j, s) := nr rfl
theorem bkx_ret (i : Nat) (s : St) : bkx i (some (.ret, s)) = some (.ret, s) := nr rfl
theorem bkx_none (i : Nat) : bkx i none = none := nr rfl
theorem bkx_ite (i : Nat) (c : Prop) [Decidable c] (x y : Option (Ex × St)) : bkx i (if c then x else y) = if c then bkx i x else bkx i y := by split <;> rfl
theorem cd_bool {α : Type} (b : Bool) (x y : Option α) : cd (some (.d (.s (.bool b)))) x y = if b = true then x else y := by cases b <;> rfl
theorem cd_congr {α : Type} {v w : Option V} {x y : Option α} (h : v = w) : cd v x y = cd w x y := by rw [h]
theorem ite_congr1 {α : Type} {b c : Prop} {_ : Decidable b} [Decidable c] {x y : α} (h : b = c) : (if b then x else y) = (if c then x else y) := by subst h; congr
theorem fgt_eq (b : List Nat × List Nat) (r : Option (Ex × St)) : fgt b r = sq r fun s => ob (s.forget b) fun s => some (.normal, s) := nr rfl

def dpq (l : List (Nat × Nat)) (s : St) : Option (Ex × St) := if (l.all fun p => (s.t p.1).keyNe (s.t p.2)) = true then some (.normal, s) else none
theorem dpq_nil (s : St) : dpq [] s = some (.normal, s) := nr rfl
theorem dpq_cons (a b : Nat) (l : List (Nat × Nat)) (s : St) : dpq ((a, b) :: l) s = if (s.t a).keyNe (s.t b) = true then dpq l s else none := by
  unfold dpq; rw [List.all_cons]; cases (s.t a).keyNe (s.t b) <;> rfl
theorem keyNe_ptr (k k' : Nat) (sh sh' : Sh) (p p' : List Nat) (u u' : Sh) : V.keyNe (.ptr k sh p u) (.ptr k' sh' p' u') = (k != k') := nr rfl
theorem keyNe_d (k : Nat) (sh : Sh) (p : List Nat) (u : Sh) (x : D) : V.keyNe (.ptr k sh p u) (.d x) = true := nr rfl
theorem keyNe_sl (k : Nat) (sh sh' : Sh) (p : List Nat) (u : Sh) (o : Own) (es : List D) : V.keyNe (.ptr k sh p u) (.sl o sh' es) = true := nr rfl
theorem keyNe_clos (k g : Nat) (sh : Sh) (p : List Nat) (u : Sh) (c : V) : V.keyNe (.ptr k sh p u) (.clos g c) = !c.has k := nr rfl
theorem keyNe_ms (k : Nat) (sh : Sh) (p : List Nat) (u : Sh) (k' n : Nat) (u' : Sh) : V.keyNe (.ptr k sh p u) (.ms k' n u') = true := nr rfl
theorem keyNe_undef (k : Nat) (sh : Sh) (p : List Nat) (u : Sh) : V.keyNe (.ptr k sh p u) .undef = true := nr rfl
theorem keyNe_ep (k : Nat) (sh sh' : Sh) (p : List Nat) (u : Sh) (o : Own) (x : D) : V.keyNe (.ptr k sh p u) (.ep o sh' x) = true := nr rfl

section
variable (E : Env) (call : Nat → List V → Option V) (fn lf : Nat) (s : St)
theorem evC_skip : evC E call fn lf .skip s = some (.normal, s) := by simp only [evC]
theorem evC_region (id : Nat) (ops : Array Oper) : evC E call fn lf (.region id ops false) s = ob (evOps E call ops.toList ops.toList s) fun s => some (.normal, s) := by simp only [evC]
theorem evC_regionD (id : Nat) (ops : Array Oper) : evC E call fn lf (.region id ops true) s = if clearD s ops.toList = true then ob (evOps E call ops.toList ops.toList s) fun s => dpq (E.dp fn id) s else none := by exact nr (by simp only [evC]; rfl)
theorem evC_seq (a b : Code) : evC E call fn lf (.seq a b) s = sq (evC E call fn lf a s) (evC E call fn lf b) := by simp only [evC]
theorem evC_cond (c : Operand) (a b : Code) : evC E call fn lf (.cond c a b) s = cd (opd E 4 s c) (evC E call fn lf a s) (evC E call fn lf b s) := by simp only [evC]
theorem evC_block (id : Nat) (c : Code) : evC E call fn lf (.block id c) s = bkx id (evC E call fn lf c s) := by simp only [evC]
theorem evC_exit (id : Nat) : evC E call fn lf (.exit id) s = some (.exit id, s) := by simp only [evC]
theorem evC_ret : evC E call fn lf .ret s = some (.ret, s) := by simp only [evC]
theorem evC_label (l : Nat) : evC E call fn lf (.label l) s = some (.normal, s) := by simp only [evC]
theorem evC_goto (l : Nat) : evC E call fn lf (.goto l) s = ob (s.forget (E.gl fn l)) fun s => some (.goto l, s) := by simp only [evC]
def loopB (c : Code) (b : List Nat × List Nat) (s : St) : Option (Ex × St) := fgt b (evC E call fn lf c s)
theorem loopB_eq (c : Code) (b : List Nat × List Nat) : loopB E call fn lf c b s = fgt b (evC E call fn lf c s) := nr rfl
theorem evC_loop (c : Code) : evC E call fn lf (.loop c) s = ob (s.forget (E.kl fn (rid c))) (iter lf (loopB E call fn lf c (E.kl fn (rid c)))) := by exact nr (by simp only [evC]; rfl)
theorem evOps_nil (ops : List Oper) : evOps E call ops [] s = some s := nr rfl
theorem evOps_cons (ops : List Oper) (o : Oper) (r : List Oper) : evOps E call ops (o :: r) s = ob (evG E call ops o s) (evOps E call ops r) := nr rfl
theorem evG_plain (ops : List Oper) (d : Option Nat) (op : Op) (t : Nat) (p : String) (a : Array Edge) : evG E call ops ⟨d, op, t, p, a, none⟩ s = evO E call d t s op := nr rfl
theorem evG_guard (ops : List Oper) (d : Option Nat) (op : Op) (t : Nat) (p : String) (a : Array Edge) (j : Nat) (w : Bool) :
    evG E call ops ⟨d, op, t, p, a, some (j, w)⟩ s = gdAt (dstAt ops j) (some (s.app d .undef none)) fun k => ob (gdB w (s.t k)) fun b => evGd E call d t s op b := by
  rw [← dstAt_eq]; rfl
theorem evGd_true (d : Option Nat) (t : Nat) (op : Op) : evGd E call d t s op true = evO E call d t s op := nr rfl
theorem evGd_false (d : Option Nat) (t : Nat) (op : Op) : evGd E call d t s op false = some (s.app d .undef none) := nr rfl

variable (d : Option Nat) (ty : Nat)
theorem evO_store (t : Nat) (a x : Operand) : evO E call none ty s (.store t a x) = ob (opd E 0 s a) fun a => ob (opd E 0 s x) fun x => evStore E s t a x := nr rfl
theorem evO_append (k t t' : Nat) (x y : Operand) : evO E call (some k) ty s (.call { callee := .builtin .append, args := #[x, y], argTypes := #[t, t'] }) =
    ob (opd E t s x) fun x => ob (opd E t s y) fun y => evAppend E s k t t' x y := nr rfl
def fin (s : St) (d : Option Nat) (v : Option (V × Option Bk)) : Option St := ob v fun v => some (s.app d v.1 v.2)
theorem fin_some (v : V) (b : Option Bk) : fin s d (some (v, b)) = some (s.app d v b) := nr rfl
theorem fin_ob {α : Type} (x : Option α) (f : α → Option (V × Option Bk)) : fin s d (ob x f) = ob x fun a => fin s d (f a) := by cases x <;> rfl
theorem fin_pure1 (v : Option V) : fin s d (pure1 v) = ob v fun v => some (s.app d v none) := by cases v <;> rfl
theorem evO_move (x : Operand) : evO E call d ty s (.move x) = fin s d (evMove E (d.getD 0) ty s x) := nr rfl
theorem evO_assign (x : Operand) : evO E call d ty s (.assign x) = fin s d (evMove E (d.getD 0) ty s x) := nr rfl
theorem evO_pick (c a b : Operand) : evO E call d ty s (.pick c a b) = ob (opd E 4 s c) fun c => ob (evPick c (opd E ty s a) (opd E ty s b)) fun v => some (s.app d v none) := by
  rw [show evO E call d ty s (.pick c a b) = fin s d (ob (opd E 4 s c) fun c => pure1 (evPick c (opd E ty s a) (opd E ty s b))) from rfl, fin_ob]; simp only [fin_pure1]
theorem evO_box (t : Nat) (x : Operand) : evO E call d ty s (.box t x) = ob (opd E 0 s x) fun x => ob x.dat fun x => some (s.app d (.ptr (d.getD 0) x.shape [] x.shape) (some (.box x))) := by
  rw [show evO E call d ty s (.box t x) = fin s d (ob (opd E 0 s x) fun x => ob x.dat fun x => some (.ptr (d.getD 0) x.shape [] x.shape, some (.box x))) from rfl, fin_ob]; simp only [fin_ob, fin_some]
theorem evO_alloc (t : Nat) : evO E call d ty s (.alloc t) = ob (E.ty t) fun u => some (s.app d (.ptr (d.getD 0) u.sh [] u.sh) (some (.box u.zero))) := by
  rw [show evO E call d ty s (.alloc t) = fin s d (ob (E.ty t) fun u => some (.ptr (d.getD 0) u.sh [] u.sh, some (.box u.zero))) from rfl, fin_ob]; simp only [fin_some]
theorem evO_load (t : Nat) (a : Operand) : evO E call d ty s (.load t a) = ob (opd E 0 s a) fun a => ob (evLoad E s.m t a) fun v => some (s.app d v none) := by
  rw [show evO E call d ty s (.load t a) = fin s d (ob (opd E 0 s a) fun a => pure1 (evLoad E s.m t a)) from rfl, fin_ob]; simp only [fin_pure1]
theorem evO_indexAddr (t : Nat) (x i : Operand) : evO E call d ty s (.indexAddr t x i) = ob (opd E 0 s x) fun x => ob (opd E 0 s i) fun i => ob (evIndexAddr E t x i) fun v => some (s.app d v none) := by
  rw [show evO E call d ty s (.indexAddr t x i) = fin s d (ob (opd E 0 s x) fun x => ob (opd E 0 s i) fun i => pure1 (evIndexAddr E t x i)) from rfl, fin_ob]; simp only [fin_ob, fin_pure1]
theorem evO_fieldAddr (t : Nat) (x : Operand) (j : Nat) : evO E call d ty s (.fieldAddr t x j) = ob (opd E 0 s x) fun x => ob (evFieldAddr E t j x) fun v => some (s.app d v none) := by
  rw [show evO E call d ty s (.fieldAddr t x j) = fin s d (ob (opd E 0 s x) fun x => pure1 (evFieldAddr E t j x)) from rfl, fin_ob]; simp only [fin_pure1]
theorem evO_index (t : Nat) (x i : Operand) : evO E call d ty s (.index t x i) = ob (opd E 0 s x) fun x => ob (opd E 0 s i) fun i => ob (evIndex E t x i) fun v => some (s.app d v none) := by
  rw [show evO E call d ty s (.index t x i) = fin s d (ob (opd E 0 s x) fun x => ob (opd E 0 s i) fun i => pure1 (evIndex E t x i)) from rfl, fin_ob]; simp only [fin_ob, fin_pure1]
theorem evO_field (t : Nat) (x : Operand) (j : Nat) : evO E call d ty s (.field t x j) = ob (opd E 0 s x) fun x => ob (evField E t j x) fun v => some (s.app d v none) := by
  rw [show evO E call d ty s (.field t x j) = fin s d (ob (opd E 0 s x) fun x => pure1 (evField E t j x)) from rfl, fin_ob]; simp only [fin_pure1]
theorem evO_extract (x : Operand) (j : Nat) : evO E call d ty s (.extract x j) = ob (opd E 0 s x) fun x => ob (nthV x j) fun v => some (s.app d v none) := by
  rw [show evO E call d ty s (.extract x j) = fin s d (ob (opd E 0 s x) fun x => pure1 (nthV x j)) from rfl, fin_ob]; simp only [fin_pure1]
theorem evO_build (t : Nat) (parts : Array (Nat × Operand)) : evO E call d ty s (.build t parts) = ob (evBuild E s t parts.toList) fun v => some (s.app d v none) := by
  rw [show evO E call d ty s (.build t parts) = fin s d (pure1 (evBuild E s t parts.toList)) from rfl, fin_pure1]
theorem evO_buildSlice (t len : Nat) (parts : Array (Nat × Operand)) : evO E call d ty s (.buildSlice t len parts) = fin s d (evBuildSlice E s (d.getD 0) t len parts.toList) := nr rfl
theorem evO_binOp (op : BinOp) (t t' : Nat) (x y : Operand) : evO E call d ty s (.binOp op t x y t') = ob (opd E 0 s x) fun x => ob (opd E 0 s y) fun y => ob (evBin E op t x y) fun v => some (s.app d v none) := by
  rw [show evO E call d ty s (.binOp op t x y t') = fin s d (ob (opd E 0 s x) fun x => ob (opd E 0 s y) fun y => pure1 (evBin E op t x y)) from rfl, fin_ob]; simp only [fin_ob, fin_pure1]
theorem evO_unOp (op : UnOp) (t : Nat) (x : Operand) : evO E call d ty s (.unOp op t x) = ob (opd E 0 s x) fun x => ob (evUn op x) fun v => some (s.app d v none) := by
  rw [show evO E call d ty s (.unOp op t x) = fin s d (ob (opd E 0 s x) fun x => pure1 (evUn op x)) from rfl, fin_ob]; simp only [fin_pure1]
theorem evO_convert (t t' : Nat) (x : Operand) : evO E call d ty s (.convert t t' x) = ob (opd E 0 s x) fun x => ob (evConv E t t' x) fun v => some (s.app d v none) := by
  rw [show evO E call d ty s (.convert t t' x) = fin s d (ob (opd E 0 s x) fun x => pure1 (evConv E t t' x)) from rfl, fin_ob]; simp only [fin_pure1]
theorem evO_len (x : Operand) (t : Nat) : evO E call d ty s (.call { callee := .builtin .len, args := #[x], argTypes := #[t] }) = ob (opd E 0 s x) fun x => ob (evLen E t x) fun v => some (s.app d v none) := by
  rw [show evO E call d ty s (.call { callee := .builtin .len, args := #[x], argTypes := #[t] }) = fin s d (pure1 (ob (opd E 0 s x) fun x => evLen E t x)) from rfl, fin_pure1]
  cases opd E 0 s x <;> rfl
theorem evO_max (x y : Operand) (ts : Array Nat) : evO E call d ty s (.call { callee := .builtin .max, args := #[x, y], argTypes := ts }) = ob (opd E 0 s x) fun x => ob (opd E 0 s y) fun y => ob (evMax x y) fun v => some (s.app d v none) := by
  rw [show evO E call d ty s (.call { callee := .builtin .max, args := #[x, y], argTypes := ts }) = fin s d (pure1 (ob (opd E 0 s x) fun x => ob (opd E 0 s y) fun y => evMax x y)) from rfl, fin_pure1]
  cases opd E 0 s x <;> cases opd E 0 s y <;> rfl
theorem evO_min (x y : Operand) (ts : Array Nat) : evO E call d ty s (.call { callee := .builtin .min, args := #[x, y], argTypes := ts }) = ob (opd E 0 s x) fun x => ob (opd E 0 s y) fun y => ob (evMin x y) fun v => some (s.app d v none) := by
  rw [show evO E call d ty s (.call { callee := .builtin .min, args := #[x, y], argTypes := ts }) = fin s d (pure1 (ob (opd E 0 s x) fun x => ob (opd E 0 s y) fun y => evMin x y)) from rfl, fin_pure1]
  cases opd E 0 s x <;> cases opd E 0 s y <;> rfl
def retF (s : St) (d : Option Nat) (r : V) : Option St := ob (retV (d.getD 0) r) fun v => some (s.app d v.1 v.2)
def rvb : Option Nat → Nat → Bool
  | some a, b => a == b
  | none, _ => false
theorem rvF_is (f : Nat) : (rvF == some f) = rvb (none) f := by
  unfold rvb rvF; first | rfl | simp
theorem rvb_some (a b : Nat) : rvb (some a) b = (a == b) := nr rfl
theorem rvb_none (b : Nat) : rvb none b = false := nr rfl
theorem evO_rev (f k : Nat) (x : Operand) (ts : Array Nat) (h2 : muF f = false) (h : (rvF == some f) = true) : evO E call (some k) ty s (.call { callee := .value (.func f), args := #[x], argTypes := ts }) = ob (opd E 0 s x) (evRev s k) := by
  simp only [evO, h2, plainS, h]
theorem evRev_eq (d k : Nat) (es : List D) : evRev s d (.sl (.tg k) (.cell (.int .i64)) es) = some { t := upd (fun i => rvV k es.length es.reverse (s.t i)) d .tnil, m := s.m } := by simp [evRev]
theorem rvV_d (k n : Nat) (es : List D) (x : D) : rvV k n es (.d x) = .d x := nr rfl
theorem rvV_ptr (k n : Nat) (es : List D) (k' : Nat) (sh : Sh) (p : List Nat) (u : Sh) : rvV k n es (.ptr k' sh p u) = (V.ptr k' sh p u).kill k := nr rfl
theorem rvV_nil (k n : Nat) (es : List D) (sh : Sh) (l : List D) : rvV k n es (.sl .nil sh l) = .sl .nil sh l := nr rfl
theorem rvV_ro (k n : Nat) (es : List D) (sh : Sh) (l : List D) : rvV k n es (.sl .ro sh l) = .sl .ro sh l := nr rfl
theorem rvV_tg (k n : Nat) (es : List D) (k' : Nat) (sh : Sh) (l : List D) : rvV k n es (.sl (.tg k') sh l) = if k' = k then (if sh = .cell (.int .i64) ∧ l.length = n then .sl (.tg k) sh es else .junk) else .sl (.tg k') sh l := nr rfl
theorem rvV_tcons (k n : Nat) (es : List D) (a b : V) : rvV k n es (.tcons a b) = (V.tcons a b).kill k := nr rfl
theorem rvV_tnil (k n : Nat) (es : List D) : rvV k n es .tnil = .tnil := nr rfl
theorem rvV_undef (k n : Nat) (es : List D) : rvV k n es .undef = .undef := nr rfl
theorem rvV_junk (k n : Nat) (es : List D) : rvV k n es .junk = .junk := nr rfl
theorem muF_is (f : Nat) : muF f = muB ([]) f := by unfold muF muL; rfl
theorem muB_nil (f : Nat) : muB [] f = false := nr rfl
theorem muB_cons (a : Nat) (l : List Nat) (f : Nat) : muB (a :: l) f = (a == f || muB l f) := nr rfl
theorem evO_call (f : Nat) (xs : Array Operand) (ts : Array Nat) (h2 : muF f = false) (h : (rvF == some f) = false) : evO E call d ty s (.call { callee := .value (.func f), args := xs, argTypes := ts }) =
    ob (args E s xs.toList) fun l => ob (call f l) fun r => retF s d r := by
  rw [show evO E call d ty s (.call { callee := .value (.func f), args := xs, argTypes := ts }) = fin s d (evP E call (d.getD 0) ty s (.call { callee := .value (.func f), args := xs, argTypes := ts })) by simp only [evO, h2, plainS, h]; rfl]
  rw [show fin s d (evP E call (d.getD 0) ty s (.call { callee := .value (.func f), args := xs, argTypes := ts })) = fin s d (ob (args E s xs.toList) fun l => if mutq f (l ++ []) = true then none else ob (call f (l ++ [])) fun r => retV (d.getD 0) r) from rfl, fin_ob]
  have e : ∀ l, mutq f l = false := fun l => mutq_no l h2
  simp only [e, Bool.false_eq_true, if_false, fin_ob, List.append_nil]; rfl
def callF (E : Env) (call : Nat → List V → Option V) (s : St) (d : Option Nat) (xs : List Operand) (f : Nat × V) : Option St := ob (args E s xs) fun l => if mutq f.1 (l ++ listV f.2) = true then none else ob (call f.1 (l ++ listV f.2)) fun r => retF s d r
theorem callF_eq (xs : List Operand) (g : Nat) (c : V) (h : muF g = false) : callF E call s d xs (g, c) = ob (args E s xs) fun l => ob (call g (l ++ listV c)) fun r => retF s d r := by
  have e : ∀ l, mutq g l = false := fun l => mutq_no l h
  simp only [callF, e, Bool.false_eq_true, if_false]
theorem listV_nil : listV .tnil = [] := nr rfl
theorem listV_cons (a b : V) : listV (.tcons a b) = a :: listV b := nr rfl
theorem fin_if (c : Prop) [Decidable c] (x y : Option (V × Option Bk)) : fin s d (if c then x else y) = if c then fin s d x else fin s d y := by split <;> rfl
theorem evO_callT (i : Nat) (xs : Array Operand) (ts : Array Nat) : evO E call d ty s (.call { callee := .value (.tmp i), args := xs, argTypes := ts }) =
    ob (callee s.m (s.t i)) (callF E call s d xs.toList) := by
  rw [show evO E call d ty s (.call { callee := .value (.tmp i), args := xs, argTypes := ts }) = fin s d (ob (callee s.m (s.t i)) fun f => ob (args E s xs.toList) fun l => if mutq f.1 (l ++ listV f.2) = true then none else ob (call f.1 (l ++ listV f.2)) fun r => retV (d.getD 0) r) from rfl, fin_ob]
  simp only [fin_ob, fin_if]; rfl
/- A call that writes through its first argument. -/
def mutT (E : Env) (call : Nat → List V → Option V) (d ty : Nat) (s : St) (g : Nat) (as : Array Operand) (ts : Array Nat) (o : Option St) : Option St := mutN E call d ty s (.call { callee := .value (.func g), args := as, argTypes := ts }) o
theorem mutT_some (d g : Nat) (as : Array Operand) (ts : Array Nat) (s' : St) : mutT E call d ty s g as ts (some s') = some s' := nr rfl
theorem mutT_none (d g : Nat) (as : Array Operand) (ts : Array Nat) : mutT E call d ty s g as ts none = callF E call s (some d) as.toList (g, .tnil) := by
  show fin s (some d) (ob (args E s as.toList) fun l => if mutq g (l ++ []) = true then none else ob (call g (l ++ [])) fun r => retV d r) = _
  rw [fin_ob]; simp only [fin_ob, fin_if]; rfl
def mutL (E : Env) (call : Nat → List V → Option V) (d ty : Nat) (s : St) (g : Nat) (as : Array Operand) (ts : Array Nat) : List Operand → Option St
  | x :: xs => ob (opd E 0 s x) fun v => ob (args E s xs) fun l => ob (evMut s (call g) l d v) (mutT E call d ty s g as ts)
  | [] => none
theorem mutL_cons (d g : Nat) (as : Array Operand) (ts : Array Nat) (x : Operand) (xs : List Operand) : mutL E call d ty s g as ts (x :: xs) = ob (opd E 0 s x) fun v => ob (args E s xs) fun l => ob (evMut s (call g) l d v) (mutT E call d ty s g as ts) := nr rfl
theorem evO_mut (f k : Nat) (xs : Array Operand) (ts : Array Nat) (h : muF f = true) : evO E call (some k) ty s (.call { callee := .value (.func f), args := xs, argTypes := ts }) = mutL E call k ty s f xs ts xs.toList := by
  simp only [evO, h, mutS]
  cases xs.toList <;> rfl
theorem plainL_nil : plainL [] = true := nr rfl
theorem plainL_cons (x : D) (l : List V) : plainL (.d x :: l) = plainL l := nr rfl
def onArrD {α : Type} (b : Bk) (f : Nat → Sh → (Nat → D) → Option α) : Option α := match b with | .box (.arr n u g) => f n u g | _ => none
theorem onArrD_arr {α : Type} (n : Nat) (u : Sh) (g : Nat → D) (f : Nat → Sh → (Nat → D) → Option α) : onArrD (.box (.arr n u g)) f = f n u g := nr rfl
def onArrV {α : Type} (v : V) (f : Nat → Sh → (Nat → D) → Option α) : Option α := match v with | .d (.arr n u g) => f n u g | _ => none
theorem onArrV_arr {α : Type} (n : Nat) (u : Sh) (g : Nat → D) (f : Nat → Sh → (Nat → D) → Option α) : onArrV (.d (.arr n u g)) f = f n u g := nr rfl
theorem evMut_ms (cl : List V → Option V) (l : List V) (d k n : Nat) (u : Sh) : evMut s cl l d (.ms k n u) = if plainL l = true then ob (s.m k) fun b => onArrD b fun n' u' f => ob (cl (.d (.arr n' u' f) :: l)) fun r => onArrV r fun m v g =>
    if n' = n ∧ u' = u ∧ m = n ∧ v = u then some (some { t := upd s.t d .tnil, m := upd s.m k (some (.box (.arr m v g))) }) else none else none := by
  simp only [evMut]
  split
  · refine congrArg (ob (s.m k)) (funext fun b => ?_)
    cases b with
    | row => rfl
    | box x =>
      cases x with
      | arr n' u' f =>
        refine congrArg (ob _) (funext fun r => ?_)
        cases r with
        | d x => cases x <;> rfl
        | _ => rfl
      | _ => rfl
  · rfl
theorem evMut_sl (cl : List V → Option V) (l : List V) (d k : Nat) (sh : Sh) (e : D) (es : List D) : evMut s cl l d (.sl (.tg k) sh (e :: es)) = if plainL l = true then ob (cl (.d (arrOf sh e (e :: es)) :: l)) fun r => onArrV r fun m v g =>
    if m = es.length + 1 ∧ v = sh then some (some { t := upd (fun i => muV k sh (es.length + 1) (listOf m g) (s.t i)) d .tnil, m := s.m }) else none else none := by
  simp only [evMut]
  split
  · refine congrArg (ob _) (funext fun r => ?_)
    cases r with
    | d x => cases x <;> rfl
    | _ => rfl
  · rfl
theorem evMut_nil (cl : List V → Option V) (l : List V) (d : Nat) (o : Own) (sh : Sh) : evMut s cl l d (.sl o sh []) = some none := by cases o <;> rfl
theorem evMut_ro (cl : List V → Option V) (l : List V) (d : Nat) (sh : Sh) (es : List D) : evMut s cl l d (.sl .ro sh es) = some none := nr rfl
theorem muV_d (k n : Nat) (sh : Sh) (es : List D) (x : D) : muV k sh n es (.d x) = .d x := nr rfl
theorem muV_ptr (k n : Nat) (sh : Sh) (es : List D) (k' : Nat) (sh' : Sh) (p : List Nat) (u : Sh) : muV k sh n es (.ptr k' sh' p u) = (V.ptr k' sh' p u).kill k := nr rfl
theorem muV_tg (k n : Nat) (sh : Sh) (es : List D) (k' : Nat) (sh' : Sh) (l : List D) : muV k sh n es (.sl (.tg k') sh' l) = if k' = k then (if sh' = sh ∧ l.length = n then .sl (.tg k) sh es else .junk) else .sl (.tg k') sh' l := nr rfl
theorem muV_ro (k n : Nat) (sh : Sh) (es : List D) (sh' : Sh) (l : List D) : muV k sh n es (.sl .ro sh' l) = .sl .ro sh' l := nr rfl
theorem muV_nil (k n : Nat) (sh : Sh) (es : List D) (sh' : Sh) (l : List D) : muV k sh n es (.sl .nil sh' l) = .sl .nil sh' l := nr rfl
theorem muV_undef (k n : Nat) (sh : Sh) (es : List D) : muV k sh n es .undef = .undef := nr rfl
theorem muV_junk (k n : Nat) (sh : Sh) (es : List D) : muV k sh n es .junk = .junk := nr rfl
theorem muV_tnil (k n : Nat) (sh : Sh) (es : List D) : muV k sh n es .tnil = .tnil := nr rfl
theorem muV_clos (k n : Nat) (sh : Sh) (es : List D) (g : Nat) (c : V) : muV k sh n es (.clos g c) = (V.clos g c).kill k := nr rfl
theorem muV_ms (k n : Nat) (sh : Sh) (es : List D) (k' n' : Nat) (u : Sh) : muV k sh n es (.ms k' n' u) = (V.ms k' n' u).kill k := nr rfl
theorem enterM_eq (nt n : Nat) (u : Sh) (x : D) (l : List V) : enterM nt n u x l = ⟨tab .undef ((0, .ms nt n u) :: frame 1 l), tab none [(nt, some (.box x))]⟩ := nr rfl
theorem resM_normal (nt : Nat) (s : St) : resM nt (some (.normal, s)) = ob (s.m nt) fun b => onBox b fun x => some (.d x) := by
  show resB nt s = _
  unfold resB; cases s.m nt with
  | none => rfl
  | some b => cases b <;> rfl
theorem resM_ret (nt : Nat) (s : St) : resM nt (some (.ret, s)) = ob (s.m nt) fun b => onBox b fun x => some (.d x) := by
  show resB nt s = _
  unfold resB; cases s.m nt with
  | none => rfl
  | some b => cases b <;> rfl
theorem evO_func (fn : Fn) (first caps : Array Operand) : evO E call d ty s (.makeFunc fn first caps) = ob (evFunc E s fn first.toList caps.toList) fun v => some (s.app d v none) := by
  rw [show evO E call d ty s (.makeFunc fn first caps) = fin s d (pure1 (evFunc E s fn first.toList caps.toList)) from rfl, fin_pure1]
theorem evFunc_eq (g : Nat) (caps : List Operand) : evFunc E s (.func g) [] caps = ob (capL E s caps) fun c => some (.clos g c) := nr rfl
theorem capL_nil : capL E s [] = some .tnil := nr rfl
theorem capL_cons (x : Operand) (r : List Operand) : capL E s (x :: r) = ob (opd E 0 s x) fun v => ob (capV v) fun v => ob (capL E s r) fun c => some (.tcons v c) := nr rfl
theorem capV_ptr (k : Nat) (sh : Sh) (p : List Nat) (u : Sh) : capV (.ptr k sh p u) = some (.ptr k sh p u) := nr rfl
theorem capV_ro (sh : Sh) (x : D) : capV (.ep .ro sh x) = some (.ep .ro sh x) := nr rfl
theorem evO_make (t : Nat) (l c : Operand) : evO E call d ty s (.makeSlice t l c) = ob (opd E 0 s l) fun l => ob (opd E 0 s c) fun c => fin s d (evMake E (d.getD 0) t l c) := by
  rw [show evO E call d ty s (.makeSlice t l c) = fin s d (ob (opd E 0 s l) fun l => ob (opd E 0 s c) fun c => evMake E (d.getD 0) t l c) from rfl, fin_ob]; simp only [fin_ob]
theorem evMake_eq (k t : Nat) (kl kc : IntKind) (l c : Int) : evMake E k t (.d (.s (.int kl l))) (.d (.s (.int kc c))) = ob (E.ty t) fun ty => onSlice ty.kd fun e => ob (E.ty e) fun te => if (0 ≤ l ∧ l ≤ c ∧ c ≤ 1000) ∧ te.bytes ≤ 1000 ∧ te.sh.size ≤ 1000 then some (.sl (.tg k) te.sh (List.replicate l.toNat te.zero), some .row) else none := by
  unfold evMake
  refine congrArg (ob (E.ty t)) (funext fun ty => ?_)
  cases ty.kd <;> rfl
theorem evO_slice (t : Nat) (x : Operand) (lo hi : Option Operand) : evO E call d ty s (.slice t x lo hi none) = ob (opd E 0 s x) fun x => ob (opdO E s lo) fun lo => ob (opdO E s hi) fun hi => ob (evSlice E t x lo hi) fun v => some (s.app d v none) := by
  rw [show evO E call d ty s (.slice t x lo hi none) = fin s d (ob (opd E 0 s x) fun x => ob (opdO E s lo) fun lo => ob (opdO E s hi) fun hi => pure1 (evSlice E t x lo hi)) from rfl, fin_ob]; simp only [fin_ob, fin_pure1]
theorem opdO_none : opdO E s none = some none := nr rfl
theorem opdO_some (x : Operand) : opdO E s (some x) = ob (opd E 0 s x) fun v => some (some v) := nr rfl
theorem evBd_none (n : Int) : evBd n none = some n := nr rfl
theorem evBd_int (n m : Int) (k : IntKind) : evBd n (some (.d (.s (.int k m)))) = some m := nr rfl
theorem evSlice_ro (t : Nat) (sh : Sh) (es : List D) (lo hi : Option V) : evSlice E t (.sl .ro sh es) lo hi = ob (E.ty t) fun ty => onSlice ty.kd fun e => ob (E.ty e) fun te => ob (evBd 0 lo) fun l => ob (evBd es.length hi) fun h =>
      if te.sh = sh ∧ 0 ≤ l ∧ l ≤ h ∧ h ≤ (es.length : Int) then some (.sl .ro sh ((es.take h.toNat).drop l.toNat)) else none := by
  unfold evSlice
  refine congrArg (ob (E.ty t)) (funext fun ty => ?_)
  cases ty.kd <;> rfl
theorem retF_clos0 (g : Nat) : retF s d (.clos g .tnil) = some (s.app d (.clos g .tnil) none) := nr rfl
theorem retF_clos1 (g : Nat) (o : Own) (sh : Sh) (x : D) : retF s d (.clos g (.tcons (.ep o sh x) .tnil)) = some (s.app d (.clos g (.tcons (.ep (.tg (d.getD 0)) sh x) .tnil)) (some .row)) := nr rfl
theorem snapL_nil (m : Nat → Option Bk) : snapL m .tnil = some .tnil := nr rfl
theorem snapL_cons (m : Nat → Option Bk) (a b : V) : snapL m (.tcons a b) = ob (snap m a) fun a => ob (snapL m b) fun b => some (.tcons a b) := nr rfl
theorem snap_ptr (m : Nat → Option Bk) (k : Nat) (sh : Sh) (p : List Nat) (u : Sh) : snap m (.ptr k sh p u) = ob (m k) fun b => onBox b fun x => some (.ep .ro u (x.get p)) := nr rfl
theorem snap_ro (m : Nat → Option Bk) (sh : Sh) (x : D) : snap m (.ep .ro sh x) = some (.ep .ro sh x) := nr rfl
theorem snap_tg (m : Nat → Option Bk) (k : Nat) (sh : Sh) (x : D) : snap m (.ep (.tg k) sh x) = some (.ep .ro sh x) := nr rfl
theorem snap_d (m : Nat → Option Bk) (x : D) : snap m (.d x) = some (.d x) := nr rfl
theorem capV_d (x : D) : capV (.d x) = some (.d x) := nr rfl
theorem callee_clos (m : Nat → Option Bk) (g : Nat) (c : V) : callee m (.clos g c) = ob (snapL m c) fun c => some (g, c) := nr rfl
theorem argV_clos (m : Nat → Option Bk) (g : Nat) (c : V) : argV m (.clos g c) = ob (snapL m c) fun c => some (.clos g c) := nr rfl
theorem retF_d (x : D) : retF s d (.d x) = some (s.app d (.d x) none) := nr rfl
theorem retF_sl (o : Own) (sh : Sh) (es : List D) : retF s d (.sl o sh es) = some (s.app d (.sl (.tg (d.getD 0)) sh es) (some .row)) := nr rfl
theorem retF_nil : retF s d .tnil = some (s.app d .tnil none) := nr rfl
theorem retF_cons (a b : V) : retF s d (.tcons a b) = ob (retT (d.getD 0) (.tcons a b)) fun v => some (s.app d v.1 v.2) := nr rfl
theorem retT_cons (k : Nat) (a b : V) : retT k (.tcons a b) = ob (ret1 k a) fun a => ob (retT k b) fun b => ob (joinB a.2 b.2) fun c => some (.tcons a.1 b.1, c) := nr rfl
theorem callee_func (m : Nat → Option Bk) (g : Nat) : callee m (.d (.s (.func (.func g) #[] #[]))) = some (g, .tnil) := nr rfl
theorem rvV_clos (k n : Nat) (es : List D) (g : Nat) (c : V) : rvV k n es (.clos g c) = (V.clos g c).kill k := nr rfl
end

section
variable (T : Nat → V) (M : Nat → Option Bk) (k : Nat) (v : V) (b : Bk)
theorem St.app_none (s : St) (b : Option Bk) : s.app none v b = s := nr rfl
theorem St.app_some : (St.mk T M).app (some k) v none = ⟨upd T k v, M⟩ := nr rfl
theorem St.app_new : (St.mk T M).app (some k) v (some b) = ⟨upd (fresh k (M k) T) k v, upd M k (some b)⟩ := nr rfl
theorem fresh_none : fresh k none T = T := nr rfl
theorem fresh_some : fresh k (some b) T = fun i => (T i).kill k := nr rfl
theorem upd_app {α : Type} (f : Nat → α) (k : Nat) (v : α) (i : Nat) : upd f k v i = if i = k then v else f i := nr rfl
theorem tab_nil {α : Type} (d : α) (i : Nat) : tab d [] i = d := nr rfl
theorem tab_cons {α : Type} (d : α) (k : Nat) (v : α) (l : List (Nat × α)) (i : Nat) : tab d ((k, v) :: l) i = if i = k then v else tab d l i := nr rfl
theorem frame_nil (i : Nat) : frame i [] = [] := nr rfl
theorem frame_cons (i : Nat) (v : V) (l : List V) : frame i (v :: l) = (i, v) :: frame (i + 1) l := nr rfl
theorem forget_eq (b : List Nat × List Nat) (s : St) : s.forget b = if (b.1.all fun i => (s.t i).keysIn b.2) = true then some { t := tab .junk (b.1.map fun i => (i, s.t i)), m := tab none (b.2.map fun i => (i, s.m i)) } else none := nr rfl
end

section
variable (E : Env) (t : Nat) (s : St)
theorem opd_tmp (i : Nat) : opd E t s (.tmp i) = some (s.t i) := nr rfl
theorem opd_int (k : IntKind) (n : Int) : opd E t s (.const (.int k n)) = some (.d (.s (.int k n))) := nr rfl
theorem opd_bool (b : Bool) : opd E t s (.const (.bool b)) = some (.d (.s (.bool b))) := nr rfl
theorem opd_str (b : ByteArray) : opd E t s (.const (.string b)) = some (.d (.s (.string b))) := nr rfl
theorem opd_float (k : FloatKind) (b : Nat) : opd E t s (.const (.float k b)) = some (.d (.s (.float k b))) := nr rfl
theorem opd_func (f : Nat) : opd E t s (.func f) = some (.d (.s (.func (.func f) #[] #[]))) := nr rfl
theorem opd_nil : opd E t s (.const (.slice none 0 0)) = match E.ty t with
    | some ⟨_, _, .slice e, _, _⟩ => ob (E.ty e) fun te => some (.sl .nil te.sh [])
    | _ => none := nr rfl
theorem evMove_tmp (k i : Nat) : evMove E k t s (.tmp i) = some (s.t i, none) := nr rfl
theorem evMove_int (k : Nat) (ik : IntKind) (n : Int) : evMove E k t s (.const (.int ik n)) = some (.d (.s (.int ik n)), none) := nr rfl
theorem evMove_bool (k : Nat) (b : Bool) : evMove E k t s (.const (.bool b)) = some (.d (.s (.bool b)), none) := nr rfl
theorem evMove_str (k : Nat) (b : ByteArray) : evMove E k t s (.const (.string b)) = some (.d (.s (.string b)), none) := nr rfl
theorem evMove_float (k : Nat) (fk : FloatKind) (b : Nat) : evMove E k t s (.const (.float fk b)) = some (.d (.s (.float fk b)), none) := nr rfl
theorem evMove_func (k f : Nat) : evMove E k t s (.func f) = some (.d (.s (.func (.func f) #[] #[])), none) := nr rfl
theorem evMove_nil (k : Nat) : evMove E k t s (.const (.slice none 0 0)) = match E.ty t with
    | some ⟨_, _, .slice e, _, _⟩ => ob (E.ty e) fun te => some (.sl (.tg k) te.sh [], some .row)
    | _ => none := nr rfl
theorem V.dat_d (x : D) : (V.d x).dat = some x := nr rfl
theorem args_nil : args E s [] = some [] := nr rfl
theorem args_cons (x : Operand) (r : List Operand) : args E s (x :: r) = ob (opd E 0 s x) fun v => ob (argV s.m v) fun v => ob (args E s r) fun l => some (v :: l) := nr rfl
theorem argV_d (m : Nat → Option Bk) (x : D) : argV m (.d x) = some (.d x) := nr rfl
theorem argV_sl (m : Nat → Option Bk) (o : Own) (sh : Sh) (es : List D) : argV m (.sl o sh es) = some (.sl .ro sh es) := nr rfl
theorem ret1_d (k : Nat) (x : D) : ret1 k (.d x) = some (.d x, none) := nr rfl
theorem ret1_sl (k : Nat) (o : Own) (sh : Sh) (es : List D) : ret1 k (.sl o sh es) = some (.sl (.tg k) sh es, some .row) := nr rfl
theorem retT_nil (k : Nat) : retT k .tnil = some (.tnil, none) := nr rfl
theorem nthV_zero (a b : V) : nthV (.tcons a b) 0 = some a := nr rfl
theorem nthV_succ (a b : V) (i : Nat) : nthV (.tcons a b) (i + 1) = nthV b i := nr rfl

theorem evLoad_ptr (m : Nat → Option Bk) (k : Nat) (sh : Sh) (p : List Nat) (u : Sh) : evLoad E m t (.ptr k sh p u) = ob (E.ty t) fun ty => ob (m k) fun b => onBox b fun x => if u = ty.sh then some (.d (x.get p)) else none := nr rfl
theorem evLoad_ep (m : Nat → Option Bk) (o : Own) (sh : Sh) (x : D) : evLoad E m t (.ep o sh x) = ob (E.ty t) fun ty => if sh = ty.sh then some (.d x) else none := nr rfl
theorem evIndexAddr_ptr (k : Nat) (sh : Sh) (p : List Nat) (l : Nat) (u : Sh) (ik : IntKind) (n : Int) : evIndexAddr E t (.ptr k sh p (.arr l u)) (.d (.s (.int ik n))) = ob (E.ty t) fun ty => onArr ty.kd fun len e => ob (E.ty e) fun te => if len = l ∧ te.sh = u ∧ 0 ≤ n ∧ n < (l : Int) then some (.ptr k sh (p ++ [n.toNat]) u) else none := nr rfl
theorem evIndexAddr_sl (o : Own) (sh : Sh) (es : List D) (ik : IntKind) (n : Int) : evIndexAddr E t (.sl o sh es) (.d (.s (.int ik n))) = ob (E.ty t) fun ty => onSlice ty.kd fun e => ob (E.ty e) fun te => if te.sh = sh ∧ 0 ≤ n then ob es[n.toNat]? fun x => some (.ep o sh x) else none := nr rfl
theorem evIndexAddr_ep (o : Own) (l : Nat) (u : Sh) (x : D) (ik : IntKind) (n : Int) : evIndexAddr E t (.ep o (.arr l u) x) (.d (.s (.int ik n))) = ob (E.ty t) fun ty => onArr ty.kd fun len e => ob (E.ty e) fun te => if len = l ∧ te.sh = u ∧ 0 ≤ n ∧ n < (l : Int) then some (.ep o u (x.get [n.toNat])) else none := nr rfl
theorem evIndexAddr_ms (k l : Nat) (u : Sh) (ik : IntKind) (n : Int) : evIndexAddr E t (.ms k l u) (.d (.s (.int ik n))) = ob (E.ty t) fun ty => onSlice ty.kd fun e => ob (E.ty e) fun te => if te.sh = u ∧ 0 ≤ n ∧ n < (l : Int) then some (.ptr k (.arr l u) [n.toNat] u) else none := nr rfl
theorem evLen_ms (k n : Nat) (u : Sh) : evLen E t (.ms k n u) = ob (E.ty t) fun ty => onSlice ty.kd fun _ => some (.d (.s (.int .i64 n))) := nr rfl
theorem evFieldAddr_ptr (j k : Nat) (sh : Sh) (p : List Nat) (u : Sh) : evFieldAddr E t j (.ptr k sh p u) = ob (E.ty t) fun ty => onStr ty.kd (if u = ty.sh then ob (u.sub [j]) fun u' => if u'.size ≠ 0 then some (.ptr k sh (p ++ [j]) u') else none else none) := nr rfl
theorem evFieldAddr_ep (j : Nat) (o : Own) (sh : Sh) (x : D) : evFieldAddr E t j (.ep o sh x) = ob (E.ty t) fun ty => onStr ty.kd (if sh = ty.sh then ob (sh.sub [j]) fun u' => if u'.size ≠ 0 then some (.ep o u' (x.get [j])) else none else none) := nr rfl
theorem evIndex_arr (n : Nat) (sh : Sh) (f : Nat → D) (ik : IntKind) (i : Int) : evIndex E t (.d (.arr n sh f)) (.d (.s (.int ik i))) = ob (E.ty t) fun ty => onArr ty.kd fun len e => ob (E.ty e) fun te => if len = n ∧ ty.sh = .arr n sh ∧ te.sh = sh ∧ 0 ≤ i ∧ i < (n : Int) then some (.d (f i.toNat)) else none := nr rfl
theorem evField_d (j : Nat) (x : D) : evField E t j (.d x) = ob (E.ty t) fun ty => onStr ty.kd (if x.shape = ty.sh then ob (ty.sh.sub [j]) fun _ => some (.d (x.get [j])) else none) := nr rfl
theorem evLen_sl (o : Own) (sh : Sh) (es : List D) : evLen E t (.sl o sh es) = ob (E.ty t) fun ty => onSlice ty.kd fun _ => some (.d (.s (.int .i64 es.length))) := nr rfl
theorem evConv_int (src dst : Nat) (ik : IntKind) (n : Int) : evConv E src dst (.d (.s (.int ik n))) = ob (E.ty src) fun ts => ob (E.ty dst) fun td => onInt ts.kd fun _ => onNum td.kd (fun k => some (.d (.s (.int k (k.wrap n))))) (fun k => some (.d (.s (.float k (k.nearest n))))) := by
  rw [show evConv E src dst (.d (.s (.int ik n))) = ob (E.ty src) fun ts => ob (E.ty dst) fun td => (match ts.kd, td.kd with | .int _, .int k => some (.d (.s (.int k (k.wrap n)))) | .int _, .float k => some (.d (.s (.float k (k.nearest n)))) | _, _ => none) from rfl]
  cases E.ty src with
  | none => rfl
  | some ts =>
    cases E.ty dst with
    | none => rfl
    | some td => obtain ⟨_, _, k1, _, _⟩ := ts; obtain ⟨_, _, k2, _, _⟩ := td; cases k1 <;> cases k2 <;> rfl
theorem evConv_float (src dst : Nat) (q : FloatKind) (b : Nat) : evConv E src dst (.d (.s (.float q b))) = ob (E.ty src) fun ts => ob (E.ty dst) fun td => onFloat ts.kd fun _ => onInt td.kd fun k => ob ((q.decode b).toInt .zero) fun n => if k.min ≤ n ∧ n ≤ k.max then some (.d (.s (.int k n))) else none := by
  rw [show evConv E src dst (.d (.s (.float q b))) = ob (E.ty src) fun ts => ob (E.ty dst) fun td => (match ts.kd, td.kd with | .float _, .int k => ob ((q.decode b).toInt .zero) fun n => if k.min ≤ n ∧ n ≤ k.max then some (.d (.s (.int k n))) else none | _, _ => none) from rfl]
  cases E.ty src with
  | none => rfl
  | some ts =>
    cases E.ty dst with
    | none => rfl
    | some td => obtain ⟨_, _, k1, _, _⟩ := ts; obtain ⟨_, _, k2, _, _⟩ := td; cases k1 <;> cases k2 <;> rfl
def onString {α : Type} (k : Kd) (x : Option α) : Option α := match k with | .string => x | _ => none
theorem onString_string {α : Type} (x : Option α) : onString .string x = x := nr rfl
theorem evConv_sl (src dst : Nat) (o : Own) (sh : Sh) (es : List D) : evConv E src dst (.sl o sh es) = ob (E.ty src) fun ts => ob (E.ty dst) fun td => onSlice ts.kd fun e => onString td.kd (ob (E.ty e) fun te => if te.kd = .int .u8 ∧ sh = .cell (.int .u8) then some (.d (.s (.string (bytesOf es)))) else none) := by
  rw [show evConv E src dst (.sl o sh es) = ob (E.ty src) fun ts => ob (E.ty dst) fun td => (match ts.kd, td.kd with | .slice e, .string => ob (E.ty e) fun te => if te.kd = .int .u8 ∧ sh = .cell (.int .u8) then some (.d (.s (.string (bytesOf es)))) else none | _, _ => none) from rfl]
  cases E.ty src with
  | none => rfl
  | some ts =>
    cases E.ty dst with
    | none => rfl
    | some td => obtain ⟨_, _, k1, _, _⟩ := ts; obtain ⟨_, _, k2, _, _⟩ := td; cases k1 <;> cases k2 <;> rfl
theorem evLen_str (b : ByteArray) : evLen E t (.d (.s (.string b))) = ob (E.ty t) fun ty => onString ty.kd (some (.d (.s (.int .i64 b.size)))) := nr rfl
theorem evLen_raw (a : Option Addr) (n c : Nat) : evLen E t (.d (.s (.slice a n c))) = ob (E.ty t) fun ty => onSlice ty.kd fun _ => some (.d (.s (.int .i64 n))) := nr rfl
theorem evIndex_str (b : ByteArray) (ik : IntKind) (i : Int) : evIndex E t (.d (.s (.string b))) (.d (.s (.int ik i))) = ob (E.ty t) fun ty => onString ty.kd (if 0 ≤ i then ob b[i.toNat]? fun c => some (.d (.s (.int .u8 c.toNat))) else none) := nr rfl
theorem evBin_eqS (a b : ByteArray) : evBin E .eql t (.d (.s (.string a))) (.d (.s (.string b))) = some (.d (.s (.bool (a == b)))) := by
  rw [beq_toListBytes]; rfl
theorem evBin_neS (a b : ByteArray) : evBin E .neq t (.d (.s (.string a))) (.d (.s (.string b))) = some (.d (.s (.bool (!(a == b))))) := by
  rw [beq_toListBytes]; rfl
theorem evBin_addS (a b : ByteArray) (h : a.size + b.size ≤ 1000000000) : evBin E .add t (.d (.s (.string a))) (.d (.s (.string b))) = some (.d (.s (.string (a ++ b)))) := by
  have h2 : ¬ (((a.size + b.size : Nat) : Int) > IntKind.i64.max) := by
    have : IntKind.i64.max = 9223372036854775807 := by rfl
    omega
  show scal (Op.stringOp .add a b) = _
  simp only [Op.stringOp, h2, if_false]; rfl
theorem evUn_not (b : Bool) : evUn .not (.d (.s (.bool b))) = some (.d (.s (.bool !b))) := nr rfl
theorem evPick_bool (b : Bool) (x y : Option V) : evPick (.d (.s (.bool b))) x y = if b = true then x else y := by cases b <;> rfl
theorem evMax_int (k k' : IntKind) (a b : Int) : evMax (.d (.s (.int k a))) (.d (.s (.int k' b))) = some (.d (.s (.int k (if b > a then b else a)))) := nr rfl
theorem evMin_int (k k' : IntKind) (a b : Int) : evMin (.d (.s (.int k a))) (.d (.s (.int k' b))) = some (.d (.s (.int k (if b < a then b else a)))) := nr rfl
theorem gdB_true (b : Bool) : gdB true (.d (.s (.bool b))) = some b := by cases b <;> rfl
theorem gdB_false (b : Bool) : gdB false (.d (.s (.bool b))) = some !b := by cases b <;> rfl
theorem gdB_undef (w : Bool) : gdB w .undef = some false := nr rfl
theorem evStore_ptr (k : Nat) (sh : Sh) (p : List Nat) (u : Sh) (v : D) : evStore E s t (.ptr k sh p u) (.d v) = ob (E.ty t) fun ty => ob (s.m k) fun b => onBox b fun y => if u = ty.sh ∧ v.shape = u then some { t := s.t, m := upd s.m k (some (.box (y.set p v))) } else none := nr rfl

theorem evBin_fadd (a b : Nat) : evBin E .add t (.d (.s (.float .f64 a))) (.d (.s (.float .f64 b))) = fAdd a b := by
  show scal (Op.floatArith .add .f64 a b) = _
  simp only [Op.floatArith, fAdd, FloatKind.format]; cases Ieee.double.add a b <;> rfl
theorem evBin_fsub (a b : Nat) : evBin E .sub t (.d (.s (.float .f64 a))) (.d (.s (.float .f64 b))) = fSub a b := by
  show scal (Op.floatArith .sub .f64 a b) = _
  simp only [Op.floatArith, fSub, FloatKind.format]; cases Ieee.double.sub a b <;> rfl
theorem evBin_fmul (a b : Nat) : evBin E .mul t (.d (.s (.float .f64 a))) (.d (.s (.float .f64 b))) = fMul a b := by
  show scal (Op.floatArith .mul .f64 a b) = _
  simp only [Op.floatArith, fMul, FloatKind.format]; cases Ieee.double.mul a b <;> rfl
theorem evBin_fdiv (a b : Nat) : evBin E .quo t (.d (.s (.float .f64 a))) (.d (.s (.float .f64 b))) = fDiv a b := by
  show scal (Op.floatArith .quo .f64 a b) = _
  simp only [Op.floatArith, fDiv, FloatKind.format]; cases Ieee.double.div a b <;> rfl
theorem order_swap (a b : Nat) : (Ieee.double.order a b == some .gt) = flt b a := by
  unfold flt Ieee.Format.order
  cases Ieee.double.read a <;> cases Ieee.double.read b <;> simp only [Ieee.Datum.order] <;> try rfl
  · rename_i s m i t n j
    rw [Int.min_comm j i]
    generalize Ieee.signed s m (i - min i j).toNat = x
    generalize Ieee.signed t n (j - min i j).toNat = y
    rw [show compare y x = (compare x y).swap from (Std.OrientedOrd.eq_swap (a := y) (b := x))]
    cases compare x y <;> rfl
  · rename_i t; cases t <;> rfl
  · rename_i s _ _ _; cases s <;> rfl
  · rename_i s t; cases s <;> cases t <;> rfl
theorem order_eqc (a b : Nat) : (Ieee.double.order a b == some .eq) = feq b a := by
  unfold feq Ieee.Format.order
  cases Ieee.double.read a <;> cases Ieee.double.read b <;> simp only [Ieee.Datum.order] <;> try rfl
  · rename_i s m i t n j
    rw [Int.min_comm j i]
    generalize Ieee.signed s m (i - min i j).toNat = x
    generalize Ieee.signed t n (j - min i j).toNat = y
    rw [show compare y x = (compare x y).swap from (Std.OrientedOrd.eq_swap (a := y) (b := x))]
    cases compare x y <;> rfl
  · rename_i t; cases t <;> rfl
  · rename_i s _ _ _; cases s <;> rfl
  · rename_i s t; cases s <;> cases t <;> rfl
theorem evBin_flss (a b : Nat) : evBin E .lss t (.d (.s (.float .f64 a))) (.d (.s (.float .f64 b))) = some (.d (.s (.bool (flt a b)))) := nr rfl
theorem evBin_fleq (a b : Nat) : evBin E .leq t (.d (.s (.float .f64 a))) (.d (.s (.float .f64 b))) = some (.d (.s (.bool (fle a b)))) := nr rfl
theorem evBin_fgtr (a b : Nat) : evBin E .gtr t (.d (.s (.float .f64 a))) (.d (.s (.float .f64 b))) = some (.d (.s (.bool (flt b a)))) := by rw [← order_swap]; rfl
theorem evBin_fgeq (a b : Nat) : evBin E .geq t (.d (.s (.float .f64 a))) (.d (.s (.float .f64 b))) = some (.d (.s (.bool (fle b a)))) := by
  rw [show fle b a = (Ieee.double.order a b == some .gt || Ieee.double.order a b == some .eq) by rw [order_swap, order_eqc]; rfl]; rfl
theorem evBin_feql (a b : Nat) : evBin E .eql t (.d (.s (.float .f64 a))) (.d (.s (.float .f64 b))) = some (.d (.s (.bool (feq a b)))) := nr rfl
theorem evBin_fneq (a b : Nat) : evBin E .neq t (.d (.s (.float .f64 a))) (.d (.s (.float .f64 b))) = some (.d (.s (.bool (!(feq a b))))) := nr rfl
theorem evUn_negF (b : Nat) : evUn .neg (.d (.s (.float .f64 b))) = some (.d (.s (.float .f64 (Op.negFloat .f64 b)))) := nr rfl
theorem evMax_float (k k' : FloatKind) (a b : Nat) : evMax (.d (.s (.float k a))) (.d (.s (.float k' b))) = ob (fMax k a b) fun r => some (.d (.s (.float k r))) := nr rfl
theorem evMin_float (k k' : FloatKind) (a b : Nat) : evMin (.d (.s (.float k a))) (.d (.s (.float k' b))) = ob (fMin k a b) fun r => some (.d (.s (.float k r))) := nr rfl

variable (k : IntKind) (a b : Int)
theorem evBin_add : evBin E .add t (.d (.s (.int k a))) (.d (.s (.int k b))) = some (.d (.s (.int k (k.wrap (a + b))))) := by simp [evBin, scal, binOp_add, Op.intArith, Value.oneCell', Pure.pure]
theorem evBin_sub : evBin E .sub t (.d (.s (.int k a))) (.d (.s (.int k b))) = some (.d (.s (.int k (k.wrap (a - b))))) := by simp [evBin, scal, binOp_sub, Op.intArith, Value.oneCell', Pure.pure]
theorem evBin_mul : evBin E .mul t (.d (.s (.int k a))) (.d (.s (.int k b))) = some (.d (.s (.int k (k.wrap (a * b))))) := by simp [evBin, scal, binOp_mul, Op.intArith, Value.oneCell', Pure.pure]
theorem evBin_and : evBin E .and t (.d (.s (.int k a))) (.d (.s (.int k b))) = some (.d (.s (.int k (bits .and k a b)))) := by simp [evBin, scal, binOp_and, intBits_and, Value.oneCell', Pure.pure]
theorem evBin_or : evBin E .or t (.d (.s (.int k a))) (.d (.s (.int k b))) = some (.d (.s (.int k (bits .or k a b)))) := by simp [evBin, scal, binOp_or, intBits_or, Value.oneCell', Pure.pure]
theorem evBin_xor : evBin E .xor t (.d (.s (.int k a))) (.d (.s (.int k b))) = some (.d (.s (.int k (bits .xor k a b)))) := by simp [evBin, scal, binOp_xor, intBits_xor, Value.oneCell', Pure.pure]
theorem evBin_andNot : evBin E .andNot t (.d (.s (.int k a))) (.d (.s (.int k b))) = some (.d (.s (.int k (bits .andNot k a b)))) := by simp [evBin, scal, binOp_andNot, intBits_andNot, Value.oneCell', Pure.pure]
theorem evBin_eql : evBin E .eql t (.d (.s (.int k a))) (.d (.s (.int k b))) = some (.d (.s (.bool (a == b)))) := by simp [evBin, scal, binOp_eql, Value.oneCell', Pure.pure]
theorem evBin_neq : evBin E .neq t (.d (.s (.int k a))) (.d (.s (.int k b))) = some (.d (.s (.bool (a != b)))) := by simp [evBin, scal, binOp_neq, Value.oneCell', Pure.pure]
theorem evBin_lss : evBin E .lss t (.d (.s (.int k a))) (.d (.s (.int k b))) = some (.d (.s (.bool (decide (a < b))))) := by simp [evBin, scal, binOp_lss, Value.oneCell', Pure.pure]
theorem evBin_leq : evBin E .leq t (.d (.s (.int k a))) (.d (.s (.int k b))) = some (.d (.s (.bool (decide (a ≤ b))))) := by simp [evBin, scal, binOp_leq, Value.oneCell', Pure.pure]
theorem evBin_gtr : evBin E .gtr t (.d (.s (.int k a))) (.d (.s (.int k b))) = some (.d (.s (.bool (decide (b < a))))) := by simp [evBin, scal, binOp_gtr, Value.oneCell', Pure.pure]
theorem evBin_geq : evBin E .geq t (.d (.s (.int k a))) (.d (.s (.int k b))) = some (.d (.s (.bool (decide (b ≤ a))))) := by simp [evBin, scal, binOp_geq, Value.oneCell', Pure.pure]
theorem evBin_shr (k' : IntKind) (h0 : 0 ≤ b) : evBin E .shr t (.d (.s (.int k a))) (.d (.s (.int k' b))) = some (.d (.s (.int k (a.fdiv (2 ^ (min b.toNat k.bits)))))) := by
  have h : ¬ b < 0 := by omega
  simp [evBin, scal, binOp_shr, Op.shift, h, Value.oneCell', Pure.pure]
theorem evBin_shl (k' : IntKind) (h0 : 0 ≤ b) : evBin E .shl t (.d (.s (.int k a))) (.d (.s (.int k' b))) = some (.d (.s (.int k (k.wrap (a * 2 ^ (min b.toNat k.bits)))))) := by
  have h : ¬ b < 0 := by omega
  simp [evBin, scal, binOp_shl, Op.shift, h, Value.oneCell', Pure.pure]
end
end Go.Proofs.YtjceimcepogkaaaGreatDoor.Ev
