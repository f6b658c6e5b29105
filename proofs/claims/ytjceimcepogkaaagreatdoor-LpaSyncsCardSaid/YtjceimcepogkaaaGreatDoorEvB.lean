/-
  The evaluator: a pure function over the model's code. No world: variables in memory are data under their slot's number,
  slices are lists. It answers none wherever it does not know.
-/
import Derived.Test.YtjceimcepogkaaaGreatDoorEvA
namespace Go.Proofs.YtjceimcepogkaaaGreatDoor.Ev
open Go

inductive Own where
  | nil
  | ro
  | tg (k : Nat)
  deriving DecidableEq

/-- What a slot holds. 'ptr': into the variable of slot k, of shape sh, at path p, where a datum of shape u lies. 'sl': a slice; 'ep': the address of a slice's element that now holds x; 'clos': a function g with what it captured (a chain of addresses); 'ms': a slice that is written through, of the n elements of the variable of slot k. -/
inductive V where
  | d (x : D)
  | ptr (k : Nat) (sh : Sh) (p : List Nat) (u : Sh)
  | sl (o : Own) (sh : Sh) (es : List D)
  | ep (o : Own) (sh : Sh) (x : D)
  | tnil
  | tcons (a b : V)
  | undef
  | junk
  | clos (g : Nat) (c : V)
  | ms (k n : Nat) (u : Sh)

inductive Bk where
  | box (x : D)
  | row

def upd {α : Type} (f : Nat → α) (k : Nat) (v : α) : Nat → α := fun i => if i = k then v else f i

def tab {α : Type} (d : α) : List (Nat × α) → Nat → α
  | [], _ => d
  | (k, v) :: l, i => if i = k then v else tab d l i

structure St where
  t : Nat → V
  m : Nat → Option Bk

inductive Kd where
  | int (k : IntKind)
  | bool
  | string
  | float (k : FloatKind)
  | arr (n e : Nat)
  | str (fs : List Nat)
  | slice (e : Nat)
  | other
  deriving DecidableEq

structure Ty where
  sh : Sh
  zero : D
  kd : Kd
  bytes : Nat
  eq : Bool

structure Env where
  ty : Nat → Option Ty
  kl : Nat → Nat → List Nat × List Nat
  ok : Nat → Bool
  dp : Nat → Nat → List (Nat × Nat)
  gl : Nat → Nat → List Nat × List Nat

/- The evaluator's own joints: what stands behind them is looked at only once what stands ahead is known. -/
def ob {α β : Type} (x : Option α) (f : α → Option β) : Option β :=
  match x with
  | some a => f a
  | none => none
theorem ob_some {α β : Type} (a : α) (f : α → Option β) : ob (some a) f = f a := rfl
theorem ob_none {α β : Type} (f : α → Option β) : ob none f = none := rfl
theorem ob_ite {α β : Type} (c : Prop) [Decidable c] (x y : Option α) (f : α → Option β) : ob (if c then x else y) f = if c then ob x f else ob y f := by split <;> rfl
theorem ob_congr {α β : Type} {x y : Option α} {f : α → Option β} (h : x = y) : ob x f = ob y f := by rw [h]
theorem ob_eq_some {α β : Type} {x : Option α} {f : α → Option β} {b : β} (h : ob x f = some b) : ∃ a, x = some a ∧ f a = some b := by
  cases x with
  | none => cases h
  | some a => exact ⟨a, rfl, h⟩

def V.has (k : Nat) : V → Bool
  | .ptr k' _ _ _ => k' == k
  | .sl (.tg k') _ _ => k' == k
  | .ep (.tg k') _ _ => k' == k
  | .tcons a b => a.has k || b.has k
  | .clos _ c => c.has k
  | .ms k' _ _ => k' == k
  | _ => false

def V.keysIn (l : List Nat) : V → Bool
  | .ptr k _ _ _ => l.contains k
  | .sl (.tg k) _ _ => l.contains k
  | .ep (.tg k) _ _ => l.contains k
  | .tcons a b => a.keysIn l && b.keysIn l
  | .clos _ c => c.keysIn l
  | .ms k _ _ => l.contains k
  | _ => true

/-- What lies behind one address is not read through the other value. -/
def V.keyNe : V → V → Bool
  | .ptr k _ _ _, .ptr k' _ _ _ => k != k'
  | .ptr _ _ _ _, .ep _ _ _ => true
  | .ptr _ _ _ _, .undef => true
  | .ptr _ _ _ _, .d _ => true
  | .ptr _ _ _ _, .sl _ _ _ => true
  | .ptr k _ _ _, .clos _ c => !c.has k
  | .ptr _ _ _ _, .ms _ _ _ => true
  | _, _ => false

def V.kill (k : Nat) (v : V) : V := if v.has k then .junk else v

/-- Slot k's variable, or row, is made anew: nothing may point at the old one. -/
def fresh (k : Nat) (b : Option Bk) (t : Nat → V) : Nat → V :=
  match b with
  | none => t
  | some _ => fun i => (t i).kill k

def St.app (s : St) (dst : Option Nat) (v : V) (b : Option Bk) : St :=
  match dst, b with
  | none, _ => s
  | some k, none => { t := upd s.t k v, m := s.m }
  | some k, some b => { t := upd (fresh k (s.m k) s.t) k v, m := upd s.m k (some b) }

def cst (E : Env) (t : Nat) : Value → Option V
  | .slice none 0 0 =>
    match E.ty t with
    | some ⟨_, _, .slice e, _, _⟩ => ob (E.ty e) fun te => some (.sl .nil te.sh [])
    | _ => none
  | .int k n => some (.d (.s (.int k n)))
  | .bool b => some (.d (.s (.bool b)))
  | .string b => some (.d (.s (.string b)))
  | .float k b => some (.d (.s (.float k b)))
  | .nilFunc => some (.d (.s .nilFunc))
  | _ => none

def opd (E : Env) (t : Nat) (s : St) : Operand → Option V
  | .tmp i => some (s.t i)
  | .const v => cst E t v
  | .func f => some (.d (.s (.func (.func f) #[] #[])))
  | .global _ => none

/-- A scalar operation of the model that touches nothing. -/
def scal : Sem Value → Option V
  | .pure v => if v.oneCell' then some (.d (.s v)) else none
  | _ => none

def evBin (E : Env) (op : BinOp) (t : Nat) (x y : V) : Option V :=
  match x, y with
  | .d (.s (.bool a)), .d (.s (.bool b)) =>
    match E.ty t with
    | some ⟨_, _, .bool, _, _⟩ =>
      match op with
      | .eql => some (.d (.s (.bool (a == b))))
      | .neq => some (.d (.s (.bool (!(a == b)))))
      | _ => none
    | _ => none
  | .d (.s (.int k a)), .d (.s (.int k' b)) => scal (binOp op t (.int k a) (.int k' b))
  | .d (.s (.string a)), .d (.s (.string b)) => scal (binOp op t (.string a) (.string b))
  | .d (.s (.float k a)), .d (.s (.float k' b)) => scal (binOp op t (.float k a) (.float k' b))
  | .d (.s _), _ => none
  | .d x, .d y =>
    ob (E.ty t) fun ty =>
      if ty.eq = true ∧ x.shape = ty.sh ∧ y.shape = ty.sh then
        match op with
        | .eql => some (.d (.s (.bool (x.eqv y))))
        | .neq => some (.d (.s (.bool (!(x.eqv y)))))
        | _ => none
      else none
  | _, _ => none

def V.dat : V → Option D
  | .d x => some x
  | _ => none

def fillD (E : Env) (s : St) (sh : Sh) : List (Nat × Operand) → D → Option D
  | [], z => some z
  | (i, x) :: r, z => ob (opd E 0 s x) fun v => ob v.dat fun v => if sh.sub [i] = some v.shape then fillD E s sh r (z.set [i] v) else none

def fillL (E : Env) (s : St) (sh : Sh) : List (Nat × Operand) → List D → Option (List D)
  | [], z => some z
  | (i, x) :: r, z => ob (opd E 0 s x) fun v => ob v.dat fun v => if i < z.length ∧ v.shape = sh then fillL E s sh r (z.set i v) else none

/-- What was captured, as the one who is called reads it. -/
def snap (m : Nat → Option Bk) : V → Option V
  | .ptr k _ p u => ob (m k) fun b =>
    match b with
    | .box x => some (.ep .ro u (x.get p))
    | .row => none
  | .ep .ro sh x => some (.ep .ro sh x)
  | .ep (.tg _) sh x => some (.ep .ro sh x)
  | .d x => some (.d x)
  | _ => none

def snapL (m : Nat → Option Bk) : V → Option V
  | .tnil => some .tnil
  | .tcons a b => ob (snap m a) fun a => ob (snapL m b) fun b => some (.tcons a b)
  | _ => none

def listV : V → List V
  | .tcons a b => a :: listV b
  | _ => []

def argV (m : Nat → Option Bk) : V → Option V
  | .d x => some (.d x)
  | .sl _ sh es => some (.sl .ro sh es)
  | .clos g c => ob (snapL m c) fun c => some (.clos g c)
  | _ => none

def capV : V → Option V
  | .ptr k sh p u => some (.ptr k sh p u)
  | .ep .ro sh x => some (.ep .ro sh x)
  | .ep (.tg k) sh x => some (.ep (.tg k) sh x)
  | .d x => some (.d x)
  | _ => none

/-- What a function literal captures. -/
def capL (E : Env) (s : St) : List Operand → Option V
  | [] => some .tnil
  | x :: r => ob (opd E 0 s x) fun v => ob (capV v) fun v => ob (capL E s r) fun c => some (.tcons v c)

def evFunc (E : Env) (s : St) (fn : Fn) (first caps : List Operand) : Option V :=
  match fn, first with
  | .func g, [] => ob (capL E s caps) fun c => some (.clos g c)
  | _, _ => none

def args (E : Env) (s : St) : List Operand → Option (List V)
  | [] => some []
  | x :: r => ob (opd E 0 s x) fun v => ob (argV s.m v) fun v => ob (args E s r) fun l => some (v :: l)

/-- What a call gave, in the caller's slot k: a slice is the caller's own row now. -/
def ret1 (k : Nat) : V → Option (V × Option Bk)
  | .d x => some (.d x, none)
  | .sl _ sh es => some (.sl (.tg k) sh es, some .row)
  | _ => none

/-- At most one part of a result is a slice. -/
def joinB : Option Bk → Option Bk → Option (Option Bk)
  | none, b => some b
  | some b, none => some (some b)
  | some _, some _ => none

def retT (k : Nat) : V → Option (V × Option Bk)
  | .tnil => some (.tnil, none)
  | .tcons a b => ob (ret1 k a) fun a => ob (retT k b) fun b => ob (joinB a.2 b.2) fun c => some (.tcons a.1 b.1, c)
  | _ => none

def retV (k : Nat) : V → Option (V × Option Bk)
  | .d x => some (.d x, none)
  | .sl _ sh es => some (.sl (.tg k) sh es, some .row)
  | .tnil => some (.tnil, none)
  | .tcons a b => retT k (.tcons a b)
  | .clos g .tnil => some (.clos g .tnil, none)
  | .clos g (.tcons (.ep _ sh x) .tnil) => some (.clos g (.tcons (.ep (.tg k) sh x) .tnil), some .row)
  | _ => none

def nthV : V → Nat → Option V
  | .tcons a _, 0 => some a
  | .tcons _ b, i + 1 => nthV b i
  | _, _ => none

/-- A value handed on; the nil slice, as a constant, is the slot's own row, with nothing in it. -/
def evMove (E : Env) (k t : Nat) (s : St) : Operand → Option (V × Option Bk)
  | .const (.slice none 0 0) =>
    match E.ty t with
    | some ⟨_, _, .slice e, _, _⟩ => ob (E.ty e) fun te => some (.sl (.tg k) te.sh [], some .row)
    | _ => none
  | x => ob (opd E t s x) fun v => some (v, none)

def evLoad (E : Env) (m : Nat → Option Bk) (t : Nat) : V → Option V
  | .ptr k _ p u => ob (E.ty t) fun ty => ob (m k) fun b =>
    match b with
    | .box x => if u = ty.sh then some (.d (x.get p)) else none
    | .row => none
  | .ep _ sh x => ob (E.ty t) fun ty => if sh = ty.sh then some (.d x) else none
  | _ => none

def evIndexAddr (E : Env) (t : Nat) (x i : V) : Option V :=
  match x, i with
  | .ptr k sh p (.arr l u), .d (.s (.int _ n)) => ob (E.ty t) fun ty =>
    match ty.kd with
    | .arr len e => ob (E.ty e) fun te => if len = l ∧ te.sh = u ∧ 0 ≤ n ∧ n < (l : Int) then some (.ptr k sh (p ++ [n.toNat]) u) else none
    | _ => none
  | .sl o sh es, .d (.s (.int _ n)) => ob (E.ty t) fun ty =>
    match ty.kd with
    | .slice e => ob (E.ty e) fun te => if te.sh = sh ∧ 0 ≤ n then ob es[n.toNat]? fun x => some (.ep o sh x) else none
    | _ => none
  | .ep o (.arr l u) x, .d (.s (.int _ n)) => ob (E.ty t) fun ty =>
    match ty.kd with
    | .arr len e => ob (E.ty e) fun te => if len = l ∧ te.sh = u ∧ 0 ≤ n ∧ n < (l : Int) then some (.ep o u (x.get [n.toNat])) else none
    | _ => none
  | .ms k l u, .d (.s (.int _ n)) => ob (E.ty t) fun ty =>
    match ty.kd with
    | .slice e => ob (E.ty e) fun te => if te.sh = u ∧ 0 ≤ n ∧ n < (l : Int) then some (.ptr k (.arr l u) [n.toNat] u) else none
    | _ => none
  | _, _ => none

def evFieldAddr (E : Env) (t j : Nat) : V → Option V
  | .ptr k sh p u => ob (E.ty t) fun ty =>
    match ty.kd with
    | .str _ => if u = ty.sh then ob (u.sub [j]) fun u' => if u'.size ≠ 0 then some (.ptr k sh (p ++ [j]) u') else none else none
    | _ => none
  | .ep o sh x => ob (E.ty t) fun ty =>
    match ty.kd with
    | .str _ => if sh = ty.sh then ob (sh.sub [j]) fun u' => if u'.size ≠ 0 then some (.ep o u' (x.get [j])) else none else none
    | _ => none
  | _ => none

def evIndex (E : Env) (t : Nat) (x i : V) : Option V :=
  match x, i with
  | .d (.arr n sh f), .d (.s (.int _ i)) => ob (E.ty t) fun ty =>
    match ty.kd with
    | .arr len e => ob (E.ty e) fun te => if len = n ∧ ty.sh = .arr n sh ∧ te.sh = sh ∧ 0 ≤ i ∧ i < (n : Int) then some (.d (f i.toNat)) else none
    | _ => none
  | .d (.s (.string b)), .d (.s (.int _ i)) => ob (E.ty t) fun ty =>
    match ty.kd with
    | .string => if 0 ≤ i then ob b[i.toNat]? fun c => some (.d (.s (.int .u8 c.toNat))) else none
    | _ => none
  | _, _ => none

def evField (E : Env) (t j : Nat) : V → Option V
  | .d x => ob (E.ty t) fun ty =>
    match ty.kd with
    | .str _ => if x.shape = ty.sh then ob (ty.sh.sub [j]) fun _ => some (.d (x.get [j])) else none
    | _ => none
  | _ => none

def evLen (E : Env) (t : Nat) : V → Option V
  | .ms _ n _ => ob (E.ty t) fun ty =>
    match ty.kd with
    | .slice _ => some (.d (.s (.int .i64 n)))
    | _ => none
  | .sl _ _ es => ob (E.ty t) fun ty =>
    match ty.kd with
    | .slice _ => some (.d (.s (.int .i64 es.length)))
    | _ => none
  | .d (.s (.string b)) => ob (E.ty t) fun ty =>
    match ty.kd with
    | .string => some (.d (.s (.int .i64 b.size)))
    | _ => none
  | .d (.s (.slice _ n _)) => ob (E.ty t) fun ty =>
    match ty.kd with
    | .slice _ => some (.d (.s (.int .i64 n)))
    | _ => none
  | _ => none

def byteOf : D → UInt8
  | .s (.int _ n) => UInt8.ofNat n.toNat
  | _ => 0
def bytesOf (es : List D) : ByteArray := ⟨(es.map byteOf).toArray⟩

def evConv (E : Env) (src dst : Nat) : V → Option V
  | .d (.s (.int _ n)) => ob (E.ty src) fun ts => ob (E.ty dst) fun td =>
    match ts.kd, td.kd with
    | .int _, .int k => some (.d (.s (.int k (k.wrap n))))
    | .int _, .float k => some (.d (.s (.float k (k.nearest n))))
    | _, _ => none
  | .d (.s (.float q b)) => ob (E.ty src) fun ts => ob (E.ty dst) fun td =>
    match ts.kd, td.kd with
    | .float _, .int k => ob ((q.decode b).toInt .zero) fun n => if k.min ≤ n ∧ n ≤ k.max then some (.d (.s (.int k n))) else none
    | _, _ => none
  | .sl _ sh es => ob (E.ty src) fun ts => ob (E.ty dst) fun td =>
    match ts.kd, td.kd with
    | .slice e, .string => ob (E.ty e) fun te => if te.kd = .int .u8 ∧ sh = .cell (.int .u8) then some (.d (.s (.string (bytesOf es)))) else none
    | _, _ => none
  | _ => none

def evUn (op : UnOp) : V → Option V
  | .d (.s x) => scal (Op.unary op x)
  | _ => none

def evPick (c : V) (a b : Option V) : Option V :=
  match c with
  | .d (.s (.bool true)) => a
  | .d (.s (.bool false)) => b
  | _ => none

/-- The greater, and the lesser, of two numbers. -/
def fMax (k : FloatKind) (x y : Nat) : Option Nat :=
  match k.format.order x y with
  | none => none
  | some .lt => some y
  | some .gt => some x
  | some .eq => some (if (k.decode x).neg then y else x)
def fMin (k : FloatKind) (x y : Nat) : Option Nat :=
  match k.format.order x y with
  | none => none
  | some .lt => some x
  | some .gt => some y
  | some .eq => some (if (k.decode x).neg then x else y)

def evMax : V → V → Option V
  | .d (.s (.int k a)), .d (.s (.int _ b)) => some (.d (.s (.int k (if b > a then b else a))))
  | .d (.s (.float k a)), .d (.s (.float _ b)) => ob (fMax k a b) fun r => some (.d (.s (.float k r)))
  | _, _ => none

def evMin : V → V → Option V
  | .d (.s (.int k a)), .d (.s (.int _ b)) => some (.d (.s (.int k (if b < a then b else a))))
  | .d (.s (.float k a)), .d (.s (.float _ b)) => ob (fMin k a b) fun r => some (.d (.s (.float k r)))
  | _, _ => none

def evBuild (E : Env) (s : St) (t : Nat) (parts : List (Nat × Operand)) : Option V :=
  ob (E.ty t) fun ty =>
    match ty.kd with
    | .arr _ _ => ob (fillD E s ty.sh parts ty.zero) fun z => some (.d z)
    | .str _ => ob (fillD E s ty.sh parts ty.zero) fun z => some (.d z)
    | _ => none

def evBuildSlice (E : Env) (s : St) (k t len : Nat) (parts : List (Nat × Operand)) : Option (V × Option Bk) :=
  ob (E.ty t) fun ty =>
    match ty.kd with
    | .slice e => ob (E.ty e) fun te =>
      if len ≤ 1000 ∧ len * te.sh.size ≤ 1000 then ob (fillL E s te.sh parts (List.replicate len te.zero)) fun es => some (.sl (.tg k) te.sh es, some .row) else none
    | _ => none

/-- The functions that write through their first argument, a slice, and answer nothing else: their answer here is what the slice holds then. -/
def muL : List Nat := []
def muB : List Nat → Nat → Bool
  | [], _ => false
  | a :: l, f => a == f || muB l f
def muF (f : Nat) : Bool := muB muL f
def isArr : List V → Bool
  | .d (.arr _ _ _) :: _ => true
  | _ => false
def mutq (f : Nat) (l : List V) : Bool := muF f && isArr l
theorem mutq_no {f : Nat} (l : List V) (h : muF f = false) : mutq f l = false := by unfold mutq; rw [h]; rfl
theorem noMut' (h : muL = []) : ∀ f l, mutq f l = false := fun f l => mutq_no l (by unfold muF; rw [h]; rfl)

/-- Which function is called, and with what it captured. -/
def callee (m : Nat → Option Bk) : V → Option (Nat × V)
  | .d (.s (.func (.func g) a b)) => if a.size = 0 ∧ b.size = 0 then some (g, .tnil) else none
  | .clos g c => ob (snapL m c) fun c => some (g, c)
  | _ => none

def evMake (E : Env) (k t : Nat) : V → V → Option (V × Option Bk)
  | .d (.s (.int _ l)), .d (.s (.int _ c)) => ob (E.ty t) fun ty =>
    match ty.kd with
    | .slice e => ob (E.ty e) fun te => if (0 ≤ l ∧ l ≤ c ∧ c ≤ 1000) ∧ te.bytes ≤ 1000 ∧ te.sh.size ≤ 1000 then some (.sl (.tg k) te.sh (List.replicate l.toNat te.zero), some .row) else none
    | _ => none
  | _, _ => none

def evBd (d : Int) : Option V → Option Int
  | none => some d
  | some (.d (.s (.int _ n))) => some n
  | _ => none
def opdO (E : Env) (s : St) : Option Operand → Option (Option V)
  | none => some none
  | some x => ob (opd E 0 s x) fun v => some (some v)
/-- A part of a slice that is only read. -/
def evSlice (E : Env) (t : Nat) (x : V) (lo hi : Option V) : Option V :=
  match x with
  | .sl .ro sh es => ob (E.ty t) fun ty =>
    match ty.kd with
    | .slice e => ob (E.ty e) fun te => ob (evBd 0 lo) fun l => ob (evBd es.length hi) fun h =>
      if te.sh = sh ∧ 0 ≤ l ∧ l ≤ h ∧ h ≤ (es.length : Int) then some (.sl .ro sh ((es.take h.toNat).drop l.toNat)) else none
    | _ => none
  | _ => none

def pure1 (v : Option V) : Option (V × Option Bk) := ob v fun v => some (v, none)

def evBuiltin (E : Env) (s : St) (b : Builtin) (as : List Operand) (ts : List Nat) : Option V :=
  match b, as, ts with
  | .len, [x], [t] => ob (opd E 0 s x) fun x => evLen E t x
  | .max, [x, y], _ => ob (opd E 0 s x) fun x => ob (opd E 0 s y) fun y => evMax x y
  | .min, [x, y], _ => ob (opd E 0 s x) fun x => ob (opd E 0 s y) fun y => evMin x y
  | _, _, _ => none

/-- An operation that changes no variable that was there: what its slot gets, and the new variable, or row, under its slot's number k. -/
def evP (E : Env) (call : Nat → List V → Option V) (k ty : Nat) (s : St) : Op → Option (V × Option Bk)
  | .move x => evMove E k ty s x
  | .assign x => evMove E k ty s x
  | .pick c a b => ob (opd E 4 s c) fun c => pure1 (evPick c (opd E ty s a) (opd E ty s b))
  | .box _ x => ob (opd E 0 s x) fun x => ob x.dat fun x => some (.ptr k x.shape [] x.shape, some (.box x))
  | .alloc t => ob (E.ty t) fun ty => some (.ptr k ty.sh [] ty.sh, some (.box ty.zero))
  | .load t a => ob (opd E 0 s a) fun a => pure1 (evLoad E s.m t a)
  | .indexAddr t x i => ob (opd E 0 s x) fun x => ob (opd E 0 s i) fun i => pure1 (evIndexAddr E t x i)
  | .fieldAddr t x j => ob (opd E 0 s x) fun x => pure1 (evFieldAddr E t j x)
  | .index t x i => ob (opd E 0 s x) fun x => ob (opd E 0 s i) fun i => pure1 (evIndex E t x i)
  | .field t x j => ob (opd E 0 s x) fun x => pure1 (evField E t j x)
  | .extract x i => ob (opd E 0 s x) fun x => pure1 (nthV x i)
  | .build t parts => pure1 (evBuild E s t parts.toList)
  | .buildSlice t len parts => evBuildSlice E s k t len parts.toList
  | .binOp op t x y _ => ob (opd E 0 s x) fun x => ob (opd E 0 s y) fun y => pure1 (evBin E op t x y)
  | .unOp op _ x => ob (opd E 0 s x) fun x => pure1 (evUn op x)
  | .convert src dst x => ob (opd E 0 s x) fun x => pure1 (evConv E src dst x)
  | .call { callee := .builtin b, args := as, argTypes := ts } => pure1 (evBuiltin E s b as.toList ts.toList)
  | .call { callee := .value f, args := as, argTypes := _ } =>
    ob (opd E 0 s f) fun f => ob (callee s.m f) fun g => ob (args E s as.toList) fun l => if mutq g.1 (l ++ listV g.2) = true then none else ob (call g.1 (l ++ listV g.2)) fun r => retV k r
  | .makeFunc fn first caps => pure1 (evFunc E s fn first.toList caps.toList)
  | .makeSlice t l c => ob (opd E 0 s l) fun l => ob (opd E 0 s c) fun c => evMake E k t l c
  | .slice t x lo hi none => ob (opd E 0 s x) fun x => ob (opdO E s lo) fun lo => ob (opdO E s hi) fun hi => pure1 (evSlice E t x lo hi)
  | _ => none

def evStore (E : Env) (s : St) (t : Nat) (a x : V) : Option St :=
  match a, x with
  | .ptr k _ p u, .d v => ob (E.ty t) fun ty => ob (s.m k) fun b =>
    match b with
    | .box y => if u = ty.sh ∧ v.shape = u then some { t := s.t, m := upd s.m k (some (.box (y.set p v))) } else none
    | .row => none
  | _, _ => none

def evAppend (E : Env) (s : St) (k t t' : Nat) (x y : V) : Option St :=
  match x, y with
  | .sl ow sh es, .sl _ sh' es' => ob (E.ty t) fun ty =>
    match ty.kd with
    | .slice e => ob (E.ty e) fun te =>
      if t = t' ∧ te.sh = sh ∧ sh' = sh ∧ 0 < sh.size then
        if (es.length + es'.length) * te.bytes ≤ 140737488355328 ∧ es.length + es'.length ≤ maxLen then
          match ow with
          | .tg k' => some { t := upd (fun i => (s.t i).kill k') k (.sl (.tg k') sh (es ++ es')), m := s.m }
          | .nil => some (s.app (some k) (.sl (.tg k) sh (es ++ es')) (some .row))
          | .ro => none
        else none
      else none
    | _ => none
  | _, _ => none

/-- The function that reverses a []int in place, if the program has it. -/
def rvF : Option Nat := none

/-- Behind a reversal: the same slice reads backward; whatever else points into the row is forgotten. -/
def rvV (k n : Nat) (es : List D) : V → V
  | .sl (.tg k') sh l => if k' = k then (if sh = .cell (.int .i64) ∧ l.length = n then .sl (.tg k) sh es else .junk) else .sl (.tg k') sh l
  | v => v.kill k

/-- .. behind a call that writes the slice: the same slice reads otherwise. -/
def muV (k : Nat) (sh : Sh) (n : Nat) (es : List D) : V → V
  | .sl (.tg k') sh' l => if k' = k then (if sh' = sh ∧ l.length = n then .sl (.tg k) sh es else .junk) else .sl (.tg k') sh' l
  | v => v.kill k

def evRev (s : St) (d : Nat) : V → Option St
  | .sl (.tg k) sh es => if sh = .cell (.int .i64) then some { t := upd (fun i => rvV k es.length es.reverse (s.t i)) d .tnil, m := s.m } else none
  | _ => none

def plainL : List V → Bool
  | [] => true
  | .d _ :: l => plainL l
  | _ => false
/-- A list, as an array: what lies behind its end is never read. -/
def arrOf (sh : Sh) (e : D) (es : List D) : D := .arr es.length sh fun i => es.getD i e
def listOf (n : Nat) (f : Nat → D) : List D := (List.range n).map f
/-- A call that writes through its first argument v: 'some none': it's no such slice. -/
def evMut (s : St) (call : List V → Option V) (l : List V) (d : Nat) : V → Option (Option St)
  | .ms k n u => if plainL l = true then ob (s.m k) fun b =>
    match b with
    | .box (.arr n' u' f) => ob (call (.d (.arr n' u' f) :: l)) fun r =>
      match r with
      | .d (.arr m v g) => if n' = n ∧ u' = u ∧ m = n ∧ v = u then some (some { t := upd s.t d .tnil, m := upd s.m k (some (.box (.arr m v g))) }) else none
      | _ => none
    | _ => none
    else none
  | .sl (.tg k) sh (e :: es) => if plainL l = true then ob (call (.d (arrOf sh e (e :: es)) :: l)) fun r =>
    match r with
    | .d (.arr m v g) => if m = es.length + 1 ∧ v = sh then some (some { t := upd (fun i => muV k sh (es.length + 1) (listOf m g) (s.t i)) d .tnil, m := s.m }) else none
    | _ => none
    else none
  | _ => some none

def mutN (E : Env) (call : Nat → List V → Option V) (d ty : Nat) (s : St) (op : Op) : Option St → Option St
  | some s' => some s'
  | none => ob (evP E call d ty s op) fun v => some (s.app (some d) v.1 v.2)
def mutS (E : Env) (call : Nat → List V → Option V) (dst : Option Nat) (ty : Nat) (s : St) (g : Nat) (as : Array Operand) (ts : Array Nat) : Option St :=
  match as.toList, dst with
  | x :: xs, some d => ob (opd E 0 s x) fun v => ob (args E s xs) fun l => ob (evMut s (call g) l d v) fun o => mutN E call d ty s (.call { callee := .value (.func g), args := as, argTypes := ts }) o
  | _, _ => none
def plainS (E : Env) (call : Nat → List V → Option V) (dst : Option Nat) (ty : Nat) (s : St) (g : Nat) (as : Array Operand) (ts : Array Nat) : Option St :=
  match rvF == some g with
  | true =>
    match as.toList, dst with
    | [x], some d => ob (opd E 0 s x) (evRev s d)
    | _, _ => none
  | false => ob (evP E call (dst.getD 0) ty s (.call { callee := .value (.func g), args := as, argTypes := ts })) fun v => some (s.app dst v.1 v.2)

/-- One operation. 'store', 'append', a reversal, and a call that writes through its argument, are those that may change what was there. -/
def evO (E : Env) (call : Nat → List V → Option V) (dst : Option Nat) (ty : Nat) (s : St) (op : Op) : Option St :=
  match op with
  | .store t a x =>
    match dst with
    | none => ob (opd E 0 s a) fun a => ob (opd E 0 s x) fun x => evStore E s t a x
    | some _ => none
  | .call { callee := .builtin .append, args := as, argTypes := ts } =>
    match as.toList, ts.toList, dst with
    | [x, y], [t, t'], some k => ob (opd E t s x) fun x => ob (opd E t s y) fun y => evAppend E s k t t' x y
    | _, _, _ => none
  | .call { callee := .value (.func g), args := as, argTypes := ts } =>
    match muF g with
    | true => mutS E call dst ty s g as ts
    | false => plainS E call dst ty s g as ts
  | op => ob (evP E call (dst.getD 0) ty s op) fun v => some (s.app dst v.1 v.2)

/-- Is the operation wanted? -/
def gdB (w : Bool) : V → Option Bool
  | .d (.s (.bool b)) => some (b == w)
  | .undef => some false
  | _ => none

def evGd (E : Env) (call : Nat → List V → Option V) (dst : Option Nat) (ty : Nat) (s : St) (op : Op) (b : Bool) : Option St :=
  match b with
  | true => evO E call dst ty s op
  | false => some (s.app dst .undef none)

def evG (E : Env) (call : Nat → List V → Option V) (ops : List Oper) (o : Oper) (s : St) : Option St :=
  match o.guard with
  | none => evO E call o.dst o.type s o.op
  | some (j, w) =>
    match (ops[j]?).bind (·.dst) with
    | none => some (s.app o.dst .undef none)
    | some d => ob (gdB w (s.t d)) fun b => evGd E call o.dst o.type s o.op b

def evOps (E : Env) (call : Nat → List V → Option V) (ops : List Oper) : List Oper → St → Option St
  | [], s => some s
  | o :: r, s => ob (evG E call ops o s) fun s => evOps E call ops r s

inductive Ex where
  | normal
  | exit (id : Nat)
  | goto (l : Nat)
  | ret
  deriving DecidableEq

def iter : Nat → (St → Option (Ex × St)) → St → Option (Ex × St)
  | 0, _, _ => none
  | n + 1, f, s =>
    match f s with
    | some (.normal, s) => iter n f s
    | r => r

def jumps : Nat → (Nat → St → Option (Ex × St)) → (Nat → Bool) → Option (Ex × St) → Option (Ex × St)
  | 0, _, _, _ => none
  | n + 1, f, h, r =>
    match r with
    | some (.goto l, s) => if h l then jumps n f h (f l s) else r
    | r => r

/-- The number of a piece of code: its first region's. -/
def rid : Code → Nat
  | .region id _ _ => id
  | .seq a _ => rid a
  | .cond _ a _ => rid a
  | .block _ c => rid c
  | .loop c => rid c
  | .scope c => rid c
  | _ => 0

/-- Ahead of a loop, and behind each round: what no later round reads is forgotten. -/
def St.forget (b : List Nat × List Nat) (s : St) : Option St :=
  if (b.1.all fun i => (s.t i).keysIn b.2) = true then some { t := tab .junk (b.1.map fun i => (i, s.t i)), m := tab none (b.2.map fun i => (i, s.m i)) } else none

/-- Of a region that draws its order: what its operations write is new in memory. -/
def clearD (s : St) : List Oper → Bool
  | [] => true
  | o :: r =>
    match o.dst with
    | none => clearD s r
    | some d =>
      match s.m d with
      | none => clearD s r
      | some _ => false

def hasLab (c : Code) (l : Nat) : Bool := (findLabel c l).isSome

/- Joints of pieces of code. -/
def sq (r : Option (Ex × St)) (f : St → Option (Ex × St)) : Option (Ex × St) :=
  match r with
  | some (.normal, s) => f s
  | r => r
def bkx (id : Nat) (r : Option (Ex × St)) : Option (Ex × St) :=
  match r with
  | some (.exit i, s) => if i = id then some (.normal, s) else some (.exit i, s)
  | r => r
def cd {α : Type} (v : Option V) (x y : Option α) : Option α :=
  match v with
  | some (.d (.s (.bool true))) => x
  | some (.d (.s (.bool false))) => y
  | _ => none
def fgt (b : List Nat × List Nat) (r : Option (Ex × St)) : Option (Ex × St) := sq r fun s => ob (s.forget b) fun s => some (.normal, s)

mutual
def evC (E : Env) (call : Nat → List V → Option V) (fn lf : Nat) : Code → St → Option (Ex × St)
  | .skip, s => some (.normal, s)
  | .region id ops dr, s =>
    match dr with
    | false => ob (evOps E call ops.toList ops.toList s) fun s => some (.normal, s)
    | true => if clearD s ops.toList = true then ob (evOps E call ops.toList ops.toList s) fun s => if ((E.dp fn id).all fun p => (s.t p.1).keyNe (s.t p.2)) = true then some (.normal, s) else none else none
  | .seq a b, s => sq (evC E call fn lf a s) fun s => evC E call fn lf b s
  | .cond c a b, s => cd (opd E 4 s c) (evC E call fn lf a s) (evC E call fn lf b s)
  | .block id c, s => bkx id (evC E call fn lf c s)
  | .loop c, s => ob (s.forget (E.kl fn (rid c))) fun s => iter lf (fun s => fgt (E.kl fn (rid c)) (evC E call fn lf c s)) s
  | .exit id, s => some (.exit id, s)
  | .scope c, s => jumps lf (fun l s => evL E call fn lf c l s) (hasLab c) (evC E call fn lf c s)
  | .label _, s => some (.normal, s)
  | .goto l, s => ob (s.forget (E.gl fn l)) fun s => some (.goto l, s)
  | .ret, s => some (.ret, s)
  | .rangeFunc .., _ => none
  | .refuse _, _ => none
def evL (E : Env) (call : Nat → List V → Option V) (fn lf : Nat) : Code → Nat → St → Option (Ex × St)
  | .seq a b, l, s =>
    if hasLab a l then sq (evL E call fn lf a l s) fun s => evC E call fn lf b s
    else evL E call fn lf b l s
  | .label l', l, s => if l' = l then some (.normal, s) else none
  | _, _, _ => none
end

def resV (m : Nat → Option Bk) : V → Option V
  | .d x => some (.d x)
  | .sl .nil sh es => some (.sl .ro sh es)
  | .sl (.tg _) sh es => some (.sl .ro sh es)
  | .clos g .tnil => some (.clos g .tnil)
  | .clos g (.tcons (.ptr k _ p u) .tnil) => ob (m k) fun b =>
    match b with
    | .box x => some (.clos g (.tcons (.ep .ro u (x.get p)) .tnil))
    | .row => none
  | _ => none

def res1 (E : Env) (s : St) : ResultVar → Option V
  | .tmp t => resV s.m (s.t t)
  | .cell a t => evLoad E s.m t (s.t a)

def resL (E : Env) (s : St) : List ResultVar → Option V
  | [] => some .tnil
  | r :: l => ob (res1 E s r) fun a => ob (resL E s l) fun b => some (.tcons a b)

def resF (E : Env) (s : St) (rs : List ResultVar) : Option V :=
  match rs with
  | [r] => res1 E s r
  | rs => resL E s rs

def resX (E : Env) (rs : List ResultVar) : Option (Ex × St) → Option V
  | some (.normal, s) => resF E s rs
  | some (.ret, s) => resF E s rs
  | _ => none

def loopFuel : Nat := 18446744073709551616

def frame (i : Nat) : List V → List (Nat × V)
  | [] => []
  | v :: l => (i, v) :: frame (i + 1) l

def enter (vs : List V) : St := { t := tab .undef (frame 0 vs), m := fun _ => none }

/-- A function that writes through its first argument: that is the variable of slot nt. -/
def enterM (nt n : Nat) (u : Sh) (x : D) (l : List V) : St := { t := tab .undef ((0, .ms nt n u) :: frame 1 l), m := tab none [(nt, some (.box x))] }
def resB (nt : Nat) (s : St) : Option V := ob (s.m nt) fun b =>
  match b with
  | .box x => some (.d x)
  | .row => none
def resM (nt : Nat) : Option (Ex × St) → Option V
  | some (.normal, s) => resB nt s
  | some (.ret, s) => resB nt s
  | _ => none
def runF (E : Env) (call : Nat → List V → Option V) (f : Nat) (fn : Func) (c : Code) (vs : List V) : Option V :=
  match muF f, vs with
  | true, .d (.arr n u g) :: l => if fn.results.size = 0 ∧ plainL l = true then resM fn.ntmps (evC E call f loopFuel c (enterM fn.ntmps n u (.arr n u g) l)) else none
  | _, vs => resX E fn.results.toList (evC E call f loopFuel c (enter vs))

/-- A function, at a depth of calls. -/
def evF (P : Program) (E : Env) (ext : Nat → List V → Option V) : Nat → Nat → List V → Option V
  | 0, _, _ => none
  | n + 1, f, vs =>
    match ext f vs with
    | some r => some r
    | none =>
      ob P.funcs[f]? fun fn => ob fn.body fun c =>
        if E.ok f = true ∧ vs.length ≤ fn.ntmps then runF E (evF P E ext n) f fn c vs else none

theorem mutq_some {f : Nat} {l : List V} (h : mutq f l = true) : muF f = true ∧ ∃ m u g l', l = .d (.arr m u g) :: l' := by
  unfold mutq at h
  rw [Bool.and_eq_true] at h
  refine ⟨h.1, ?_⟩
  have h2 := h.2
  unfold isArr at h2
  split at h2
  · exact ⟨_, _, _, _, rfl⟩
  · cases h2
theorem runF_mu {E : Env} {call : Nat → List V → Option V} {f : Nat} {fn : Func} {c : Code} {n : Nat} {u : Sh} {g : Nat → D} {l : List V} (h : muF f = true) :
    runF E call f fn c (.d (.arr n u g) :: l) = if fn.results.size = 0 ∧ plainL l = true then resM fn.ntmps (evC E call f loopFuel c (enterM fn.ntmps n u (.arr n u g) l)) else none := by
  simp only [runF, h]
theorem runF_no {E : Env} {call : Nat → List V → Option V} {f : Nat} {fn : Func} {c : Code} {vs : List V} (h : mutq f vs = false) : runF E call f fn c vs = resX E fn.results.toList (evC E call f loopFuel c (enter vs)) := by
  unfold runF
  split
  · rename_i hm; unfold mutq at h; rw [hm] at h; cases h
  · rfl
theorem evF_eq {P : Program} {E : Env} {ext : Nat → List V → Option V} {f : Nat} {fn : Func} {c : Code} {vs : List V} (hf : P.funcs[f]? = some fn) (hb : fn.body = some c)
    (he : ext f vs = none) (ho : E.ok f = true) (hm : mutq f vs = false) (hl : vs.length ≤ fn.ntmps) (n : Nat) :
    evF P E ext (n + 1) f vs = resX E fn.results.toList (evC E (evF P E ext n) f loopFuel c (enter vs)) := by
  simp only [evF, he, hf, hb, ob_some, ho, hl, and_self, if_true, runF_no hm]
theorem evF_eqM {P : Program} {E : Env} {ext : Nat → List V → Option V} {f : Nat} {fn : Func} {c : Code} {m : Nat} {u : Sh} {g : Nat → D} {l : List V} (hf : P.funcs[f]? = some fn) (hb : fn.body = some c)
    (he : ext f (.d (.arr m u g) :: l) = none) (ho : E.ok f = true) (hm : muF f = true) (hl : l.length + 1 ≤ fn.ntmps) (hr : fn.results.size = 0) (hp : plainL l = true) (n : Nat) :
    evF P E ext (n + 1) f (.d (.arr m u g) :: l) = resM fn.ntmps (evC E (evF P E ext n) f loopFuel c (enterM fn.ntmps m u (.arr m u g) l)) := by
  simp only [evF, he, hf, hb, ob_some, ho, List.length_cons, hl, and_self, if_true, runF, hm, hr, hp]

end Go.Proofs.YtjceimcepogkaaaGreatDoor.Ev
