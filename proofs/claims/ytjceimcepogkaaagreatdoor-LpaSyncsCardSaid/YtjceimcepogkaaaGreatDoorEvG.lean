/-
  Functions whose answers are shown by hand: what they answer, for the evaluator.
-/
import Derived.Test.YtjceimcepogkaaaGreatDoorEvK
namespace Go.Proofs.YtjceimcepogkaaaGreatDoor.Ev
open Go

abbrev dI (n : Int) : D := .s (.int .i64 n)
abbrev dU (n : Int) : D := .s (.int .u32 n)
abbrev cI : Sh := .cell (.int .i64)
abbrev cU : Sh := .cell (.int .u32)
def right (n : Int) : Bool := decide (0 ≤ n) && decide (n < 16)
def has (s n : Int) : Bool := right n && (bits .and .i64 (s.fdiv (2 ^ (min n.toNat 64))) 1 == 1)
def withN (s n : Int) : Int := if right n = true then bits .or .i64 s (IntKind.i64.wrap (1 * 2 ^ (min n.toNat 64))) else s
def withoutN (s n : Int) : Int := if right n = true then bits .andNot .i64 s (IntKind.i64.wrap (1 * 2 ^ (min n.toNat 64))) else s

def hdD : D → D
  | .cons a _ => a
  | x => x
def tlD : D → D
  | .cons _ b => b
  | x => x
def arrF : D → Nat → D
  | .arr _ _ f => f
  | x => fun _ => x
def entU (x : D) : Int := intOf (hdD x)
def entI (x : D) : Int := intOf (hdD (tlD x))
abbrev shE : Sh := .cons cU (.cons cI .nil)
abbrev shT : Sh := .arr 16 shE
abbrev entD (a b : Int) : D := .cons (dU a) (.cons (dI b) .nil)
abbrev treeD (d p : Nat → Int) : D := .arr 16 shE fun i => .cons (dU (d i)) (.cons (dI (p i)) .nil)

/- Items: what is told, asked and replied. -/
abbrev shI : Sh := .cons cI (.cons cI (.cons cU (.cons cI .nil)))
abbrev itD (j k d p : Int) : D := .cons (dI j) (.cons (dI k) (.cons (dU d) (.cons (dI p) .nil)))
def rndI (d p : Nat → Int) (tell ask reply : Int) (k : Nat) : List D :=
  ((if has ask k = true then [itD k 1 (d k) (p k)] else []) ++ (if has reply k = true then [itD k 2 (d k) (p k)] else [])) ++ (if (has tell k && (!has ask k && !has reply k)) = true then [itD k 0 (d k) (p k)] else [])
def itemsTo (d p : Nat → Int) (tell ask reply : Int) (k : Nat) : List D := upto (fun i l => l ++ rndI d p tell ask reply i) [] k
def itRes : List V → Option V
  | [.d x, .d (.s (.int .i64 t)), .d (.s (.int .i64 a)), .d (.s (.int .i64 r))] => if x.shape = shT then some (.sl .ro shI (itemsTo (fun i => entU (arrF x i)) (fun i => entI (arrF x i)) t a r 16)) else none
  | _ => none
/- Parse: a text as a set of nodes. -/
def parseGo (b : ByteArray) : Nat → Nat → Int → Int → Int × Int
  | 0, _, set, _ => if set = 0 then (0, 3) else (set, 0)
  | n + 1, pos, set, last =>
    if pos < b.size then
      let c : Int := ((Utf8.decode b pos).1 : Nat)
      if c ≤ last ∨ 112 < c then (0, 3) else parseGo b n (pos + (Utf8.decode b pos).2) (withN set (c - 97)) c
    else if set = 0 then (0, 3) else (set, 0)
def parseF (b : ByteArray) : Int × Int := if b == ⟨#[46]⟩ then (0, 0) else parseGo b b.size 0 0 96
def paRes : List V → Option V
  | [.d (.s (.string b))] => some (.tcons (.d (dI (parseF b).1)) (.tcons (.d (dI (parseF b).2)) .tnil))
  | _ => none

def itF : Option Nat := some 71
def paF : Option Nat := none
def isF : Option Nat → Nat → Bool
  | some a, b => a == b
  | none, _ => false
def xt (f : Nat) (l : List V) : Option V :=
  match isF itF f with
  | true => itRes l
  | false =>
    match isF paF f with
    | true => paRes l
    | false => none
theorem tree_of {x : D} (h : x.shape = shT) (hw : x.WF) : x = treeD (fun i => entU (arrF x i)) (fun i => entI (arrF x i)) := by
  obtain ⟨f, rfl, hf⟩ := of_arr h hw
  refine congrArg (D.arr 16 shE) (funext fun i => ?_)
  obtain ⟨y, z, e1, h1, h2⟩ := of_cons (hf i).2
  obtain ⟨y', z', rfl, h3, h4⟩ := of_cons h2
  show f i = .cons (dU (entU (f i))) (.cons (dI (entI (f i))) .nil)
  rw [e1]
  simp only [entU, entI, hdD, tlD]
  exact congr (congrArg D.cons (of_cell h1)) (congr (congrArg D.cons (of_cell h3)) (of_nil h4))
theorem xt_it {f : Nat} {l : List V} (h : isF itF f = true) : xt f l = itRes l := by unfold xt; rw [h]
theorem xt_pa {f : Nat} {l : List V} (h : isF itF f = false) (h2 : isF paF f = true) : xt f l = paRes l := by unfold xt; rw [h, h2]
end Go.Proofs.YtjceimcepogkaaaGreatDoor.Ev
