/-
  Regions that draw their order: whatever order the edges allow comes to the order of the text.
-/
import Derived.Test.YtjceimcepogkaaaGreatDoorEvR
import Derived.Orders
namespace Go.Proofs.YtjceimcepogkaaaGreatDoor.Ev
open Go Go.RowKit

def eff : Op → Bool
  | .store _ _ _ => true
  | .call { callee := .builtin .append, args := _, argTypes := _ } => true
  | .call { callee := .value (.func g), args := _, argTypes := _ } => muF g || rvF == some g
  | _ => false

def cloStep (acc : List Nat) (es : List Edge) : Nat := es.foldl (fun s e => if Region.binds .any e then s ||| 2 ^ e.on ||| acc.getD e.on 0 else s) 0
def clo : List Oper → List Nat → List Nat
  | [], acc => acc
  | o :: r, acc => clo r (acc ++ [cloStep acc o.after.toList])

def isApp : Op → Bool
  | .call { callee := .builtin .append, args := _, argTypes := _ } => true
  | .call { callee := .value (.func g), args := _, argTypes := _ } => muF g || rvF == some g
  | _ => false

def tmpsOf : List Operand → List Nat
  | [] => []
  | .tmp b :: r => b :: tmpsOf r
  | _ :: r => tmpsOf r
theorem mem_tmpsOf {b : Nat} : ∀ {xs : List Operand}, b ∈ tmpsOf xs ↔ .tmp b ∈ xs
  | [] => by simp [tmpsOf]
  | .tmp c :: r => by simp [tmpsOf, mem_tmpsOf (xs := r)]
  | .const _ :: r => by simp [tmpsOf, mem_tmpsOf (xs := r)]
  | .global _ :: r => by simp [tmpsOf, mem_tmpsOf (xs := r)]
  | .func _ :: r => by simp [tmpsOf, mem_tmpsOf (xs := r)]
/-- The slots through which an operation may look into memory: a load's, a call's (closures). -/
def rdSlots : Op → List Nat
  | .load _ (.tmp b) => [b]
  | .call { callee := .value f, args := xs, argTypes := _ } => tmpsOf (f :: xs.toList)
  | _ => []
/-- Does an operation look at variable k through that value? -/
def V.rk (k : Nat) : V → Bool
  | .ptr k' _ _ _ => k' == k
  | .clos _ c => c.has k
  | _ => false
theorem rk_has {v : V} {k : Nat} (h : v.rk k = true) : v.has k = true := by
  cases v <;> simp_all [V.rk, V.has]

/-- A store that may come ahead of what stands ahead of it in the text: a load looks at another variable (pairs of slots, looked at by the evaluator). -/
def early (dp : List (Nat × Nat)) (ops : Array Oper) (c : List Nat) (i j : Nat) (o p : Oper) : Bool :=
  match o.op, o.guard with
  | .store _ (.tmp a) _, none => o.dst.isNone && !eff p.op && p.apart ops o && ((List.range ops.size).all fun q => match ops[q]? with
      | none => true
      | some z => !isApp z.op && (z.dst != some a || (c.getD i 0).testBit q)) &&
      ((rdSlots p.op).all fun b => dp.contains (a, b) && (List.range ops.size).all fun q => match ops[q]? with
          | none => true
          | some z => q < j || z.dst != some b)
  | _, _ => false

def pairOK (dp : List (Nat × Nat)) (ops : Array Oper) (c : List Nat) (i j : Nat) (o p : Oper) : Bool :=
  (o.dst.isNone || p.dst != o.dst) && ((c.getD i 0).testBit j || (!eff p.op && !eff o.op && p.apart ops o) || early dp ops c i j o p)

def rowOK (dp : List (Nat × Nat)) (ops : Array Oper) (c : List Nat) (i : Nat) : Bool :=
  match ops[i]? with
  | none => true
  | some o => o.after.toList.all (fun e => !Region.binds .any e || e.on < i) && (List.range i).all fun j =>
    match ops[j]? with
    | none => true
    | some p => pairOK dp ops c i j o p

def okDraw (dp : List (Nat × Nat)) (ops : Array Oper) : Bool := (List.range ops.size).all fun i => rowOK dp ops (clo ops.toList []) i

section
variable {L : Nat → Prop}

theorem cloStep_in {acc : List Nat} (hacc : ∀ i, L i → ∀ j, (acc.getD i 0).testBit j = true → L j) : ∀ (es : List Edge) (x : Nat), (∀ j, x.testBit j = true → L j) → (∀ e ∈ es, Region.binds .any e = true → L e.on) →
    ∀ j, (es.foldl (fun s e => if Region.binds .any e then s ||| 2 ^ e.on ||| acc.getD e.on 0 else s) x).testBit j = true → L j
  | [], x, hx, _, j, h => hx j h
  | e :: es, x, hx, he, j, h => by
    simp only [List.foldl_cons] at h
    refine cloStep_in hacc es _ (fun j' hj' => ?_) (fun e' he' => he e' (by simp [he'])) j h
    by_cases hb : Region.binds .any e = true
    · rw [if_pos hb] at hj'
      have hL := he e (by simp) hb
      simp only [Nat.testBit_or, Bool.or_eq_true, Nat.testBit_two_pow, decide_eq_true_eq] at hj'
      rcases hj' with (h1 | h1) | h1
      · exact hx j' h1
      · subst h1; exact hL
      · exact hacc _ hL j' h1
    · rw [if_neg hb] at hj'; exact hx j' hj'

theorem clo_in (ops : List Oper) (hL : ∀ (i : Nat) (o : Oper), ops[i]? = some o → L i → ∀ e ∈ o.after.toList, Region.binds .any e = true → L e.on) :
    ∀ (r : List Oper) (acc : List Nat) (k : Nat), acc.length = k → r = ops.drop k →
      (∀ (i : Nat) (o : Oper), i < k → ops[i]? = some o → (∀ e ∈ o.after.toList, Region.binds .any e = true → L e.on) → ∀ j, (acc.getD i 0).testBit j = true → L j) →
      ∀ (i : Nat) (o : Oper), ops[i]? = some o → (∀ e ∈ o.after.toList, Region.binds .any e = true → L e.on) → ∀ j, ((clo r acc).getD i 0).testBit j = true → L j
  | [], acc, k, hk, hr, hacc, i, o, ho, he, j, hj => by
    have hlen : ops.length ≤ k := by
      rcases Nat.lt_or_ge k ops.length with h | h
      · have := congrArg List.length hr; simp at this; omega
      · exact h
    have hi : i < ops.length := (List.getElem?_eq_some_iff.1 ho).1
    exact hacc i o (by omega) ho he j hj
  | p :: r, acc, k, hk, hr, hacc, i, o, ho, he, j, hj => by
    have hkl : ops[k]? = some p := by
      have := congrArg (fun l => l[0]?) hr
      simpa using this.symm
    refine clo_in ops hL r (acc ++ [cloStep acc p.after.toList]) (k + 1) (by simp [hk]) ?_ ?_ i o ho he j hj
    · have := congrArg List.tail hr
      simpa using this
    · intro i' o' hi' ho' he' j' hj'
      by_cases hc : i' = k
      · subst hc
        rw [hkl] at ho'; cases ho'
        have e : (acc ++ [cloStep acc p.after.toList]).getD i' 0 = cloStep acc p.after.toList := by
          simp [List.getD, List.getElem?_append_right (Nat.le_of_eq hk), hk]
        rw [e] at hj'
        refine cloStep_in (acc := acc) (fun i'' hLi j'' hj'' => ?_) p.after.toList 0 (fun j h => by simp at h) he' j' hj'
        by_cases hlt : i'' < acc.length
        · have hlt' : i'' < ops.length := by have := (List.getElem?_eq_some_iff.1 hkl).1; omega
          exact hacc i'' _ (by omega) (List.getElem?_eq_getElem hlt') (hL i'' _ (List.getElem?_eq_getElem hlt') hLi) j'' hj''
        · rw [List.getD, List.getElem?_eq_none (Nat.le_of_not_lt hlt)] at hj''; simp at hj''
      · have hlt : i' < acc.length := by omega
        have e : (acc ++ [cloStep acc p.after.toList]).getD i' 0 = acc.getD i' 0 := by
          simp [List.getD, List.getElem?_append_left hlt]
        rw [e] at hj'
        exact hacc i' o' (by omega) ho' he' j' hj'
end

/- What an operation looks at. -/
section
variable {E : Env} {call : Nat → List V → Option V} {s s' : St} {k ty : Nat}

/-- Two states are alike for these operands. -/
structure Alike (s s' : St) (x : Operand) : Prop where
  t : ∀ i, x = .tmp i → s.t i = s'.t i

theorem opd_alike {t : Nat} {x : Operand} (h : Alike s s' x) : opd E t s x = opd E t s' x := by
  cases x with
  | tmp i => simp only [opd]; rw [h.t i rfl]
  | _ => rfl

theorem opd_mem {t : Nat} {x : Operand} (h : ∀ i, x = .tmp i → ∀ k sh p u, s.t i = .ptr k sh p u → s.m k = s'.m k) {v : V} (hv : opd E t s x = some v) (k : Nat) (sh : Sh) (p : List Nat) (u : Sh) (hk : v = .ptr k sh p u) : s.m k = s'.m k := by
  cases x with
  | tmp i => simp only [opd] at hv; cases hv; exact h i rfl k sh p u hk
  | const c =>
    have h2 : cst E t c = some v := hv
    subst hk
    unfold cst at h2
    split at h2
    · split at h2
      · obtain ⟨te, _, h3⟩ := ob_eq_some h2; cases h3
      · cases h2
    all_goals cases h2
  | global g => cases hv
  | func f => simp only [opd] at hv; cases hv; cases hk

theorem evMove_alike {t : Nat} {x : Operand} (h : Alike s s' x) : evMove E k t s x = evMove E k t s' x := by
  unfold evMove
  split
  · rfl
  · rw [opd_alike h]

theorem snap_alike {m m' : Nat → Option Bk} {v : V} (h : ∀ k, v.has k = true → m k = m' k) : snap m v = snap m' v := by
  cases v with
  | ptr k sh p u => simp only [snap]; rw [h k (by simp [V.has])]
  | ep o sh x => cases o <;> rfl
  | _ => rfl
theorem snapL_alike {m m' : Nat → Option Bk} : ∀ {v : V}, (∀ k, v.has k = true → m k = m' k) → snapL m v = snapL m' v
  | .tcons a b, h => by
    simp only [snapL]
    rw [snap_alike (v := a) fun k hk => h k (by simp [V.has, hk]), snapL_alike (v := b) fun k hk => h k (by simp [V.has, hk])]
  | .tnil, _ => rfl
  | .d _, _ => rfl
  | .ptr _ _ _ _, _ => rfl
  | .sl _ _ _, _ => rfl
  | .ep _ _ _, _ => rfl
  | .undef, _ => rfl
  | .junk, _ => rfl
  | .clos _ _, _ => rfl
  | .ms _ _ _, _ => rfl
theorem argV_alike {m m' : Nat → Option Bk} {v : V} (h : ∀ k, v.rk k = true → m k = m' k) : argV m v = argV m' v := by
  cases v with
  | clos g c => simp only [argV]; rw [snapL_alike fun k hk => h k hk]
  | _ => rfl
theorem callee_alike {m m' : Nat → Option Bk} {v : V} (h : ∀ k, v.rk k = true → m k = m' k) : callee m v = callee m' v := by
  cases v with
  | clos g c => simp only [callee]; rw [snapL_alike fun k hk => h k hk]
  | d x =>
    cases x with
    | s v =>
      cases v with
      | func f a b => cases f <;> rfl
      | _ => rfl
    | _ => rfl
  | _ => rfl

theorem opd_rk {t : Nat} {x : Operand} (h : ∀ i, x = .tmp i → ∀ k, (s.t i).rk k = true → s.m k = s'.m k) {v : V} (hv : opd E t s x = some v) (k : Nat) (hk : v.rk k = true) : s.m k = s'.m k := by
  cases x with
  | tmp i => simp only [opd] at hv; cases hv; exact h i rfl k hk
  | const c =>
    have h2 : cst E t c = some v := hv
    unfold cst at h2
    split at h2
    · split at h2
      · obtain ⟨te, _, h3⟩ := ob_eq_some h2; cases h3; cases hk
      · cases h2
    all_goals first | (cases h2; cases hk) | cases h2
  | global g => cases hv
  | func f => simp only [opd] at hv; cases hv; cases hk

theorem args_alike : ∀ (xs : List Operand), (∀ x ∈ xs, Alike s s' x) → (∀ b, .tmp b ∈ xs → ∀ k, (s.t b).rk k = true → s.m k = s'.m k) → args E s xs = args E s' xs
  | [], _, _ => rfl
  | x :: xs, h, hm => by
    simp only [args]
    rw [← opd_alike (h x (by simp)), args_alike xs (fun y hy => h y (by simp [hy])) fun b hb => hm b (by simp [hb])]
    cases hv : opd E 0 s x with
    | none => rfl
    | some v => simp only [ob_some]; rw [argV_alike (opd_rk (fun i e => hm i (by simp [e])) hv)]

theorem capL_alike : ∀ (xs : List Operand), (∀ x ∈ xs, Alike s s' x) → capL E s xs = capL E s' xs
  | [], _ => rfl
  | x :: xs, h => by simp only [capL]; rw [opd_alike (h x (by simp)), capL_alike xs fun y hy => h y (by simp [hy])]

theorem fillD_alike {sh : Sh} : ∀ (xs : List (Nat × Operand)) (z : D), (∀ x ∈ xs, Alike s s' x.2) → fillD E s sh xs z = fillD E s' sh xs z
  | [], _, _ => rfl
  | (i, x) :: xs, z, h => by
    simp only [fillD]
    rw [opd_alike (h (i, x) (by simp))]
    cases opd E 0 s' x with
    | none => rfl
    | some v =>
      simp only [ob_some]
      cases v.dat with
      | none => rfl
      | some y => simp only [ob_some]; rw [fillD_alike xs _ fun q hq => h q (by simp [hq])]

theorem fillL_alike {sh : Sh} : ∀ (xs : List (Nat × Operand)) (z : List D), (∀ x ∈ xs, Alike s s' x.2) → fillL E s sh xs z = fillL E s' sh xs z
  | [], _, _ => rfl
  | (i, x) :: xs, z, h => by
    simp only [fillL]
    rw [opd_alike (h (i, x) (by simp))]
    cases opd E 0 s' x with
    | none => rfl
    | some v =>
      simp only [ob_some]
      cases v.dat with
      | none => rfl
      | some y => simp only [ob_some]; rw [fillL_alike xs _ fun q hq => h q (by simp [hq])]

theorem evBuiltin_alike {b : Builtin} {xs : List Operand} {ts : List Nat} (h : ∀ x ∈ xs, Alike s s' x) : evBuiltin E s b xs ts = evBuiltin E s' b xs ts := by
  unfold evBuiltin
  split
  · rw [opd_alike (h _ (by simp))]
  · rw [opd_alike (h _ (by simp)), opd_alike (h _ (by simp))]
  · rw [opd_alike (h _ (by simp)), opd_alike (h _ (by simp))]
  · rfl

theorem evLoad_alike {t : Nat} {v : V} (h : ∀ k sh p u, v = .ptr k sh p u → s.m k = s'.m k) : evLoad E s.m t v = evLoad E s'.m t v := by
  cases v with
  | ptr k sh p u => simp only [evLoad]; rw [h k sh p u rfl]
  | _ => rfl

theorem evP_alike {op : Op} (h : ∀ x ∈ op.operands, Alike s s' x) (hm : ∀ b, b ∈ rdSlots op → ∀ k, (s.t b).rk k = true → s.m k = s'.m k) : evP E call k ty s op = evP E call k ty s' op := by
  cases op
  case move x => exact evMove_alike (h x (by simp [Op.operands]))
  case assign x => exact evMove_alike (h x (by simp [Op.operands]))
  case pick c x y =>
    simp only [evP]
    rw [opd_alike (h c (by simp [Op.operands])), opd_alike (h x (by simp [Op.operands])), opd_alike (h y (by simp [Op.operands]))]
  case box t x => simp only [evP]; rw [opd_alike (h x (by simp [Op.operands]))]
  case alloc t => rfl
  case load t x =>
    simp only [evP]
    have hx := h x (by simp [Op.operands])
    rw [← opd_alike hx]
    cases hv : opd E 0 s x with
    | none => rfl
    | some v => simp only [ob_some]; rw [evLoad_alike (fun k sh p u hk => opd_mem (fun i e k sh p u hk => by subst e; exact hm i (by simp [rdSlots]) k (by rw [hk]; simp [V.rk])) hv k sh p u hk)]
  case indexAddr t x i => simp only [evP]; rw [opd_alike (h x (by simp [Op.operands])), opd_alike (h i (by simp [Op.operands]))]
  case fieldAddr t x j => simp only [evP]; rw [opd_alike (h x (by simp [Op.operands]))]
  case index t x i => simp only [evP]; rw [opd_alike (h x (by simp [Op.operands])), opd_alike (h i (by simp [Op.operands]))]
  case field t x j => simp only [evP]; rw [opd_alike (h x (by simp [Op.operands]))]
  case extract x i => simp only [evP]; rw [opd_alike (h x (by simp [Op.operands]))]
  case build t parts =>
    simp only [evP, evBuild]
    have : ∀ sh z, fillD E s sh parts.toList z = fillD E s' sh parts.toList z := fun sh z => fillD_alike _ _ fun q hq => h q.2 (by simp [Op.operands]; exact ⟨q.1, by simpa using hq⟩)
    simp only [this]
  case buildSlice t len parts =>
    simp only [evP, evBuildSlice]
    have : ∀ sh z, fillL E s sh parts.toList z = fillL E s' sh parts.toList z := fun sh z => fillL_alike _ _ fun q hq => h q.2 (by simp [Op.operands]; exact ⟨q.1, by simpa using hq⟩)
    simp only [this]
  case binOp op t x y t' => simp only [evP]; rw [opd_alike (h x (by simp [Op.operands])), opd_alike (h y (by simp [Op.operands]))]
  case unOp op t x => simp only [evP]; rw [opd_alike (h x (by simp [Op.operands]))]
  case convert src dst x => simp only [evP]; rw [opd_alike (h x (by simp [Op.operands]))]
  case call c =>
    obtain ⟨cl, xs, ts⟩ := c
    cases cl with
    | invoke _ _ => rfl
    | builtin b => simp only [evP]; rw [evBuiltin_alike fun x hx => h x (by simp [Op.operands, Call.operands]; simpa using hx)]
    | value f =>
      simp only [evP]
      rw [← opd_alike (h f (by simp [Op.operands, Call.operands])), args_alike xs.toList (fun x hx => h x (by simp [Op.operands, Call.operands]; right; simpa using hx)) fun b hb => hm b (by simp [rdSlots, mem_tmpsOf]; right; simpa using hb)]
      cases hv : opd E 0 s f with
      | none => rfl
      | some v => simp only [ob_some]; rw [callee_alike (opd_rk (fun i e => hm i (by simp [rdSlots, mem_tmpsOf, e])) hv)]
  case makeFunc fn first caps =>
    simp only [evP, evFunc]
    rw [capL_alike caps.toList fun x hx => h x (by simp [Op.operands]; right; simpa using hx)]
  case makeSlice t l c => simp only [evP]; rw [opd_alike (h l (by simp [Op.operands])), opd_alike (h c (by simp [Op.operands]))]
  case slice t x lo hi mx =>
    cases mx with
    | some _ => rfl
    | none =>
      have e : ∀ (q : Option Operand), (∀ y, q = some y → Alike s s' y) → opdO E s q = opdO E s' q := fun q hq => by
        cases q with
        | none => rfl
        | some y => simp only [opdO]; rw [opd_alike (hq y rfl)]
      simp only [evP]
      rw [opd_alike (h x (by simp [Op.operands])), e lo fun y hy => h y (by subst hy; simp [Op.operands]), e hi fun y hy => h y (by subst hy; simp [Op.operands])]
  all_goals rfl
end
end Go.Proofs.YtjceimcepogkaaaGreatDoor.Ev
