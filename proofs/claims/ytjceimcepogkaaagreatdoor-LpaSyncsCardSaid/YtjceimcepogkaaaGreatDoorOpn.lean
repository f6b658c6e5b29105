/-
  An argument that came in, opened: plain data of a shape, and slices of such.
-/
import Derived.Test.YtjceimcepogkaaaGreatDoorEvZ
import Derived.OpenShut
import Derived.WideShapes
import Derived.Test.YtjceimcepogkaaaGreatDoorSe
namespace Go.Proofs.YtjceimcepogkaaaGreatDoor.Ev
open Go

def zc : CK → Value
  | .int k => .int k 0
  | .bool => .bool false
  | .string => .string ByteArray.empty
  | .float k => .float k 0
  | .other => .nilIface

def fitV : Value → Prop
  | .int k n => (Lit.int k n).wf = true
  | .string s => s.size ≤ maxLen
  | .float k b => (Lit.float k b).wf = true
  | _ => True

def D.fits : D → Prop
  | .s v => fitV v
  | .arr _ _ f => ∀ i, (f i).fits
  | .nil => True
  | .cons a b => a.fits ∧ b.fits

def okC : Sh → List Value → Prop
  | .cell c, cs => ∃ v, cs = [v] ∧ ck v = c ∧ v.oneCell' = true ∧ fitV v
  | .arr n s, cs => cs.length = n * s.size ∧ ∀ i, i < n → okC s ((cs.drop (i * s.size)).take s.size)
  | .nil, cs => cs = []
  | .cons a b, cs => okC a (cs.take a.size) ∧ okC b (cs.drop a.size)

def mkS (c : CK) : List Value → Value
  | [v] => if ck v = c ∧ v.oneCell' = true then v else zc c
  | _ => zc c

def mkD : Sh → List Value → D
  | .cell c, cs => .s (mkS c cs)
  | .arr n s, cs => .arr n s fun i => if i < n then mkD s ((cs.drop (i * s.size)).take s.size) else mkD s []
  | .nil, _ => .nil
  | .cons a b, cs => .cons (mkD a (cs.take a.size)) (mkD b (cs.drop a.size))

theorem zc_ok (c : CK) : ck (zc c) = c ∧ (zc c).oneCell' = true ∧ fitV (zc c) := by
  cases c with
  | int k => refine ⟨rfl, rfl, ?_⟩; cases k <;> rfl
  | bool => exact ⟨rfl, rfl, trivial⟩
  | string => exact ⟨rfl, rfl, Nat.zero_le _⟩
  | float k => refine ⟨rfl, rfl, ?_⟩; cases k <;> rfl
  | other => exact ⟨rfl, rfl, trivial⟩

theorem mkS_ok (c : CK) (cs : List Value) : ck (mkS c cs) = c ∧ (mkS c cs).oneCell' = true := by
  unfold mkS
  split
  · split
    · rename_i h; exact h
    · exact ⟨(zc_ok c).1, (zc_ok c).2.1⟩
  · exact ⟨(zc_ok c).1, (zc_ok c).2.1⟩

theorem mkD_ok : ∀ (s : Sh) (cs : List Value), (mkD s cs).WF ∧ (mkD s cs).shape = s
  | .cell c, cs => ⟨(mkS_ok c cs).2, by simp [mkD, D.shape, (mkS_ok c cs).1]⟩
  | .arr n s, cs => by
    refine ⟨fun i => ?_, rfl⟩
    show (if i < n then _ else _ : D).WF ∧ (if i < n then _ else _ : D).shape = s
    split
    · exact mkD_ok s _
    · exact mkD_ok s _
  | .nil, _ => ⟨trivial, rfl⟩
  | .cons a b, cs => ⟨⟨(mkD_ok a _).1, (mkD_ok b _).1⟩, by simp [mkD, D.shape, (mkD_ok a _).2, (mkD_ok b _).2]⟩

theorem mkD_fits0 : ∀ (s : Sh), (mkD s []).fits
  | .cell c => (zc_ok c).2.2
  | .arr n s => by
    intro i
    show (if i < n then mkD s (([] : List Value).drop _ |>.take _) else _ : D).fits
    split
    · simpa using mkD_fits0 s
    · exact mkD_fits0 s
  | .nil => trivial
  | .cons a b => ⟨by simpa using mkD_fits0 a, by simpa using mkD_fits0 b⟩

theorem mkD_fits : ∀ (s : Sh) (cs : List Value), okC s cs → (mkD s cs).fits
  | .cell c, cs, h => by
    obtain ⟨v, rfl, h1, h2, h3⟩ := h
    show fitV (mkS c [v])
    simp [mkS, h1, h2, h3]
  | .arr n s, cs, h => by
    intro i
    show (if i < n then _ else _ : D).fits
    split
    · rename_i hi; exact mkD_fits s _ (h.2 i hi)
    · exact mkD_fits0 s
  | .nil, _, _ => trivial
  | .cons a b, cs, h => ⟨mkD_fits a _ h.1, mkD_fits b _ h.2⟩

theorem flatMap_congr {α β : Type} {l : List α} {f g : α → List β} (h : ∀ a, a ∈ l → f a = g a) : l.flatMap f = l.flatMap g := by
  induction l with
  | nil => rfl
  | cons x l ih => rw [List.flatMap_cons, List.flatMap_cons, h x (by simp), ih fun a ha => h a (by simp [ha])]

theorem range_parts (c : Nat) : ∀ (n : Nat) (cs : List Value), cs.length = n * c → ((List.range n).flatMap fun i => (cs.drop (i * c)).take c) = cs
  | 0, cs, h => by simp at h; simp [h]
  | n + 1, cs, h => by
    rw [List.range_succ, List.flatMap_append]
    have e := range_parts c n (cs.take (n * c)) (by simp [h, Nat.add_mul])
    have e2 : ((List.range n).flatMap fun i => (cs.drop (i * c)).take c) = ((List.range n).flatMap fun i => ((cs.take (n * c)).drop (i * c)).take c) := by
      refine flatMap_congr fun i hi => ?_
      have hi' : i < n := by simpa using hi
      rw [List.drop_take, List.take_take]
      congr 1
      have : i * c + c ≤ n * c := by rw [← Nat.succ_mul]; exact Nat.mul_le_mul_right c hi'
      omega
    rw [e2, e]
    simp only [List.flatMap_cons, List.flatMap_nil, List.append_nil]
    have : (cs.drop (n * c)).take c = cs.drop (n * c) := List.take_of_length_le (by simp [h, Nat.add_mul])
    rw [this, List.take_append_drop]

theorem mkD_flat : ∀ (s : Sh) (cs : List Value), okC s cs → (mkD s cs).flat = cs
  | .cell c, cs, h => by
    obtain ⟨v, rfl, h1, h2, h3⟩ := h
    show [mkS c [v]] = [v]
    simp [mkS, h1, h2]
  | .arr n s, cs, h => by
    show ((List.range n).flatMap fun i => (if i < n then _ else _ : D).flat) = cs
    refine Eq.trans ?_ (range_parts s.size n cs h.1)
    refine flatMap_congr fun i hi => ?_
    have hi' : i < n := by simpa using hi
    rw [if_pos hi']
    exact mkD_flat s _ (h.2 i hi')
  | .nil, _, h => h.symm
  | .cons a b, cs, h => by
    show (mkD a _).flat ++ (mkD b _).flat = cs
    rw [mkD_flat a _ h.1, mkD_flat b _ h.2, List.take_append_drop]

def opFs (P : Program) (g : TypeId → Sh → Bool) : List Field → Sh → Nat → Bool
  | [], .nil, _ => true
  | f :: r, .cons a b, off => f.offset == off && P.cellsOf f.type == a.size && g f.type a && opFs P g r b (off + a.size)
  | _, _, _ => false

def opTy (P : Program) : Nat → TypeId → Sh → Bool
  | 0, _, _ => false
  | d + 1, t, sh =>
    match P.underlying t with
    | some (.int k) => sh == .cell (.int k)
    | some .bool => sh == .cell .bool
    | some .string => sh == .cell .string
    | some (.float k) => sh == .cell (.float k)
    | some (.array n e) => match sh with
      | .arr m u => n == m && P.cellsOf t == n * u.size && P.cellsOf e == u.size && opTy P d e u
      | _ => false
    | some (.struct fs) => sh.isAgg && P.cellsOf t == sh.size && opFs P (opTy P d) fs.toList sh 0
    | _ => false

section
variable {H : Type} {enc : TypeId × Value → H} {P : Program} {w : World} {base : Nat} {spare : Nat → Bool} {held : Bool}

theorem trod_float {t : TypeId} {k : FloatKind} {fuel : Nat} {cs : List Value} {x : DataW H × List MemPlace} (ht : P.underlying t = some (.float k)) (h : DataW.trod enc P w base spare held fuel t cs = some x) : ∃ b, cs = [.float k b] ∧ (Lit.float k b).wf = true := by
  cases fuel with
  | zero => simp [DataW.trod] at h
  | succ n =>
    unfold DataW.trod at h
    rw [ht] at h
    split at h <;> simp_all
theorem okWide_float {r : Reach} {b0 : Nat} {t : TypeId} {v : Value} {k : FloatKind} (ht : P.underlying t = some (.float k)) (h : Value.okWide P w r b0 t v) : ∃ n, v = .float k n := by
  simp only [Value.okWide, ht, Cell.okWide] at h
  cases v <;> simp_all [Cell.ok]

theorem opFs_ok {g : TypeId → Sh → Bool} {cs : List Value} (hg : ∀ t s l, g t s = true → (∃ y n, DataW.trod enc P w base spare held n t l = some y) → okC s l) : ∀ (fs : List Field) (sh : Sh) (off : Nat), opFs P g fs sh off = true →
    cs.length = off + sh.size → (∀ (i : Nat) (f : Field), fs[i]? = some f → ∃ y n, DataW.trod enc P w base spare held n f.type ((cs.drop f.offset).take (P.cellsOf f.type)) = some y) → okC sh (cs.drop off)
  | [], .nil, off, _, hl, _ => by
    show cs.drop off = []
    exact List.drop_eq_nil_of_le (by simp [Sh.size] at hl; omega)
  | f :: r, .cons a b, off, h, hl, hf => by
    simp only [opFs, Bool.and_eq_true, beq_iff_eq] at h
    obtain ⟨⟨⟨h1, h2⟩, h3⟩, h4⟩ := h
    have p := hf 0 f rfl
    rw [h1, h2] at p
    refine ⟨hg _ _ _ h3 p, ?_⟩
    rw [List.drop_drop]
    exact opFs_ok hg r b (off + a.size) h4 (by rw [hl, Sh.size]; omega) (fun i f' hi => hf (i + 1) f' (by simpa using hi))
  | [], .cell _, _, h, _, _ => by simp [opFs] at h
  | [], .arr _ _, _, h, _, _ => by simp [opFs] at h
  | [], .cons _ _, _, h, _, _ => by simp [opFs] at h
  | _ :: _, .cell _, _, h, _, _ => by simp [opFs] at h
  | _ :: _, .arr _ _, _, h, _, _ => by simp [opFs] at h
  | _ :: _, .nil, _, h, _, _ => by simp [opFs] at h

theorem opTy_ok : ∀ (d : Nat) (t : TypeId) (sh : Sh) (cs : List Value), opTy P d t sh = true → (∃ y n, DataW.trod enc P w base spare held n t cs = some y) → okC sh cs
  | 0, _, _, _, h, _ => by simp [opTy] at h
  | d + 1, t, sh, cs, h, ⟨y, n, hy⟩ => by
    unfold opTy at h
    split at h
    · rename_i k ht
      simp only [beq_iff_eq] at h
      subst h
      obtain ⟨z, rfl, _, hw⟩ := DataW.trod_int ht hy
      exact ⟨_, rfl, rfl, rfl, hw⟩
    · rename_i ht
      simp only [beq_iff_eq] at h
      subst h
      obtain ⟨z, rfl, _⟩ := DataW.trod_bool ht hy
      exact ⟨_, rfl, rfl, rfl, trivial⟩
    · rename_i ht
      simp only [beq_iff_eq] at h
      subst h
      obtain ⟨z, rfl, _, hw⟩ := DataW.trod_string ht hy
      exact ⟨_, rfl, rfl, rfl, hw⟩
    · rename_i k ht
      simp only [beq_iff_eq] at h
      subst h
      obtain ⟨z, rfl, hw⟩ := trod_float ht hy
      exact ⟨_, rfl, rfl, rfl, hw⟩
    · rename_i m e ht
      split at h
      · rename_i m' u
        simp only [Bool.and_eq_true, beq_iff_eq] at h
        obtain ⟨⟨⟨rfl, h1⟩, h2⟩, h3⟩ := h
        obtain ⟨xs, q, rfl, rfl, hl, hx, hi⟩ := DataW.trod_array ht hy
        refine ⟨by rw [hl, h1], fun i hlt => ?_⟩
        have p := hi i hlt
        rw [h2] at p
        obtain ⟨z, hz⟩ : ∃ z, xs[i]? = some z := ⟨xs[i], by simp [hx, hlt]⟩
        rw [hz] at p
        exact opTy_ok d e u _ h3 ⟨_, _, p⟩
      · cases h
    · rename_i fs ht
      simp only [Bool.and_eq_true, beq_iff_eq] at h
      obtain ⟨⟨_, h1⟩, h2⟩ := h
      obtain ⟨xs, q, rfl, rfl, hl, hx, hi⟩ := DataW.trod_struct ht hy
      have := opFs_ok (cs := cs) (enc := enc) (w := w) (base := base) (spare := spare) (held := held) (fun t s l hg hy => opTy_ok d t s l hg hy) fs.toList sh 0 h2 (by omega) (fun i f hf => by
        have p := hi i f (by simpa using hf)
        have hlt : i < fs.size := by have := (List.getElem?_eq_some_iff.1 hf).1; simpa using this
        obtain ⟨z, hz⟩ : ∃ z, xs[i]? = some z := ⟨xs[i], by simp [hx, hlt]⟩
        rw [hz] at p
        exact ⟨z, _, p⟩)
      simpa using this
    · cases h

/-- PLAIN DATA that came in. -/
theorem open_data {r : Reach} {b0 d : Nat} {t : TypeId} {sh : Sh} {v : Value} {dd : DataW H} {ps : List MemPlace} (hty : opTy P d t sh = true) (hval : Value.okWide P w r b0 t v)
    (hd : DataW.Trod enc P w base spare held t v dd ps) : ∃ x : D, v = x.val ∧ x.WF ∧ x.shape = sh ∧ x.fits := by
  obtain ⟨n, hn⟩ := hd
  have hok := opTy_ok d t sh _ hty ⟨_, n, hn⟩
  refine ⟨mkD sh v.cells.toList, ?_, (mkD_ok _ _).1, (mkD_ok _ _).2, mkD_fits _ _ hok⟩
  have hf := mkD_flat _ _ hok
  unfold Value.okWide at hval
  cases d with
  | zero => simp [opTy] at hty
  | succ d =>
    unfold opTy at hty
    have agg : ∀ s : Sh, s.isAgg = true → ∀ cs : Array Value, (mkD s cs.toList).flat = cs.toList → (.agg cs : Value) = (mkD s cs.toList).val := by
      intro s hs cs h
      cases s with
      | cell c => cases hs
      | arr n s =>
        show _ = Value.agg ((mkD (.arr n s) cs.toList).flat).toArray
        rw [h]
      | nil =>
        show _ = Value.agg ((mkD .nil cs.toList).flat).toArray
        rw [h]
      | cons a b =>
        show _ = Value.agg ((mkD (.cons a b) cs.toList).flat).toArray
        rw [h]
    split at hty
    · rename_i k ht
      obtain ⟨m, rfl⟩ := Go.WideShapes.okWide_int ht (by unfold Value.okWide; exact hval)
      simp only [beq_iff_eq] at hty
      subst hty
      simp [mkD, mkS, Value.cells, ck, Value.oneCell', D.val]
    · rename_i ht
      obtain ⟨m, rfl⟩ := Go.WideShapes.okWide_bool ht (by unfold Value.okWide; exact hval)
      simp only [beq_iff_eq] at hty
      subst hty
      simp [mkD, mkS, Value.cells, ck, Value.oneCell', D.val]
    · rename_i ht
      obtain ⟨m, rfl⟩ := Go.WideShapes.okWide_string ht (by unfold Value.okWide; exact hval)
      simp only [beq_iff_eq] at hty
      subst hty
      simp [mkD, mkS, Value.cells, ck, Value.oneCell', D.val]
    · rename_i k ht
      obtain ⟨m, rfl⟩ := okWide_float ht (by unfold Value.okWide; exact hval)
      simp only [beq_iff_eq] at hty
      subst hty
      simp [mkD, mkS, Value.cells, ck, Value.oneCell', D.val]
    · rename_i m e ht
      simp only [ht] at hval
      obtain ⟨cs, rfl, _⟩ := hval
      split at hty
      · exact agg _ rfl cs hf
      · cases hty
    · rename_i fs ht
      simp only [ht] at hval
      obtain ⟨cs, rfl, _⟩ := hval
      simp only [Bool.and_eq_true] at hty
      exact agg _ hty.1.1 cs hf
    · cases hty

theorem add_plain (g o i : Nat) : (⟨g, o, none⟩ : Addr).add i = ⟨g, o + i, none⟩ := by
  unfold Addr.add
  split
  · rename_i h; simp_all
  · rfl

theorem flats_get {sh : Sh} : ∀ {es : List D} (_ : Good sh es) (j : Nat) (v : Value), (flats es)[j]? = some v → ∃ i x k, es[i]? = some x ∧ k < sh.size ∧ j = i * sh.size + k ∧ x.flat[k]? = some v
  | [], _, j, v, h => by simp [flats] at h
  | x :: l, hg, j, v, h => by
    have hx := hg x (by simp)
    have hl : x.flat.length = sh.size := by rw [x.flat_length hx.1, hx.2]
    show ∃ i y k, _
    rw [show flats (x :: l) = x.flat ++ flats l from rfl] at h
    by_cases hj : j < sh.size
    · rw [List.getElem?_append_left (by omega)] at h
      exact ⟨0, x, j, rfl, hj, by simp, h⟩
    · rw [List.getElem?_append_right (by omega)] at h
      obtain ⟨i, y, k, h1, h2, h3, h4⟩ := flats_get (sh := sh) (fun y hy => hg y (by simp [hy])) _ v h
      refine ⟨i + 1, y, k, by simpa using h1, h2, ?_, h4⟩
      rw [Nat.add_mul]; omega

/-- A SLICE OF PLAIN DATA that came in. -/
theorem open_slice {r : Reach} {b0 d : Nat} {t e : TypeId} {sh : Sh} {v : Value} {dd : DataW H} {ps : List MemPlace} (ht : P.underlying t = some (.slice e)) (hty : opTy P d e sh = true) (hce : P.cellsOf e = sh.size) (hpos : 0 < sh.size)
    (hval : Value.okWide P w r b0 t v) (hd : DataW.Trod enc P w base spare held t v dd ps) : ∃ es : List D, RS w w.heap.size sh es v ∧ (∀ x ∈ es, x.fits) ∧ es.length ≤ maxLen := by
  obtain ⟨a, len, cap, rfl⟩ := Go.WideShapes.okWide_slice ht hval
  obtain ⟨n, hn⟩ := hd
  rcases DataW.trod_slice ht hn with ⟨h, _⟩ | ⟨a', len', cap', elems, rest, m, _, h, _, hb, hl, hm, hlen, hel, _⟩
  · simp [Value.cells] at h
    obtain ⟨rfl, rfl, rfl⟩ := h
    exact ⟨[], ⟨fun x hx => by simp at hx, Or.inl ⟨rfl, rfl⟩⟩, fun x hx => by simp at hx, Nat.zero_le _⟩
  · simp [Value.cells] at h
    obtain ⟨rfl, rfl, rfl⟩ := h
    have hh : a'.spot = none ∧ ∃ row cells, w.shape? a'.block = some (row, cells) := by
      simp only [Value.okWide, ht, Cell.okWide, Cell.ok, World.has] at hval
      obtain ⟨_, _, _, h1, row, cells, h2, _⟩ := hval
      exact ⟨h1, row, cells, h2⟩
    obtain ⟨g, o, sp⟩ := a'
    obtain ⟨hsp, row, cells, hsh⟩ := hh
    obtain rfl : sp = none := hsp
    obtain ⟨arr, T, fr, hcs⟩ : ∃ arr T fr, w.heap[g]? = some (.cells arr T fr) := by
      unfold World.shape? at hsh
      split at hsh
      · rename_i c elem fr he; exact ⟨_, _, _, he⟩
      · simp at hsh
    have hlt : g < w.heap.size := (Array.getElem?_eq_some_iff.1 hcs).1
    have each : ∀ i, i < len → ∃ cs, w.cells? base ⟨g, o + i * sh.size, none⟩ sh.size = some cs ∧ okC sh cs := by
      intro i hi
      have p := hel i hi
      obtain ⟨z, hz⟩ : ∃ z, elems[i]? = some z := ⟨elems[i], by simp [hlen, hi]⟩
      rw [hz, hce] at p
      simp only [Option.bind_eq_some_iff, add_plain] at p
      obtain ⟨cs, h1, h2⟩ := p
      exact ⟨cs, h1, opTy_ok d e sh cs hty ⟨_, _, h2⟩⟩
    let cl : Nat → List Value := fun i => (w.cells? base ⟨g, o + i * sh.size, none⟩ sh.size).getD []
    have hcl : ∀ i, i < len → w.cells? base ⟨g, o + i * sh.size, none⟩ sh.size = some (cl i) ∧ okC sh (cl i) := by
      intro i hi
      obtain ⟨cs, h1, h2⟩ := each i hi
      have : cl i = cs := by simp [cl, h1]
      rw [this]; exact ⟨h1, h2⟩
    have hgood : Good sh ((List.range len).map fun i => mkD sh (cl i)) := by
      intro x hx
      obtain ⟨i, _, rfl⟩ := List.mem_map.1 hx
      exact mkD_ok _ _
    refine ⟨(List.range len).map fun i => mkD sh (cl i), ⟨hgood, Or.inr ⟨g, o, cap, arr, T, fr, hlt, by simp; omega, by simp, hcs, fun j v hj => ?_⟩⟩, fun x hx => ?_, by simp; omega⟩
    · obtain ⟨i, x, k, h1, h2, rfl, h4⟩ := flats_get hgood j v hj
      rw [List.getElem?_map, Option.map_eq_some_iff] at h1
      obtain ⟨i', h5, rfl⟩ := h1
      have hi : i < len := by have := (List.getElem?_eq_some_iff.1 h5).1; simpa using this
      obtain rfl : i = i' := by rw [List.getElem?_eq_getElem (by simpa using hi)] at h5; simpa using h5
      obtain ⟨q1, q2⟩ := hcl i hi
      rw [mkD_flat sh _ q2] at h4
      have q3 := (World.cells?_some q1).2.2 k h2
      rw [h4] at q3
      simp only [World.cell?, add_plain, hcs] at q3
      rw [← Nat.add_assoc]
      simpa using q3
    · obtain ⟨i, hi, rfl⟩ := List.mem_map.1 hx
      exact mkD_fits _ _ (hcl i (by simpa using hi)).2
end
end Go.Proofs.YtjceimcepogkaaaGreatDoor.Ev
/- What came in, opened: trees, rows, what is known. -/
namespace Go.Proofs.YtjceimcepogkaaaGreatDoor.Ev
open Go
attribute [local congr] ob_congr sq_congr cd_congr ite_congr1 iter_congr it1_congr jumps_congr
set_option maxRecDepth 100000
set_option linter.unusedSimpArgs false
set_option linter.unusedVariables false

theorem cons2 {a a' b b' : D} (h : a = a') (g : b = b') : D.cons a b = .cons a' b' := by rw [h, g]
def inU (x : Int) : Prop := 0 ≤ x ∧ x ≤ 4294967295
theorem inU_of {x : Int} (h : (Lit.int .u32 x).wf = true) : inU x := by
  simp [Lit.wf, IntKind.min, IntKind.max, IntKind.signed, IntKind.bits] at h
  exact ⟨by omega, by omega⟩
theorem cell_u {x : D} (h : x.shape = cU) (hf : x.fits) : x = dU (intOf x) ∧ inU (intOf x) := by
  have e := of_cell h
  refine ⟨e, ?_⟩
  rw [e] at hf
  exact inU_of hf
theorem cell_i {x : D} (h : x.shape = cI) (hf : x.fits) : x = dI (intOf x) ∧ inI (intOf x) := by
  have e := of_cell h
  refine ⟨e, ?_⟩
  rw [e] at hf
  exact inI_of hf
theorem arr_open {x : D} {n : Nat} {sh : Sh} (h : x.shape = .arr n sh) (hw : x.WF) (hf : x.fits) : x = .arr n sh (arrF x) ∧ ∀ i, (arrF x i).WF ∧ (arrF x i).shape = sh ∧ (arrF x i).fits := by
  obtain ⟨f, rfl, hq⟩ := of_arr h hw
  exact ⟨rfl, fun i => ⟨(hq i).1, (hq i).2, hf i⟩⟩
theorem cons_open {x : D} {a b : Sh} (h : x.shape = .cons a b) (hw : x.WF) (hf : x.fits) : x = .cons (hdD x) (tlD x) ∧ ((hdD x).WF ∧ (hdD x).shape = a ∧ (hdD x).fits) ∧ ((tlD x).WF ∧ (tlD x).shape = b ∧ (tlD x).fits) := by
  obtain ⟨y, z, rfl, h1, h2⟩ := of_cons h
  exact ⟨rfl, ⟨hw.1, h1, hf.1⟩, hw.2, h2, hf.2⟩
theorem arrU_open {x : D} (h : x.shape = .arr 16 cU) (hw : x.WF) (hf : x.fits) : ∃ l : Nat → Int, x = arrU l ∧ ∀ i, inU (l i) := by
  obtain ⟨e, q⟩ := arr_open h hw hf
  refine ⟨fun i => intOf (arrF x i), ?_, fun i => (cell_u (q i).2.1 (q i).2.2).2⟩
  exact e.trans (congrArg (D.arr 16 cU) (funext fun i => (cell_u (q i).2.1 (q i).2.2).1))
theorem arrI_open {x : D} {m : Nat} (h : x.shape = .arr m cI) (hw : x.WF) (hf : x.fits) : ∃ l : Nat → Int, x = .arr m cI (fun i => dI (l i)) ∧ ∀ i, inI (l i) := by
  obtain ⟨e, q⟩ := arr_open h hw hf
  refine ⟨fun i => intOf (arrF x i), ?_, fun i => (cell_i (q i).2.1 (q i).2.2).2⟩
  exact e.trans (congrArg (D.arr m cI) (funext fun i => (cell_i (q i).2.1 (q i).2.2).1))
theorem ent_open {x : D} (h : x.shape = shE) (hw : x.WF) (hf : x.fits) : x = entD (entU x) (entI x) ∧ inU (entU x) ∧ inI (entI x) := by
  obtain ⟨e, ⟨w1, s1, f1⟩, w2, s2, f2⟩ := cons_open h hw hf
  obtain ⟨e2, ⟨w3, s3, f3⟩, w4, s4, f4⟩ := cons_open s2 w2 f2
  obtain ⟨q1, r1⟩ := cell_u s1 f1
  obtain ⟨q2, r2⟩ := cell_i s3 f3
  refine ⟨?_, r1, r2⟩
  rw [e, e2, q1, q2, of_nil s4]; rfl
theorem tree_open {x : D} (h : x.shape = shT) (hw : x.WF) (hf : x.fits) : x = treeD (fun i => entU (arrF x i)) (fun i => entI (arrF x i)) ∧ ∀ i, inU (entU (arrF x i)) ∧ inI (entI (arrF x i)) := by
  obtain ⟨e, q⟩ := arr_open h hw hf
  refine ⟨?_, fun i => (ent_open (q i).2.1 (q i).1 (q i).2.2).2⟩
  exact e.trans (congrArg (D.arr 16 shE) (funext fun i => (ent_open (q i).2.1 (q i).1 (q i).2.2).1))
theorem rows_open {x : D} (h : x.shape = shRs) (hw : x.WF) (hf : x.fits) : ∃ r : Rw, x = rowsD r.d r.p r.n ∧ ∀ i, inU (r.d i) ∧ inI (r.p i) ∧ inI (r.n i) := by
  obtain ⟨e, q⟩ := arr_open h hw hf
  have key : ∀ i, arrF x i = rowD (intOf (hdD (arrF x i))) (intOf (hdD (tlD (arrF x i)))) (intOf (hdD (tlD (tlD (arrF x i))))) ∧ inU (intOf (hdD (arrF x i))) ∧ inI (intOf (hdD (tlD (arrF x i)))) ∧ inI (intOf (hdD (tlD (tlD (arrF x i))))) := fun i => by
    obtain ⟨e1, ⟨w1, s1, f1⟩, w2, s2, f2⟩ := cons_open (q i).2.1 (q i).1 (q i).2.2
    obtain ⟨e2, ⟨w3, s3, f3⟩, w4, s4, f4⟩ := cons_open s2 w2 f2
    obtain ⟨e3, ⟨w5, s5, f5⟩, w6, s6, f6⟩ := cons_open s4 w4 f4
    obtain ⟨q1, r1⟩ := cell_u s1 f1
    obtain ⟨q2, r2⟩ := cell_i s3 f3
    obtain ⟨q3, r3⟩ := cell_i s5 f5
    refine ⟨?_, r1, r2, r3⟩
    rw [e1, e2, e3, q1, q2, q3, of_nil s6]; rfl
  refine ⟨⟨fun i => intOf (hdD (arrF x i)), fun i => intOf (hdD (tlD (arrF x i))), fun i => intOf (hdD (tlD (tlD (arrF x i))))⟩, ?_, fun i => (key i).2⟩
  exact e.trans (congrArg (D.arr 16 shR) (funext fun i => (key i).1))
/-- Numbers that fit. -/
structure KnOK (k : Kn) : Prop where
  self : inI k.self
  up : inI k.up
  c : ∀ i, inU (k.c i)
  tD : ∀ n i, inU (k.tD n i)
  tP : ∀ n i, inI (k.tP n i)
theorem kn_open {x : D} (h : x.shape = shK) (hw : x.WF) (hf : x.fits) : ∃ k : Kn, x = knD k.self k.up k.c k.tD k.tP ∧ KnOK k := by
  obtain ⟨e1, ⟨w1, s1, f1⟩, w2, s2, f2⟩ := cons_open h hw hf
  obtain ⟨e2, ⟨w3, s3, f3⟩, w4, s4, f4⟩ := cons_open s2 w2 f2
  obtain ⟨e3, ⟨w5, s5, f5⟩, w6, s6, f6⟩ := cons_open s4 w4 f4
  obtain ⟨q1, r1⟩ := cell_i s1 f1
  obtain ⟨e4, ⟨w7, s7, f7⟩, w8, s8, f8⟩ := cons_open s3 w3 f3
  obtain ⟨q2, r2⟩ := cell_i s7 f7
  obtain ⟨e5, ⟨w9, s9, f9⟩, w10, s10, f10⟩ := cons_open s8 w8 f8
  obtain ⟨c, ec, hc⟩ := arrU_open s9 w9 f9
  obtain ⟨et, ht⟩ := arr_open s5 w5 f5
  have tr := fun n => tree_open (ht n).2.1 (ht n).1 (ht n).2.2
  refine ⟨⟨intOf (hdD x), intOf (hdD (hdD (tlD x))), c, fun n i => entU (arrF (arrF (hdD (tlD (tlD x))) n) i), fun n i => entI (arrF (arrF (hdD (tlD (tlD x))) n) i)⟩, ?_, r1, r2, hc, fun n i => ((tr n).2 i).1, fun n i => ((tr n).2 i).2⟩
  have et2 : hdD (tlD (tlD x)) = .arr 16 shT fun n => treeD (fun i => entU (arrF (arrF (hdD (tlD (tlD x))) n) i)) (fun i => entI (arrF (arrF (hdD (tlD (tlD x))) n) i)) :=
    et.trans (congrArg (D.arr 16 shT) (funext fun n => (tr n).1))
  have n1 := of_nil s6
  have n2 := of_nil s10
  exact e1.trans (cons2 q1 (e2.trans (cons2 (e4.trans (cons2 q2 (e5.trans (cons2 ec n2)))) (e3.trans (cons2 et2 n1)))))
end Go.Proofs.YtjceimcepogkaaaGreatDoor.Ev
