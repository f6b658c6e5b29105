/-
  One operation of the evaluator is what the model's operation does.
-/
import Derived.Test.YtjceimcepogkaaaGreatDoorEvP
import Derived.Laws.BytesArg
import Derived.Laws.MakeOwn
import Derived.Laws.Externs
namespace Go.Proofs.YtjceimcepogkaaaGreatDoor.Ev
open Go Go.RowKit

section
variable {P : Program} {E : Env} {B : Nat} {w0 : World} {φ0 : Nat → Option Nat} {s : St} {a : Act} {w w' : World} {φ φ' : Nat → Option Nat} {o : Oper} {m : Nat → Option Bk} {k : Nat}

theorem evUn_sound {op : UnOp} {x v : V} {u : Value} (hx : RT B m φ w x u) (h : evUn op x = some v) : ∃ z : D, v = .d z ∧ z.WF ∧ (Op.unary op u).run P w = .ok z.val w := by
  unfold evUn at h
  split at h
  · obtain ⟨_, rfl⟩ := hx
    obtain ⟨z, h1, h2, rfl⟩ := scal_some h
    exact ⟨_, rfl, h2, by simp only [D.val, h1]; rfl⟩
  · cases h

theorem sl_read {ow : Own} {sh : Sh} {es : List D} {u : Value} (h : RT B m φ w (.sl ow sh es) u) :
    Good sh es ∧ ((es = [] ∧ u = .slice none 0 0) ∨ ∃ g off cap, u = .slice (some ⟨g, off, none⟩) es.length cap ∧ ∀ j v, (flats es)[j]? = some v → w.cell? ⟨g, off + j, none⟩ = some v) := by
  cases ow with
  | nil => obtain ⟨rfl, rfl⟩ := h; exact ⟨(fun x hx => by cases hx), .inl ⟨rfl, rfl⟩⟩
  | ro =>
    obtain ⟨hg, h⟩ := h
    refine ⟨hg, ?_⟩
    rcases h with h | ⟨g, off, cap, cs, T, fr, _, _, q2, q3, q4⟩
    · exact .inl h
    · exact .inr ⟨g, off, cap, q2, cells_at q3 q4⟩
  | tg k =>
    obtain ⟨_, ⟨hg, e, ho⟩, _⟩ := h
    refine ⟨hg, ?_⟩
    rcases ho.2 with ⟨h1, h2⟩ | ⟨g, cap, cur, q1, _, q3, _, _, _, q4⟩
    · exact .inl ⟨List.eq_nil_of_length_eq_zero h2, h1⟩
    · exact .inr ⟨g, 0, cap, q1, cells_at q3 fun j v hj => by
        rw [← q4, List.getElem?_take] at hj
        split at hj
        · simpa using hj
        · cases hj⟩

theorem flats_append (es es' : List D) : flats (es ++ es') = flats es ++ flats es' := by simp [flats]

theorem kinds_of {k : IntKind} {es : List D} (h : Good (.cell (.int k)) es) : ∃ zs : List Int, es = zs.map fun z => .s (.int k z) := by
  induction es with
  | nil => exact ⟨[], rfl⟩
  | cons e es ih =>
    obtain ⟨zs, rfl⟩ := ih fun x hx => h x (by simp [hx])
    obtain ⟨_, he⟩ := h e (by simp)
    cases e with
    | s v =>
      have hk : ck v = .int k := by simpa [D.shape] using he
      cases v with
      | int k' z => simp only [ck, CK.int.injEq] at hk; subst hk; exact ⟨z :: zs, rfl⟩
      | _ => simp [ck] at hk
    | arr n sh f => cases he
    | nil => cases he
    | cons a b => cases he
theorem flats_kinds (k : IntKind) (zs : List Int) : flats (zs.map fun z => D.s (.int k z)) = zs.map (Value.int k) := by
  induction zs with
  | nil => rfl
  | cons z zs ih => simp only [flats, List.map_cons, List.flatMap_cons, D.flat] at ih ⊢; rw [ih]; rfl
theorem bytesOf_nums (zs : List Int) : bytesOf (zs.map fun z => D.s (.int .u8 z)) = strOfNums zs := by
  simp only [bytesOf, strOfNums, List.map_map]; rfl

theorem evConv_sound (hE : EnvOK P E) {src dst : Nat} {x v : V} {u : Value} (hx : RT B m φ w x u) (h : evConv E src dst x = some v) : ∃ z : D, v = .d z ∧ z.WF ∧ (convert src dst u).run P w = .ok z.val w := by
  unfold evConv at h
  split at h
  · obtain ⟨_, rfl⟩ := hx
    obtain ⟨ts, h1, h⟩ := ob_eq_some h
    obtain ⟨td, h2, h⟩ := ob_eq_some h
    split at h
    · rename_i hk1 hk2
      cases h
      have k1 := (hE _ _ h1).kd
      have k2 := (hE _ _ h2).kd
      rw [hk1] at k1
      rw [hk2] at k2
      simp only [KdOK] at k1 k2
      refine ⟨_, rfl, rfl, ?_⟩
      simp [convert, run_underlying k1, run_underlying k2, D.val, Conv.intToInt]
    · rename_i hk1 hk2
      cases h
      have k1 := (hE _ _ h1).kd
      have k2 := (hE _ _ h2).kd
      rw [hk1] at k1
      rw [hk2] at k2
      simp only [KdOK] at k1 k2
      refine ⟨_, rfl, rfl, ?_⟩
      simp [convert, run_underlying k1, run_underlying k2, D.val, Conv.intToFloat]
    · cases h
  · obtain ⟨_, rfl⟩ := hx
    obtain ⟨ts, h1, h⟩ := ob_eq_some h
    obtain ⟨td, h2, h⟩ := ob_eq_some h
    split at h
    · rename_i hk1 hk2
      obtain ⟨n, h3, h⟩ := ob_eq_some h
      split at h
      · rename_i hb
        cases h
        have k1 := (hE _ _ h1).kd
        have k2 := (hE _ _ h2).kd
        rw [hk1] at k1
        rw [hk2] at k2
        simp only [KdOK] at k1 k2
        refine ⟨_, rfl, rfl, ?_⟩
        simp [convert, run_underlying k1, run_underlying k2, D.val, Conv.floatToInt, h3, hb]
      · cases h
    · cases h
  · rename_i ow sh es
    obtain ⟨ts, h1, h⟩ := ob_eq_some h
    obtain ⟨td, h2, h⟩ := ob_eq_some h
    split at h
    · rename_i e hk1 hk2
      obtain ⟨te, h3, h⟩ := ob_eq_some h
      by_cases hc : te.kd = .int .u8 ∧ sh = .cell (.int .u8)
      · rw [if_pos hc] at h
        cases h
        obtain ⟨hk3, rfl⟩ := hc
        have k1 := (hE _ _ h1).kd
        have k2 := (hE _ _ h2).kd
        have k3 := (hE _ _ h3).kd
        rw [hk1] at k1
        rw [hk2] at k2
        rw [hk3] at k3
        simp only [KdOK] at k1 k2 k3
        obtain ⟨hg, hr⟩ := sl_read hx
        obtain ⟨zs, rfl⟩ := kinds_of hg
        refine ⟨_, rfl, rfl, ?_⟩
        rw [bytesOf_nums]
        rcases hr with ⟨he, rfl⟩ | ⟨g, off, cap, rfl, hcells⟩
        · have : zs = [] := by simpa using he
          subst this
          exact run_convert_bytes_nil w src e k1 k3 0 0 dst k2
        · rw [flats_kinds] at hcells
          rw [List.length_map]
          exact run_convert_bytes_arg w src e k1 k3 g off zs.length cap zs rfl (fun i hi => hcells i _ (by
            rw [List.getElem?_map, List.getElem?_eq_getElem hi]; simp [List.getD, List.getElem?_eq_getElem hi])) dst k2
      · rw [if_neg hc] at h; cases h
    · cases h
  · cases h

theorem madeAll {z : D} {sh : Sh} (hz : z.WF) (hs : z.shape = sh) (n : Nat) : madeCells z.val.cells (n * sh.size) = (flats (List.replicate n z)).toArray := by
  rw [← made_flats hz hs n]
  by_cases h : n * sh.size = 0
  · rw [if_pos h, h]; simp [madeCells, Array.range_zero']
  · rw [if_neg h]

theorem evMake_sound (hE : EnvOK P E) (r : Rel B w0 φ0 s a w φ) {t : Nat} {x y v : V} {b : Option Bk} {u1 u2 : Value} (hx : RT B s.m φ w x u1) (hy : RT B s.m φ w y u2) (h : evMake E k t x y = some (v, b)) :
    ∃ u w' φ', (Instr.makeSlice t u1 u2).run P w = .ok u w' ∧ StepOK B s.m φ w k v b u w' φ' := by
  unfold evMake at h
  split at h
  · rename_i kl l kc c
    obtain ⟨_, rfl⟩ := hx
    obtain ⟨_, rfl⟩ := hy
    obtain ⟨ty, ht, h⟩ := ob_eq_some h
    split at h
    · rename_i e hk
      obtain ⟨te, hte, h⟩ := ob_eq_some h
      by_cases hc : (0 ≤ l ∧ l ≤ c ∧ c ≤ 1000) ∧ te.bytes ≤ 1000 ∧ te.sh.size ≤ 1000
      · rw [if_pos hc] at h
        cases h
        obtain ⟨⟨c1, c2, c3⟩, c4, c5⟩ := hc
        have hkd := (hE t ty ht).kd
        rw [hk] at hkd
        simp only [KdOK] at hkd
        have hT := hE e te hte
        obtain ⟨ie, hie, hz, hby⟩ := hT.zero
        obtain ⟨i', d, hi', hsz, _, _⟩ := hT.lies
        rw [hie] at hi'; cases hi'
        have m1 : c.toNat * ie.size ≤ 1000 * 1000 := Nat.mul_le_mul (by omega) (by omega)
        have m2 : (ie.bytes : Int) * c ≤ 1000 * 1000 := Int.mul_le_mul (by omega) (by omega) (by omega) (by omega)
        have hrun := run_makeSlice (P := P) w t e ie te.zero.val hkd hie hz kl kc l c c1 c2 (by omega) (by omega) (by omega)
        rw [hsz, madeAll hT.zwf.1 hT.zwf.2] at hrun
        have hg : ∀ n, Good te.sh (List.replicate n te.zero) := fun n x hx => by rw [List.eq_of_mem_replicate hx]; exact hT.zwf
        have hfl : ∀ n, (flats (List.replicate n te.zero)).length = n * te.sh.size := fun n => by rw [flats_length (hg n), List.length_replicate]
        have hsp : List.replicate c.toNat te.zero = List.replicate l.toNat te.zero ++ List.replicate (c.toNat - l.toNat) te.zero := by
          rw [List.replicate_append_replicate]; congr 1; omega
        refine ⟨_, _, _, hrun, newRowAt φ (Below.alloc1 _ _) r.base ⟨hg _, e, by rw [hfl, List.length_replicate], .inr ⟨w.heap.size, c.toNat, _, by rw [List.length_replicate], Nat.le_refl _, heap_alloc_new w _, ?_, ?_, ?_, ?_⟩⟩⟩
        · rw [List.length_replicate]; omega
        · simp only [maxLen]; omega
        · simp [hfl]
        · rw [List.length_replicate, hsp, flats_append, ← hfl]; simp
      · rw [if_neg hc] at h; cases h
    · cases h
  · cases h

theorem len_of {u : Value} {ow : Own} {sh : Sh} {es : List D} (hx : RT B m φ w (.sl ow sh es) u) : ∃ a c, u = .slice a es.length c := by
  cases ow with
  | nil => obtain ⟨rfl, rfl⟩ := hx; exact ⟨none, 0, rfl⟩
  | ro =>
    rcases hx.2 with ⟨rfl, rfl⟩ | ⟨g, off, cap, cs, T, fr, _, _, q2, _⟩
    · exact ⟨none, 0, rfl⟩
    · exact ⟨_, _, q2⟩
  | tg k =>
    obtain ⟨_, ⟨_, e, ho⟩, _⟩ := hx
    rcases ho.2 with ⟨h1, h2⟩ | ⟨g, cap, cur, q1, _⟩
    · exact ⟨none, 0, by rw [h1, h2]⟩
    · exact ⟨_, _, q1⟩

theorem evLen_sound (hE : EnvOK P E) {t ty : Nat} {x v : V} {u : Value} (hx : RT B m φ w x u) (h : evLen E t x = some v) : ∃ z : D, v = .d z ∧ z.WF ∧ (Builtin.len_ #[t] ty #[u]).run P w = .ok z.val w := by
  unfold evLen at h
  split at h
  · obtain ⟨x, g, cap, _, _, _, rfl⟩ := hx
    obtain ⟨ty', ht, h⟩ := ob_eq_some h
    split at h
    · rename_i hk
      cases h
      have hkd := (hE _ _ ht).kd
      rw [hk] at hkd
      simp only [KdOK] at hkd
      exact ⟨_, rfl, rfl, by simp [Builtin.len_, run_underlying hkd, D.val, goInt]⟩
    · cases h
  · obtain ⟨ad, c, rfl⟩ := len_of hx
    obtain ⟨ty', ht, h⟩ := ob_eq_some h
    split at h
    · rename_i hk
      cases h
      have hkd := (hE _ _ ht).kd
      rw [hk] at hkd
      simp only [KdOK] at hkd
      exact ⟨_, rfl, rfl, by simp [Builtin.len_, run_underlying hkd, D.val, goInt]⟩
    · cases h
  · obtain ⟨_, rfl⟩ := hx
    obtain ⟨ty', ht, h⟩ := ob_eq_some h
    split at h
    · rename_i hk
      cases h
      have hkd := (hE _ _ ht).kd
      rw [hk] at hkd
      simp only [KdOK] at hkd
      exact ⟨_, rfl, rfl, by simp [Builtin.len_, run_underlying hkd, D.val, goInt]⟩
    · cases h
  · obtain ⟨_, rfl⟩ := hx
    obtain ⟨ty', ht, h⟩ := ob_eq_some h
    split at h
    · rename_i hk
      cases h
      have hkd := (hE _ _ ht).kd
      rw [hk] at hkd
      simp only [KdOK] at hkd
      exact ⟨_, rfl, rfl, by simp [Builtin.len_, run_underlying hkd, D.val, goInt]⟩
    · cases h
  · cases h

theorem evMax_sound {x y v : V} {u1 u2 : Value} {ts : Array TypeId} {ty : TypeId} (hx : RT B m φ w x u1) (hy : RT B m φ w y u2) (h : evMax x y = some v) : ∃ z : D, v = .d z ∧ z.WF ∧ (Builtin.max_ ts ty #[u1, u2]).run P w = .ok z.val w := by
  unfold evMax at h
  split at h
  · obtain ⟨_, rfl⟩ := hx
    obtain ⟨_, rfl⟩ := hy
    cases h
    exact ⟨_, rfl, rfl, by simp [Builtin.max_, Builtin.max2, D.val]⟩
  · obtain ⟨_, rfl⟩ := hx
    obtain ⟨_, rfl⟩ := hy
    obtain ⟨n, hr, h⟩ := ob_eq_some h
    cases h
    refine ⟨_, rfl, rfl, ?_⟩
    unfold fMax at hr
    split at hr <;> cases hr <;> rename_i ho <;> simp [Builtin.max_, Builtin.max2, D.val, ho]
  · cases h

theorem evMin_sound {x y v : V} {u1 u2 : Value} {ts : Array TypeId} {ty : TypeId} (hx : RT B m φ w x u1) (hy : RT B m φ w y u2) (h : evMin x y = some v) : ∃ z : D, v = .d z ∧ z.WF ∧ (Builtin.min_ ts ty #[u1, u2]).run P w = .ok z.val w := by
  unfold evMin at h
  split at h
  · obtain ⟨_, rfl⟩ := hx
    obtain ⟨_, rfl⟩ := hy
    cases h
    exact ⟨_, rfl, rfl, by simp [Builtin.min_, Builtin.min2, D.val]⟩
  · obtain ⟨_, rfl⟩ := hx
    obtain ⟨_, rfl⟩ := hy
    obtain ⟨n, hr, h⟩ := ob_eq_some h
    cases h
    refine ⟨_, rfl, rfl, ?_⟩
    unfold fMin at hr
    split at hr <;> cases hr <;> rename_i ho <;> simp [Builtin.min_, Builtin.min2, D.val, ho]
  · cases h

theorem nthV_sound : ∀ {x v : V} {l : List Value} {i : Nat}, RTL B m φ w x l → nthV x i = some v → ∃ u, l[i]? = some u ∧ RT0 B m φ w v u
  | .tcons a b, v, l, 0, hx, h => by
    obtain ⟨u, us, e, h1, _⟩ := hx
    simp only [nthV] at h; cases h; exact ⟨u, by rw [e]; rfl, h1⟩
  | .tcons a b, v, l, i + 1, hx, h => by
    obtain ⟨u, us, e, _, h2⟩ := hx
    simp only [nthV] at h
    obtain ⟨u', h3, h4⟩ := nthV_sound h2 h
    exact ⟨u', by rw [e]; simpa using h3, h4⟩
  | .tnil, _, _, _, _, h => by simp [nthV] at h
  | .d _, _, _, _, h, _ => h.elim
  | .ptr _ _ _ _, _, _, _, h, _ => h.elim
  | .sl _ _ _, _, _, _, h, _ => h.elim
  | .ep _ _ _, _, _, _, h, _ => h.elim
  | .undef, _, _, _, h, _ => h.elim
  | .junk, _, _, _, h, _ => h.elim
  | .clos _ _, _, _, _, h, _ => h.elim
  | .ms _ _ _, _, _, _, h, _ => h.elim

theorem RT_of_RT0 {v : V} {u : Value} (h : RT0 B m φ w v u) : RT B m φ w v u := by
  cases v <;> first | exact h | exact h.elim

theorem extract_sound {x v : V} {u : Value} {i : Nat} (hx : RT B m φ w x u) (h : nthV x i = some v) : ∃ u', (Instr.extract u i).run P w = .ok u' w ∧ RT B m φ w v u' := by
  cases x with
  | tcons c d =>
    obtain ⟨us, rfl, hl⟩ := hx
    obtain ⟨u', h1, h2⟩ := nthV_sound hl h
    refine ⟨u', ?_, RT_of_RT0 h2⟩
    have : us[i]? = some u' := by simpa using h1
    simp [Instr.extract, this]
  | tnil => simp [nthV] at h
  | d x => simp [nthV] at h
  | ptr k sh p t => simp [nthV] at h
  | sl ow sh es => simp [nthV] at h
  | ep ow sh x => simp [nthV] at h
  | undef => simp [nthV] at h
  | junk => simp [nthV] at h
  | clos g c => simp [nthV] at h
  | ms k n u => simp [nthV] at h

theorem capL_sound (r : Rel B w0 φ0 s a w φ) : ∀ (xs : List Operand) (c : V), capL E s xs = some c → RTL B s.m φ w c (xs.map a.eval)
  | [], c, h => by simp only [capL] at h; cases h; exact rfl
  | x :: xs, c, h => by
    simp only [capL] at h
    obtain ⟨v, h1, h⟩ := ob_eq_some h
    obtain ⟨v', h2, h⟩ := ob_eq_some h
    obtain ⟨c', h3, h⟩ := ob_eq_some h
    cases h
    have hv := opd_sound r h1
    refine ⟨a.eval x, xs.map a.eval, rfl, ?_, capL_sound r xs c' h3⟩
    unfold capV at h2
    split at h2
    · cases h2; exact hv
    · cases h2; exact hv
    · cases h2; exact hv
    · cases h2; exact hv
    · cases h2

theorem evFunc_sound (r : Rel B w0 φ0 s a w φ) {fn : Fn} {first caps : Array Operand} {v : V} (h : evFunc E s fn first.toList caps.toList = some v) :
    ∃ u, (Instr.makeFunc fn (first.map a.eval) (caps.map a.eval)).run P w = .ok u w ∧ RT B s.m φ w v u := by
  unfold evFunc at h
  split at h
  · rename_i g hf
    obtain ⟨c, h1, h⟩ := ob_eq_some h
    cases h
    obtain rfl : first = #[] := Array.ext' hf
    exact ⟨_, rfl, caps.map a.eval, by simp, by simpa using capL_sound r caps.toList c h1⟩
  · cases h

theorem callee_sound (r : Rel B w0 φ0 s a w φ) {x : V} {g : Nat} {c : V} {u : Value} (hx : RT B s.m φ w x u) (h : callee s.m x = some (g, c)) : ∃ cs : Array Value, u = .func (.func g) #[] cs ∧ RA w (listV c) cs.toList := by
  unfold callee at h
  split at h
  · rename_i g' a b
    obtain ⟨_, rfl⟩ := hx
    by_cases hc : a.size = 0 ∧ b.size = 0
    · rw [if_pos hc] at h; cases h
      obtain ⟨h1, h2⟩ := hc
      obtain rfl : a = #[] := Array.eq_empty_of_size_eq_zero h1
      obtain rfl : b = #[] := Array.eq_empty_of_size_eq_zero h2
      exact ⟨#[], rfl, trivial⟩
    · rw [if_neg hc] at h; cases h
  · rename_i g' cl
    obtain ⟨c', h1, h⟩ := ob_eq_some h
    cases h
    obtain ⟨cs, rfl, h2⟩ := hx
    exact ⟨cs, rfl, (snapL_sound r h2 h1).list⟩
  · cases h

theorem evBuiltin_sound (hE : EnvOK P E) (r : Rel B w0 φ0 s a w φ) {bi : Builtin} {xs : List Operand} {ts : List Nat} {v : V} (h : evBuiltin E s bi xs ts = some v) :
    ∃ z : D, v = .d z ∧ z.WF ∧ ∀ ty' cs, (builtin bi ts.toArray ty' cs (xs.map a.eval).toArray).run P w = .ok (.value z.val) w := by
  unfold evBuiltin at h
  split at h
  · rename_i x t
    obtain ⟨xv, h1, h⟩ := ob_eq_some h
    obtain ⟨z, hz, hw, _⟩ := evLen_sound (P := P) (ty := 0) hE (opd_sound r h1) h
    refine ⟨z, hz, hw, fun ty' cs => ?_⟩
    obtain ⟨z', e, _, hrun'⟩ := evLen_sound (P := P) (ty := ty') hE (opd_sound r h1) h
    rw [hz] at e; cases e
    simp [builtin, hrun']
  · rename_i x y
    obtain ⟨xv, h1, h⟩ := ob_eq_some h
    obtain ⟨yv, h2, h⟩ := ob_eq_some h
    obtain ⟨z, hz, hw, _⟩ := evMax_sound (P := P) (w := w) (ts := ts.toArray) (ty := 0) (opd_sound r h1) (opd_sound r h2) h
    refine ⟨z, hz, hw, fun ty' cs => ?_⟩
    obtain ⟨z', e, _, hrun'⟩ := evMax_sound (P := P) (w := w) (ts := ts.toArray) (ty := ty') (opd_sound r h1) (opd_sound r h2) h
    rw [hz] at e; cases e
    simp [builtin, hrun']
  · rename_i x y
    obtain ⟨xv, h1, h⟩ := ob_eq_some h
    obtain ⟨yv, h2, h⟩ := ob_eq_some h
    obtain ⟨z, hz, hw, _⟩ := evMin_sound (P := P) (w := w) (ts := ts.toArray) (ty := 0) (opd_sound r h1) (opd_sound r h2) h
    refine ⟨z, hz, hw, fun ty' cs => ?_⟩
    obtain ⟨z', e, _, hrun'⟩ := evMin_sound (P := P) (w := w) (ts := ts.toArray) (ty := ty') (opd_sound r h1) (opd_sound r h2) h
    rw [hz] at e; cases e
    simp [builtin, hrun']
  · cases h

theorem evBd_some {d : Int} {x : Option V} {n : Int} {u : Option Value} (hu : ∀ v, x = some v → ∃ y, u = some y ∧ RT B m φ w v y) (hn : x = none → u = none) (h : evBd d x = some n) :
    (u = none ∧ n = d) ∨ ∃ k, u = some (.int k n) := by
  unfold evBd at h
  split at h
  · cases h; exact .inl ⟨hn rfl, rfl⟩
  · cases h
    obtain ⟨y, rfl, hy⟩ := hu _ rfl
    have hy : D.WF _ ∧ y = _ := hy
    obtain ⟨_, rfl⟩ := hy
    exact .inr ⟨_, rfl⟩
  · cases h
theorem opdO_sound (r : Rel B w0 φ0 s a w φ) {x : Option Operand} {v : Option V} (h : opdO E s x = some v) :
    (∀ z, v = some z → ∃ y, x.map a.eval = some y ∧ RT B s.m φ w z y) ∧ (v = none → x.map a.eval = none) := by
  cases x with
  | none => simp only [opdO] at h; cases h; exact ⟨(fun z hz => by cases hz), fun _ => rfl⟩
  | some x =>
    simp only [opdO] at h
    obtain ⟨z, h1, h⟩ := ob_eq_some h
    cases h
    exact ⟨(fun z' hz => by cases hz; exact ⟨_, rfl, opd_sound r h1⟩), (fun hz => by cases hz)⟩
theorem flats_drop {sh : Sh} : ∀ {es : List D} (_ : Good sh es) (n : Nat), n ≤ es.length → flats (es.drop n) = (flats es).drop (n * sh.size)
  | es, _, 0, _ => by simp
  | [], _, n + 1, h => by simp at h
  | e :: es, hg, n + 1, h => by
    have he := hg e (by simp)
    have hl : e.flat.length = sh.size := by rw [e.flat_length he.1, he.2]
    rw [List.drop_succ_cons, flats_drop (fun y hy => hg y (by simp [hy])) n (by simpa using h)]
    show (flats es).drop (n * sh.size) = (e.flat ++ flats es).drop ((n + 1) * sh.size)
    rw [Nat.add_mul, Nat.one_mul, Nat.add_comm, ← List.drop_drop, ← hl, List.drop_left]
theorem flats_take {sh : Sh} : ∀ {es : List D} (_ : Good sh es) (n : Nat), n ≤ es.length → flats (es.take n) = (flats es).take (n * sh.size)
  | es, _, 0, _ => by simp [flats]
  | [], _, n + 1, h => by simp at h
  | e :: es, hg, n + 1, h => by
    have he := hg e (by simp)
    have hl : e.flat.length = sh.size := by rw [e.flat_length he.1, he.2]
    rw [List.take_succ_cons]
    show e.flat ++ flats (es.take n) = (e.flat ++ flats es).take ((n + 1) * sh.size)
    rw [flats_take (fun y hy => hg y (by simp [hy])) n (by simpa using h), Nat.add_mul, Nat.one_mul, Nat.add_comm, ← hl, List.take_length_add_append, hl]
theorem evSlice_sound (hE : EnvOK P E) {t : Nat} {x v : V} {lo hi : Option V} {ux : Value} {ulo uhi : Option Value} (hx : RT B m φ w x ux)
    (hlo : ∀ z, lo = some z → ∃ y, ulo = some y ∧ RT B m φ w z y) (hlo' : lo = none → ulo = none) (hhi : ∀ z, hi = some z → ∃ y, uhi = some y ∧ RT B m φ w z y) (hhi' : hi = none → uhi = none)
    (h : evSlice E t x lo hi = some v) : ∃ u, (Instr.sliceAt t ux ulo uhi none).run P w = .ok u w ∧ RT B m φ w v u := by
  unfold evSlice at h
  split at h
  · rename_i sh es
    obtain ⟨ty, ht, h⟩ := ob_eq_some h
    split at h
    · rename_i e hk
      obtain ⟨te, hte, h⟩ := ob_eq_some h
      obtain ⟨l, hl, h⟩ := ob_eq_some h
      obtain ⟨n, hn, h⟩ := ob_eq_some h
      by_cases hc : te.sh = sh ∧ 0 ≤ l ∧ l ≤ n ∧ n ≤ (es.length : Int)
      · rw [if_pos hc] at h
        cases h
        obtain ⟨rfl, c1, c2, c3⟩ := hc
        have hkd := (hE t ty ht).kd
        rw [hk] at hkd
        simp only [KdOK] at hkd
        have hsz := (hE e te hte).lies.sizeOf w
        have hL := evBd_some hlo hlo' hl
        have hH := evBd_some hhi hhi' hn
        have el : (l.toNat : Int) = l := Int.toNat_of_nonneg c1
        have en : (n.toNat : Int) = n := Int.toNat_of_nonneg (by omega)
        have key : ∀ (a : Option Addr) (cap : Nat), es.length ≤ cap → (Instr.sliceAt t (.slice a es.length cap) ulo uhi none).run P w = .ok (.slice (if cap = l.toNat then a else a.map (·.add (l.toNat * te.sh.size))) (n.toNat - l.toNat) (cap - l.toNat)) w := by
          intro a cap hcap
          have b1 : n ≤ (cap : Int) := by omega
          have b2 : 0 ≤ n := by omega
          rcases hL with ⟨rfl, rfl⟩ | ⟨kl, rfl⟩ <;> rcases hH with ⟨rfl, rfl⟩ | ⟨kh, rfl⟩ <;>
            simp [Instr.sliceAt, Instr.slice, run_underlying hkd, Instr.sliceBounds, run_sliceBound, hsz, *]
        obtain ⟨hg, hx⟩ := hx
        have hg1 : Good te.sh (es.take n.toNat) := fun y hy => hg y (List.mem_of_mem_take hy)
        have hg2 : Good te.sh ((es.take n.toNat).drop l.toNat) := fun y hy => hg1 y (List.mem_of_mem_drop hy)
        have hlen : ((es.take n.toNat).drop l.toNat).length = n.toNat - l.toNat := by rw [List.length_drop, List.length_take]; omega
        rcases hx with ⟨rfl, rfl⟩ | ⟨g, off, cap, cs, T, fr, h1, hcap, rfl, h3, h4⟩
        · have z1 : l.toNat = 0 := by simp at c3; omega
          have z2 : n.toNat = 0 := by simp at c3; omega
          refine ⟨_, key none 0 (Nat.le_refl _), hg2, .inl ⟨by simp, ?_⟩⟩
          rw [z1, z2]; rfl
        · refine ⟨_, key _ cap hcap, hg2, .inr ⟨g, if cap = l.toNat then off else off + l.toNat * te.sh.size, cap - l.toNat, cs, T, fr, h1, by rw [hlen]; omega, ?_, h3, fun j v hj => ?_⟩⟩
          · rw [hlen]
            by_cases hcl : cap = l.toNat
            · rw [if_pos hcl, if_pos hcl]
            · rw [if_neg hcl, if_neg hcl, Option.map_some, Addr.add_mid]
          · rw [flats_drop hg1 _ (by rw [List.length_take]; omega), flats_take hg _ (by omega), List.getElem?_drop, List.getElem?_take] at hj
            split at hj
            · rename_i hlt
              have hne : cap ≠ l.toNat := fun e => by
                have : n.toNat ≤ l.toNat := by omega
                have := Nat.mul_le_mul_right te.sh.size this
                omega
              rw [if_neg hne, Nat.add_assoc]
              exact h4 _ _ hj
            · cases hj
      · rw [if_neg hc] at h; cases h
    · cases h
  · cases h

/-- An operation that changes nothing that was there. -/
theorem evP_sound (hE : EnvOK P E) {call : Nat → List V → Option V} (hcall : ∀ g l r, call g l = some r → ∀ w, Below B w0 w → CallX P w g l r) (r : Rel B w0 φ0 s a w φ) {v : V} {b : Option Bk}
    (h : evP E call k o.type s o.op = some (v, b)) : Yields P o a w fun u w' => ∃ φ', StepOK B s.m φ w k v b u w' φ' := by
  obtain ⟨dst, op, ty, pos, after, guard⟩ := o
  cases op
  case move x =>
    obtain ⟨φ', hs⟩ := evMove_sound r h
    exact Yields.value (by simp [execOp]) ⟨φ', hs⟩
  case assign x =>
    obtain ⟨φ', hs⟩ := evMove_sound r h
    exact Yields.value (by simp [execOp]) ⟨φ', hs⟩
  case pick c x y =>
    simp only [evP] at h
    obtain ⟨cv, h1, h⟩ := ob_eq_some h
    obtain ⟨hq, hb⟩ := pure1_some h
    subst hb
    clear h
    have hc := opd_sound r h1
    unfold evPick at hq
    split at hq
    · obtain ⟨_, hc⟩ := hc
      exact Yields.value (u := a.eval x) (by simp [execOp, hc, D.val, asBool]) ⟨φ, stay (opd_sound r hq)⟩
    · obtain ⟨_, hc⟩ := hc
      exact Yields.value (u := a.eval y) (by simp [execOp, hc, D.val, asBool]) ⟨φ, stay (opd_sound r hq)⟩
    · cases hq
  case box t x =>
    simp only [evP] at h
    obtain ⟨xv, h1, hA⟩ := ob_eq_some h
    obtain ⟨y, h2, hB⟩ := ob_eq_some hA
    clear h hA
    obtain rfl := dat_some h2
    cases hB
    obtain ⟨hw, hu⟩ := opd_sound r h1
    exact Yields.value (by simp [execOp, Instr.box, newVar, newRow, hu, D.val_cells _ hw]) ⟨_, newBox φ hw t⟩
  case alloc t =>
    simp only [evP] at h
    obtain ⟨te, h1, h⟩ := ob_eq_some h
    cases h
    have hT := hE t te h1
    obtain ⟨i, hi, hz, _⟩ := hT.zero
    have := newBox (B := B) (m := s.m) (w := w) (k := k) φ hT.zwf.1 t
    rw [hT.zwf.2] at this
    refine Yields.value ?_ ⟨_, this⟩
    simp [execOp, Instr.alloc, zeroValue, typeInfo, hi, hz, newVar, newRow, D.val_cells _ hT.zwf.1]
  case load t x =>
    simp only [evP] at h
    obtain ⟨xv, h1, h⟩ := ob_eq_some h
    obtain ⟨hq, hb⟩ := pure1_some h
    subst hb
    clear h
    obtain ⟨y, rfl, hw, hrun⟩ := evLoad_sound hE r (opd_sound r h1) hq
    exact Yields.value (by simp [execOp, hrun]) ⟨φ, stepD hw⟩
  case indexAddr t x i =>
    simp only [evP] at h
    obtain ⟨xv, h1, h⟩ := ob_eq_some h
    obtain ⟨iv, h2, h⟩ := ob_eq_some h
    obtain ⟨hq, hb⟩ := pure1_some h
    subst hb
    clear h
    obtain ⟨u', hrt, hrun⟩ := evIndexAddr_sound hE (opd_sound r h1) (opd_sound r h2) hq
    exact Yields.value (by simp [execOp, hrun]) ⟨φ, stay hrt⟩
  case fieldAddr t x j =>
    simp only [evP] at h
    obtain ⟨xv, h1, h⟩ := ob_eq_some h
    obtain ⟨hq, hb⟩ := pure1_some h
    subst hb
    clear h
    obtain ⟨u', hrt, hrun⟩ := evFieldAddr_sound hE (opd_sound r h1) hq
    exact Yields.value (by simp [execOp, hrun]) ⟨φ, stay hrt⟩
  case index t x i =>
    simp only [evP] at h
    obtain ⟨xv, h1, h⟩ := ob_eq_some h
    obtain ⟨iv, h2, h⟩ := ob_eq_some h
    obtain ⟨hq, hb⟩ := pure1_some h
    subst hb
    clear h
    obtain ⟨y, rfl, hw, hrun⟩ := evIndex_sound hE (opd_sound r h1) (opd_sound r h2) hq
    exact Yields.value (by simp [execOp, hrun]) ⟨φ, stepD hw⟩
  case field t x j =>
    simp only [evP] at h
    obtain ⟨xv, h1, h⟩ := ob_eq_some h
    obtain ⟨hq, hb⟩ := pure1_some h
    subst hb
    clear h
    obtain ⟨y, rfl, hw, hrun⟩ := evField_sound hE (opd_sound r h1) hq
    exact Yields.value (by simp [execOp, hrun]) ⟨φ, stepD hw⟩
  case extract x i =>
    simp only [evP] at h
    obtain ⟨xv, h1, h⟩ := ob_eq_some h
    obtain ⟨hq, hb⟩ := pure1_some h
    subst hb
    clear h
    obtain ⟨u', hrun, hrt⟩ := extract_sound (P := P) (opd_sound r h1) hq
    exact Yields.value (by simp [execOp, hrun]) ⟨φ, stay hrt⟩
  case build t parts =>
    simp only [evP] at h
    obtain ⟨hq, hb⟩ := pure1_some h
    subst hb
    clear h
    obtain ⟨y, rfl, hw, hrun⟩ := evBuild_sound hE r hq
    exact Yields.value (by simp only [execOp, Sem.run_bind, hrun, Result.andThen_ok, Sem.run_pure]) ⟨φ, stepD hw⟩
  case buildSlice t len parts =>
    simp only [evP] at h
    obtain ⟨u, w', φ', hrun, hs⟩ := evBuildSlice_sound hE r h
    exact Yields.value (by simp only [execOp, Sem.run_bind, hrun, Result.andThen_ok, Sem.run_pure]) ⟨φ', hs⟩
  case binOp op t x y t' =>
    simp only [evP] at h
    obtain ⟨xv, h1, h⟩ := ob_eq_some h
    obtain ⟨yv, h2, h⟩ := ob_eq_some h
    obtain ⟨hq, hb⟩ := pure1_some h
    subst hb
    clear h
    obtain ⟨z, rfl, hw, hrun⟩ := evBin_sound (xo := x) (yo := y) hE (opd_sound r h1) (opd_sound r h2) hq
    exact Yields.value (by simp only [execOp, Sem.run_bind, Sem.run_pure] at hrun ⊢; simp only [hrun, Result.andThen_ok]) ⟨φ, stepD hw⟩
  case unOp op t x =>
    simp only [evP] at h
    obtain ⟨xv, h1, h⟩ := ob_eq_some h
    obtain ⟨hq, hb⟩ := pure1_some h
    subst hb
    clear h
    obtain ⟨z, rfl, hw, hrun⟩ := evUn_sound (P := P) (opd_sound r h1) hq
    exact Yields.value (by simp only [execOp, Sem.run_bind, hrun, Result.andThen_ok, Sem.run_pure]) ⟨φ, stepD hw⟩
  case convert src dst x =>
    simp only [evP] at h
    obtain ⟨xv, h1, h⟩ := ob_eq_some h
    obtain ⟨hq, hb⟩ := pure1_some h
    subst hb
    clear h
    obtain ⟨z, rfl, hw, hrun⟩ := evConv_sound hE (opd_sound r h1) hq
    exact Yields.value (by simp only [execOp, Sem.run_bind, hrun, Result.andThen_ok, Sem.run_pure]) ⟨φ, stepD hw⟩
  case call c =>
    obtain ⟨callee', xs, ts⟩ := c
    cases callee' with
    | invoke _ _ => cases h
    | builtin bi =>
      simp only [evP] at h
      obtain ⟨hq, hb⟩ := pure1_some h
      subst hb
      clear h
      obtain ⟨z, rfl, hw, hrun⟩ := evBuiltin_sound hE r hq
      refine Yields.value (u := z.val) ?_ ⟨φ, stepD hw⟩
      have e : (xs.toList.map a.eval).toArray = xs.map a.eval := by apply Array.ext'; simp
      have := hrun ty (xs.map fun | .const _ => true | _ => false)
      rw [e] at this
      simp only [execOp, resolve, invoke, Sem.run_bind, Sem.run_pure, Result.andThen_ok]
      exact this
    | value f =>
      simp only [evP] at h
      obtain ⟨fv, h1, h⟩ := ob_eq_some h
      obtain ⟨⟨g, c⟩, h2, h⟩ := ob_eq_some h
      obtain ⟨l, h3, h⟩ := ob_eq_some h
      by_cases hmu : mutq g (l ++ listV c) = true
      · rw [if_pos hmu] at h; cases h
      rw [if_neg hmu] at h
      replace hmu : mutq g (l ++ listV c) = false := by simpa using hmu
      obtain ⟨rv, h4, h⟩ := ob_eq_some h
      obtain ⟨cs, hf, hca⟩ := callee_sound r (opd_sound r h1) h2
      have hargs := args_sound r xs.toList l h3
      rcases (hcall g (l ++ listV c) rv h4 w r.bel).1 hmu with ⟨⟨fn, hfn, hbody, hname⟩, hrun⟩ | ⟨fn, e, hfn, hname, hbody, hnext, hent, hrun⟩
      rotate_left
      · obtain ⟨u, w', hr, hb, hrr⟩ := hrun (xs.toList.map a.eval ++ cs.toList) (RA_append hargs hca)
        obtain ⟨φ', hs⟩ := retV_sound (k := k) r.base hb hrr h φ
        have e1 : (xs.toList.map a.eval ++ cs.toList).toArray = xs.map a.eval ++ cs := by apply Array.ext'; simp
        rw [e1] at hr
        refine Yields.value (u := u) ?_ ⟨φ', hs⟩
        simp only [execOp, resolve, hf, Deferred.ofValue, invoke, Sem.run_bind, Sem.run_pure, Result.andThen_ok, Array.empty_append]
        rw [run_callFunc_extern hfn hname hbody hnext hent, hr]
        rfl
      intro K Q hK
      unfold Oper.wp
      have hex : (execOp a.eval ⟨dst, .call ⟨.value f, xs, ts⟩, ty, pos, after, guard⟩).run P w = .ok (.enter g (xs.map a.eval ++ cs)) w := by
        simp only [execOp, resolve, hf, Deferred.ofValue, invoke, callFunc, Sem.run_bind, Sem.run_pure, Result.andThen_ok, run_program, hfn, hname, hbody, Bool.false_eq_true, if_false, Array.empty_append]
      rw [hex, Oper.upon_enter]
      have hr := hrun (xs.toList.map a.eval ++ cs.toList) (RA_append hargs hca)
      have e : (xs.toList.map a.eval ++ cs.toList).toArray = xs.map a.eval ++ cs := by apply Array.ext'; simp
      rw [e] at hr
      refine hr.mono fun en w' hq => ?_
      obtain ⟨u, rfl, hb, hrr⟩ := hq
      obtain ⟨φ', hs⟩ := retV_sound (k := k) r.base hb hrr h φ
      exact hK u w' ⟨φ', hs⟩
  case makeFunc fn first caps =>
    simp only [evP] at h
    obtain ⟨hq, hb⟩ := pure1_some h
    subst hb
    clear h
    obtain ⟨u, hrun, hrt⟩ := evFunc_sound (P := P) r hq
    exact Yields.value (by simp only [execOp, Sem.run_bind, hrun, Result.andThen_ok, Sem.run_pure]) ⟨φ, stay hrt⟩
  case makeSlice t l c =>
    simp only [evP] at h
    obtain ⟨lv, h1, h⟩ := ob_eq_some h
    obtain ⟨cv, h2, h⟩ := ob_eq_some h
    obtain ⟨u, w', φ', hrun, hs⟩ := evMake_sound hE r (opd_sound r h1) (opd_sound r h2) h
    exact Yields.value (by simp only [execOp, Sem.run_bind, hrun, Result.andThen_ok, Sem.run_pure]) ⟨φ', hs⟩
  case slice t x lo hi mx =>
    cases mx with
    | some _ => simp only [evP] at h; cases h
    | none =>
      simp only [evP] at h
      obtain ⟨xv, h1, h⟩ := ob_eq_some h
      obtain ⟨lv, h2, h⟩ := ob_eq_some h
      obtain ⟨hv, h3, h⟩ := ob_eq_some h
      obtain ⟨hq, hb⟩ := pure1_some h
      subst hb
      clear h
      obtain ⟨q1, q2⟩ := opdO_sound r h2
      obtain ⟨q3, q4⟩ := opdO_sound r h3
      obtain ⟨u, hrun, hrt⟩ := evSlice_sound hE (opd_sound r h1) q1 q2 q3 q4 hq
      exact Yields.value (by simp only [execOp, Sem.run_bind, Option.map_none, hrun, Result.andThen_ok, Sem.run_pure]) ⟨φ, stay hrt⟩
  all_goals (simp only [evP] at h; cases h)

/- A store. -/
theorem setRow_below {g : Nat} (hg : B ≤ g) (cs : Array Value) : Below B w (w.setRow g cs) :=
  ⟨rfl, rfl, rfl, by simp, fun i hi => setRow_other w g i cs (by omega), Dr.refl _⟩

theorem evStore_sound (hE : EnvOK P E) (r : Rel B w0 φ0 s a w φ) {t : Nat} {x y : V} {ux uy : Value} {s' : St} (hx : RT B s.m φ w x ux) (hy : RT B s.m φ w y uy) (h : evStore E s t x y = some s') :
    ∃ w', (Instr.storeAt t ux uy).run P w = .ok () w' ∧ Rel B w0 φ0 s' a w' φ := by
  unfold evStore at h
  split at h
  · rename_i k sh p u v
    obtain ⟨ty, ht, h⟩ := ob_eq_some h
    obtain ⟨b, hm, h⟩ := ob_eq_some h
    cases b with
    | row => cases h
    | box z =>
      simp only at h
      by_cases hc : u = ty.sh ∧ v.shape = u
      · rw [if_pos hc] at h; cases h
        obtain ⟨rfl, hvs⟩ := hc
        obtain ⟨hvw, rfl⟩ := hy
        obtain ⟨h1, h2, h3, h4, h5, g, T, h6, rfl, h8, h9⟩ := box_at r hm hx
        obtain ⟨_, _, _, _, _, _, e3⟩ := z.at_path p ty.sh h1 (by rw [h2]; exact h3)
        obtain ⟨k1, k2, _⟩ := e3 v hvw hvs
        have hst := run_store_at (P := P) (hE t ty ht).lies h1 (by rw [h2]; exact h3) hvw hvs h8
        have hlo := r.lo k g h6
        have hlen : (z.set p v).flat.length = z.flat.length := by rw [(z.set p v).flat_length k1, k2, z.flat_length h1]
        refine ⟨w.setRow g ((z.set p v).flat ++ tl w0 g z.flat.length).toArray, ?_, ?_⟩
        · simp only [Instr.storeAt, Instr.sureAddr, Sem.run_bind, Sem.run_pure, Result.andThen_ok]
          rw [← h2]; exact hst
        · have other : ∀ i, i ≠ g → (w.setRow g ((z.set p v).flat ++ tl w0 g z.flat.length).toArray).heap[i]? = w.heap[i]? := fun i hi => setRow_other w g i _ hi
          refine ⟨r.dfr, fun i => ?_, r.bel.trans ((setRow_below hlo.1 _)), by simpa using r.base, fun k' x' hx' => ?_, r.inj, fun k' g' hg' => ⟨(r.lo k' g' hg').1, by simpa using (r.lo k' g' hg').2⟩, r.fr.step ⟨fun g' _ hn => other g' (fun e => hn k (e ▸ h6)), fun k' g' e => .inl ⟨k', e⟩, by simp⟩, fun k' g' x' hk' h0 hx' => ?_⟩
          · refine (r.tm i).keep ⟨fun k' _ => ⟨rfl, ?_⟩, fun g' hg' _ => other g' (by omega), fun k' g' _ hrow hφ _ => other g' (fun e => ?_)⟩
            · by_cases hk : k' = k
              · subst hk; exact .inr ⟨z, _, hm, upd_same _ _ _, k2⟩
              · exact .inl (upd_ne _ _ hk)
            · subst e
              obtain rfl := r.inj _ _ _ hφ h6
              rw [hm] at hrow; cases hrow
          · by_cases hk : k' = k
            · subst hk
              simp only [upd_same] at hx'
              cases hx'
              exact ⟨k1, g, T, h6, by rw [hlen]; exact setRow_heap w g _ _ T (0, 0) h8⟩
            · simp only [upd_ne _ _ hk] at hx'
              obtain ⟨q1, g', T', q2, q3⟩ := r.box k' x' hx'
              exact ⟨q1, g', T', q2, (other g' (fun e => by subst e; exact hk (r.inj _ _ _ q2 h6))).trans q3⟩
          · by_cases hk : k' = k
            · subst hk; exact r.pin k' g' z hk' h0 hm
            · simp only [upd_ne _ _ hk] at hx'
              exact r.pin k' g' x' hk' h0 hx'
      · rw [if_neg hc] at h; cases h
  · cases h

/- An append. -/
theorem run_append_room' (t ty e e' : TypeId) (i : TypeInfo) (ht : P.underlying t = some (.slice e)) (hi : P.info? e = some i)
    (g sLen sCap : Nat) (cur : Array Value) (hg : w.heap[g]? = some (.cells cur e' (0, 0)))
    (ad : Addr) (m c : Nat) (news : List Value) (hl : news.length = m * i.size) (hnews : ∀ j u, news[j]? = some u → w.cell? (ad.add j) = some u) (h1 : ∀ u ∈ news, u.oneCell' = true)
    (hroom : sLen + m ≤ sCap) (hfit : sLen * i.size + news.length ≤ cur.size) :
    (Builtin.append_ #[t, t] ty #[.slice (some ⟨g, 0, none⟩) sLen sCap, .slice (some ad) m c]).run P w =
      .ok (.slice (some ⟨g, 0, none⟩) (sLen + m) sCap) (w.setRow g (cur.toList.take (sLen * i.size) ++ news ++ cur.toList.drop (sLen * i.size + news.length)).toArray) := by
  have hf := run_firstCells_some (P := P) w i.size m ad m c news hl hnews
  have hst := run_storeCells_at P g (sLen * i.size) e' news 0 cur w hg (by simpa using hfit) h1
  simp only [Nat.add_zero] at hst
  simp [Builtin.append_, run_underlying ht, sizeOf, typeInfo, hi, Builtin.lenOf, hroom, hf, Addr.add_lit, hst]

theorem run_append_nothing (t ty e : TypeId) (i : TypeInfo) (ht : P.underlying t = some (.slice e)) (hi : P.info? e = some i) (ad : Option Addr) (n c : Nat) (hnc : n ≤ c) :
    (Builtin.append_ #[t, t] ty #[.slice ad n c, .slice none 0 0]).run P w = .ok (.slice ad n c) w := by
  cases ad <;> simp [Builtin.append_, run_underlying ht, sizeOf, typeInfo, hi, Builtin.lenOf, hnc, Builtin.firstCells, storeCells]

theorem run_append_own' (base : Nat) (t ty e : TypeId) (i : TypeInfo) (z : Value) (size bytes : Nat) (ht : P.underlying t = some (.slice e)) (hi : P.info? e = some i) (hz : i.zero = some z)
    (hsize : i.size = size) (hby : i.bytes = bytes) (hzs : z.cells.size = size) (hsz : 0 < size)
    (v : Value) (n : Nat) (xs : List Value) (e' : TypeId) (hown : w.ownsRow base e' size v n xs)
    (ad : Addr) (m c : Nat) (news : List Value) (hl : news.length = m * size) (hnews : ∀ j u, news[j]? = some u → w.cell? (ad.add j) = some u) (h1 : ∀ u ∈ news, u.oneCell' = true)
    (h63 : n + m ≤ maxLen) (hbytes : (n + m) * bytes ≤ 140737488355328) (hbase : base ≤ w.heap.size) :
    ∃ v' w' e'', (Builtin.append_ #[t, t] ty #[v, .slice (some ad) m c]).run P w = .ok v' w' ∧ w'.ownsRow base e'' size v' (n + m) (xs ++ news) ∧ GB w w' v.ownBlock ∧
      (∀ g, v'.ownBlock = some g → v.ownBlock = some g ∨ w.heap.size ≤ g) := by
  have other : (∃ g cap cur, v = .slice (some ⟨g, 0, none⟩) n cap ∧ base ≤ g ∧ w.heap[g]? = some (.cells cur e' (0, 0)) ∧ n ≤ cap ∧ cap ≤ maxLen ∧ cur.size = cap * size ∧ cur.toList.take (n * size) = xs ∧ n + m ≤ cap) ∨
      ((v = .slice none 0 0 ∧ n = 0) ∨ ∃ g cap cur, v = .slice (some ⟨g, 0, none⟩) n cap ∧ base ≤ g ∧ w.heap[g]? = some (.cells cur e' (0, 0)) ∧ n ≤ cap ∧ cap ≤ maxLen ∧ cur.size = cap * size ∧ cur.toList.take (n * size) = xs ∧ cap < n + m) := by
    rcases hown.2 with h | ⟨g, cap, cur, h1, h2, h3, h4, h5, h6, h7⟩
    · exact .inr (.inl h)
    · rcases Nat.lt_or_ge cap (n + m) with hc | hc
      · exact .inr (.inr ⟨g, cap, cur, h1, h2, h3, h4, h5, h6, h7, hc⟩)
      · exact .inl ⟨g, cap, cur, h1, h2, h3, h4, h5, h6, h7, hc⟩
  subst hsize
  subst hby
  have hsmall : n + m ≤ 9223372036854775807 := by simp only [maxLen] at h63; omega
  have hlen : (xs ++ news).length = (n + m) * i.size := by rw [List.length_append, hown.1, hl, Nat.add_mul]
  have grown : ∀ (old : Nat), old < n + m →
      (w.drew.alloc (.cells (xs.toArray ++ news.toArray ++ Builtin.zeroCells z.cells (grownCap w (n + m) old e - (n + m))) e)).ownsRow base e i.size
        (.slice (some ⟨w.heap.size, 0, none⟩) (n + m) (grownCap w (n + m) old e)) (n + m) (xs ++ news) ∧
      GB w (w.drew.alloc (.cells (xs.toArray ++ news.toArray ++ Builtin.zeroCells z.cells (grownCap w (n + m) old e - (n + m))) e)) v.ownBlock := by
    intro old ho
    have hge := grownCap_ge w (n + m) old e
    have hcm : grownCap w (n + m) old e ≤ maxLen := grownCap_le_maxLen w (n + m) old e h63
    refine ⟨⟨hlen, .inr ⟨w.heap.size, _, _, rfl, hbase, heap_alloc_new w.drew _, hge, hcm, ?_, ?_⟩⟩, ⟨rfl, rfl, rfl, by simp, fun k hk _ => Go.RowKit.Below.heap_alloc w.drew _ k hk, Dr.le (Nat.le_succ _)⟩⟩
    · simp only [Array.size_append, List.size_toArray, size_zeroCells, hzs, hown.1, hl, ← Nat.add_mul]
      congr 1
      omega
    · simp only [Array.toList_append, List.append_assoc]
      rw [← List.append_assoc, ← hlen]
      exact List.take_left
  rcases other with ⟨g, cap, cur, rfl, hbg, hg, hnc, hcm, hcs, htake, hroom⟩ | ⟨rfl, rfl⟩ | ⟨g, cap, cur, rfl, hbg, hg, hnc, hcm, hcs, htake, hroom⟩
  · have hfit : n * i.size + news.length ≤ cur.size := by rw [hl, hcs, ← Nat.add_mul]; exact Nat.mul_le_mul_right _ hroom
    have hr := run_append_room' (P := P) (w := w) t ty e e' i ht hi g n cap cur hg ad m c news hl hnews h1 hroom hfit
    refine ⟨_, _, e', hr, ⟨hlen, .inr ⟨g, cap, _, rfl, hbg, setRow_heap w g cur _ e' _ hg, hroom, hcm, ?_, ?_⟩⟩, ⟨rfl, rfl, rfl, by simp, fun k _ hk => setRow_other w g k _ (fun e => hk (by simp [Value.ownBlock, e])), Dr.refl _⟩, fun g' hg' => .inl hg'⟩
    · simp only [List.size_toArray, List.length_append, List.length_take, List.length_drop, Array.length_toList]
      omega
    · rw [htake, ← hlen]
      exact List.take_left
  · have hx : xs = [] := List.eq_nil_of_length_eq_zero (by simpa using hown.1)
    subst hx
    by_cases hm : m = 0
    · subst hm
      have hn : news = [] := List.eq_nil_of_length_eq_zero (by simpa using hl)
      subst hn
      refine ⟨.slice none 0 0, w, e, ?_, World.ownsRow_nil w base e i.size, ⟨rfl, rfl, rfl, Nat.le_refl _, fun _ _ _ => rfl, Dr.refl _⟩, fun g hg => .inl hg⟩
      simp [Builtin.append_, run_underlying ht, sizeOf, typeInfo, hi, Builtin.lenOf, Builtin.firstCells, loadCells, loadCellsFrom]
    · have hr := run_append_nil (P := P) w t ty e i z ht hi hz ad m c news hl hnews (by omega) (by omega) (by have hb := hbytes; simp only [Nat.zero_add] at hb; omega)
      have hgr := grown 0 (by omega)
      simp only [Nat.zero_add, List.nil_append, Array.empty_append] at hgr ⊢
      exact ⟨_, _, e, hr, hgr.1, hgr.2, fun g hg => .inr (by simp [Value.ownBlock] at hg; omega)⟩
  · have holds : ∀ j u, xs[j]? = some u → w.cell? ((⟨g, 0, none⟩ : Addr).add j) = some u := hown.cells (g := g) rfl
    have hr := run_append_grow (P := P) w t ty e i z ht hi hz ⟨g, 0, none⟩ n cap xs hown.1 holds ad m c news hl hnews (by omega) (by omega) (growslice_fits (by omega) hbytes)
    have hgr := grown cap (by omega)
    exact ⟨_, _, e, hr, hgr.1, hgr.2, fun g hg => .inr (by simp [Value.ownBlock] at hg; omega)⟩
end
end Go.Proofs.YtjceimcepogkaaaGreatDoor.Ev
