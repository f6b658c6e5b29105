/-
  Appends; one operation; the operations of a region, in the order of the text.
-/
import Derived.Test.YtjceimcepogkaaaGreatDoorEvQ
namespace Go.Proofs.YtjceimcepogkaaaGreatDoor.Ev
open Go Go.RowKit

section
variable {P : Program} {E : Env} {B : Nat} {w0 : World} {φ0 : Nat → Option Nat} {s s' : St} {a : Act} {w w' : World} {φ φ' : Nat → Option Nat} {o : Oper} {m : Nat → Option Bk} {k : Nat}

theorem flats_one {sh : Sh} {es : List D} (h : Good sh es) : ∀ u ∈ flats es, u.oneCell' = true := fun u hu => by
  simp only [flats, List.mem_flatMap] at hu
  obtain ⟨x, hx, hu⟩ := hu
  exact x.flat_one (h x hx).1 u hu

theorem RT.kill {v : V} {u : Value} (h : RT B m φ w v u) (k : Nat) : RT B m φ w (v.kill k) u := by
  unfold V.kill
  split
  · trivial
  · exact h

theorem grown_below {lo : Nat} {row : Option Nat} (hg : GB w w' row) (hr : ∀ k, row = some k → lo ≤ k) (hlo : lo ≤ w.heap.size) : Below lo w w' :=
  ⟨hg.os, hg.tape, hg.output, hg.size, fun k hk => hg.block k (by omega) (fun e => by have := hr k e.symm; omega), hg.drawn⟩

theorem evAppend_sound (hE : EnvOK P E) (r : Rel B w0 φ0 s a w φ) (hk : k < a.tmps.size) {t t' ty : Nat} {x y : V} {u1 u2 : Value} (hx : RT B s.m φ w x u1) (hy : RT B s.m φ w y u2)
    (h : evAppend E s k t t' x y = some s') : ∃ u w' φ', (Builtin.append_ #[t, t'] ty #[u1, u2]).run P w = .ok u w' ∧ Rel B w0 φ0 s' (a.put (some k) u) w' φ' := by
  unfold evAppend at h
  split at h
  · rename_i ow sh es ow' sh' es'
    obtain ⟨tt, ht, h⟩ := ob_eq_some h
    split at h
    · rename_i e hkd
      obtain ⟨te, hte, h⟩ := ob_eq_some h
      by_cases hc : t = t' ∧ te.sh = sh ∧ sh' = sh ∧ 0 < sh.size
      · rw [if_pos hc] at h
        have hF := h
        clear h
        obtain ⟨rfl, rfl, rfl, hpos⟩ := hc
        by_cases hc2 : (es.length + es'.length) * te.bytes ≤ 140737488355328 ∧ es.length + es'.length ≤ maxLen
        · rw [if_pos hc2] at hF
          obtain ⟨hbytes, hmax⟩ := hc2
          have hkd' := (hE t tt ht).kd
          rw [hkd] at hkd'
          simp only [KdOK] at hkd'
          have hT := hE e te hte
          obtain ⟨i, hi, hz, hby⟩ := hT.zero
          obtain ⟨i', d, hi', hsz, _, _⟩ := hT.lies
          rw [hi] at hi'; cases hi'
          have hzs : te.zero.val.cells.size = te.sh.size := by rw [D.val_cells _ hT.zwf.1]; simp [te.zero.flat_length hT.zwf.1, hT.zwf.2]
          obtain ⟨hg1, hr1⟩ := sl_read hx
          obtain ⟨hg2, hr2⟩ := sl_read hy
          have hgood : Good te.sh (es ++ es') := fun q hq => by
            rcases List.mem_append.1 hq with hq | hq
            · exact hg1 q hq
            · exact hg2 q hq
          have run : ∀ (lo : Nat) (e' : TypeId), w.ownsRow lo e' te.sh.size u1 es.length (flats es) → lo ≤ w.heap.size →
              ∃ v' w' e'', (Builtin.append_ #[t, t] ty #[u1, u2]).run P w = .ok v' w' ∧ w'.ownsRow lo e'' te.sh.size v' (es ++ es').length (flats (es ++ es')) ∧ GB w w' u1.ownBlock ∧
                ∀ g, v'.ownBlock = some g → u1.ownBlock = some g ∨ w.heap.size ≤ g := by
            intro lo e' hown hlo
            rcases hr2 with ⟨rfl, rfl⟩ | ⟨g, off, cap, rfl, hcells⟩
            · refine ⟨u1, w, e', ?_, by simpa using hown, ⟨rfl, rfl, rfl, Nat.le_refl _, fun _ _ _ => rfl, Dr.refl _⟩, fun g hg => .inl hg⟩
              rcases hown.2 with ⟨rfl, _⟩ | ⟨g, cap, cur, rfl, _, _, hnc, _⟩
              · exact run_append_nothing t ty e i hkd' hi none 0 0 (Nat.le_refl _)
              · exact run_append_nothing t ty e i hkd' hi _ _ _ hnc
            · obtain ⟨v', w', e'', q1, q2, q3, q4⟩ := run_append_own' (P := P) (w := w) lo t ty e i te.zero.val te.sh.size te.bytes hkd' hi hz hsz hby hzs hpos u1 es.length (flats es) e' hown
                ⟨g, off, none⟩ es'.length cap (flats es') (flats_length hg2) (fun j v hj => by rw [Addr.add_mid]; exact hcells j v hj) (flats_one hg2) hmax hbytes hlo
              exact ⟨v', w', e'', q1, by rw [flats_append, List.length_append]; exact q2, q3, q4⟩
          cases ow with
          | ro => cases hF
          | nil =>
            cases hF
            obtain ⟨rfl, rfl⟩ := hx
            obtain ⟨v', w', e'', q1, q2, q3, _⟩ := run w.heap.size 0 (World.ownsRow_nil w _ 0 _) (Nat.le_refl _)
            have hb : Below w.heap.size w w' := grown_below q3 (fun k hk => by simp [Value.ownBlock] at hk) (Nat.le_refl _)
            obtain ⟨φ'', hrel⟩ := r.app (some k) (newRowAt (k := k) (m := s.m) φ hb r.base ⟨hgood, e'', q2⟩) (fun k' hk' => by cases hk'; exact hk)
            exact ⟨v', w', φ'', q1, hrel⟩
          | tg k' =>
            cases hF
            obtain ⟨hm, ⟨_, e', hown⟩, hφ⟩ := hx
            obtain ⟨v', w', e'', q1, q2, q3, q4⟩ := run B e' hown r.base
            have hb : Below B w w' := grown_below q3 (fun k hk => (ownsRow_lt hown hk).1) r.base
            have oth : ∀ k2 g, k2 ≠ k' → φ k2 = some g → w'.heap[g]? = w.heap[g]? := fun k2 g hne hg => by
              refine q3.block g (r.lo k2 g hg).2 fun e => ?_
              exact hne (r.inj _ _ _ hg (hφ g e.symm))
            refine ⟨v', w', fun i => if i = k' then v'.ownBlock else φ i, q1, ?_, fun j => ?_, r.bel.trans hb, Nat.le_trans r.base q3.size, fun k2 x2 hx2 => ?_, fun k1 k2 g e1 e2 => ?_, fun k2 g hg => ?_, r.fr.step ⟨fun g hg hn => q3.block g hg (fun e => hn k' (hφ g e.symm)), fun k2 g e => ?_, q3.size⟩, fun k2 g x2 hk2 h0 hx2 => ?_⟩
            · rw [put_dfr]; exact r.dfr
            · rw [put_get a k v' hk]
              by_cases hj : j = k
              · subst hj
                simp only [upd_same, if_true]
                exact ⟨hm, ⟨hgood, e'', q2⟩, fun g hg => by simpa using hg⟩
              · simp only [upd_ne _ _ hj, hj, if_false]
                unfold V.kill
                cases hh : (s.t j).has k' with
                | true => trivial
                | false =>
                  simp only [Bool.false_eq_true, if_false]
                  refine (r.tm j).keep ⟨fun k2 hk2 => ?_, fun g hg hg' => hb.block g hg, fun k2 g hk2 _ hg _ => ?_⟩
                  · have : k2 ≠ k' := fun e => by rw [e, hh] at hk2; cases hk2
                    exact ⟨if_neg this, .inl rfl⟩
                  · have : k2 ≠ k' := fun e => by rw [e, hh] at hk2; cases hk2
                    exact oth k2 g this hg
            · have hne : k2 ≠ k' := fun e => by subst e; simp only at hx2; rw [hm] at hx2; cases hx2
              obtain ⟨p1, g, T, p2, p3⟩ := r.box k2 x2 hx2
              exact ⟨p1, g, T, by simpa [hne] using p2, (oth k2 g hne p2).trans p3⟩
            · by_cases c1 : k1 = k' <;> by_cases c2 : k2 = k'
              · rw [c1, c2]
              · subst c1
                simp [c2] at e1 e2
                rcases q4 g e1 with h4 | h4
                · exact r.inj _ _ _ (hφ g h4) e2
                · have := (r.lo k2 g e2).2; omega
              · subst c2
                simp [c1] at e1 e2
                rcases q4 g e2 with h4 | h4
                · exact r.inj _ _ _ e1 (hφ g h4)
                · have := (r.lo k1 g e1).2; omega
              · simp [c1] at e1; simp [c2] at e2
                exact r.inj _ _ _ e1 e2
            · by_cases c : k2 = k'
              · subst c
                simp at hg
                exact ownsRow_lt q2 hg
              · simp [c] at hg
                exact ⟨(r.lo k2 g hg).1, Nat.lt_of_lt_of_le (r.lo k2 g hg).2 q3.size⟩
            · by_cases c : k2 = k'
              · subst c
                simp at e
                rcases q4 g e with h4 | h4
                · exact .inl ⟨k2, hφ g h4⟩
                · exact .inr h4
              · simp [c] at e
                exact .inl ⟨k2, e⟩
            · have hne : k2 ≠ k' := fun e => by subst e; simp only at hx2; rw [hm] at hx2; cases hx2
              rw [put_size] at hk2
              rw [if_neg hne]
              exact r.pin k2 g x2 hk2 h0 hx2
        · rw [if_neg hc2] at hF; cases hF
      · rw [if_neg hc] at h; cases h
    · cases h
  · cases h

theorem ints_of {es : List D} (h : Good (.cell (.int .i64)) es) : ∃ zs : List Int, es = zs.map fun z => .s (.int .i64 z) := by
  induction es with
  | nil => exact ⟨[], rfl⟩
  | cons e es ih =>
    obtain ⟨zs, rfl⟩ := ih fun x hx => h x (by simp [hx])
    obtain ⟨_, he⟩ := h e (by simp)
    cases e with
    | s v =>
      have hk : ck v = .int .i64 := by simpa [D.shape] using he
      cases v with
      | int k z => simp only [ck, CK.int.injEq] at hk; subst hk; exact ⟨z :: zs, rfl⟩
      | _ => simp [ck] at hk
    | arr n sh f => cases he
    | nil => cases he
    | cons a b => cases he
theorem flats_ints (zs : List Int) : flats (zs.map fun z => D.s (.int .i64 z)) = zs.map (Value.int .i64) := by
  induction zs with
  | nil => rfl
  | cons z zs ih => simp only [flats, List.map_cons, List.flatMap_cons, D.flat] at ih ⊢; rw [ih]; rfl
theorem good_ints (zs : List Int) : Good (.cell (.int .i64)) (zs.map fun z => .s (.int .i64 z)) := fun x hx => by
  obtain ⟨z, _, rfl⟩ := List.mem_map.1 hx; exact ⟨rfl, rfl⟩

/-- A reversal in place. -/
theorem evRev_sound (r : Rel B w0 φ0 s a w φ) {g d : Nat} (hd : d < a.tmps.size) (hg : RevOK P g) {x : V} {u : Value} (hx : RT B s.m φ w x u) (h : evRev s d x = some s') :
    Calls P g #[u] w fun e w' => e = .returned (.tuple #[]) ∧ Rel B w0 φ0 s' (a.put (some d) (.tuple #[])) w' φ := by
  unfold evRev at h
  split at h
  · rename_i k sh es
    by_cases hsh : sh = .cell (.int .i64)
    · rw [if_pos hsh] at h
      cases h
      subst hsh
      obtain ⟨hm, ⟨hgood, e0, hown⟩, hφ⟩ := hx
      obtain ⟨zs, rfl⟩ := ints_of hgood
      rw [flats_ints] at hown
      have hsize : (Sh.cell (.int .i64)).size = 1 := rfl
      have hlen : (zs.map fun z => D.s (.int .i64 z)).length = zs.length := by simp
      have hrev : (zs.map fun z => D.s (.int .i64 z)).reverse = zs.reverse.map fun z => D.s (.int .i64 z) := by rw [List.map_reverse]
      rw [hlen, hsize] at hown
      -- what the state is behind it, once the world is known
      have fin : ∀ w' : World, Below B w w' → B ≤ w'.heap.size → w.heap.size ≤ w'.heap.size → (∀ g', φ k ≠ some g' → w'.heap[g']? = w.heap[g']?) →
          (∀ u', RO w B (.cell (.int .i64)) (zs.map fun z => D.s (.int .i64 z)) u' → (∀ g', u'.ownBlock = some g' → φ k = some g') → RO w' B (.cell (.int .i64)) (zs.reverse.map fun z => D.s (.int .i64 z)) u') →
          Rel B w0 φ0 { t := upd (fun i => rvV k (zs.map fun z => D.s (.int .i64 z)).length (zs.map fun z => D.s (.int .i64 z)).reverse (s.t i)) d .tnil, m := s.m } (a.put (some d) (.tuple #[])) w' φ := by
        intro w' hb hB hsz oth row
        have keep : ∀ j, (s.t j).has k = false → RT B s.m φ w' (s.t j) (a.tmps.getD j undef) := fun j hh =>
          (r.tm j).keep ⟨fun k2 _ => ⟨rfl, .inl rfl⟩, fun g' hg' _ => hb.block g' hg', fun k2 g' hk2 _ hg' _ => oth g' fun e => by
            have : k2 = k := r.inj _ _ _ hg' e
            rw [this, hh] at hk2; cases hk2⟩
        refine ⟨by rw [put_dfr]; exact r.dfr, fun j => ?_, r.bel.trans hb, hB, fun k2 x2 hx2 => ?_, r.inj, fun k2 g' hg' => ⟨(r.lo k2 g' hg').1, Nat.lt_of_lt_of_le (r.lo k2 g' hg').2 hsz⟩, r.fr.step ⟨fun g' _ hn => oth g' (hn k), fun k2 g' e => .inl ⟨k2, e⟩, hsz⟩, by rw [put_size]; exact r.pin⟩
        · rw [put_get a d _ hd]
          by_cases hj : j = d
          · subst hj; simp only [upd_same, if_true]; rfl
          · simp only [upd_ne _ _ hj, hj, if_false]
            have kl : RT B s.m φ w' ((s.t j).kill k) (a.tmps.getD j undef) := by
              unfold V.kill
              cases hh : (s.t j).has k with
              | true => trivial
              | false => exact keep j hh
            cases hv : s.t j with
            | sl o sh l =>
              cases o with
              | tg k' =>
                by_cases hk : k' = k
                · subst hk
                  simp only [rvV, if_true]
                  split
                  · rename_i hc
                    obtain ⟨rfl, hl⟩ := hc
                    have hj2 := r.tm j
                    rw [hv] at hj2
                    obtain ⟨_, hro, hφ'⟩ := hj2
                    obtain ⟨hg2, e2, hown2⟩ := hro
                    obtain ⟨ys, rfl⟩ := ints_of hg2
                    rw [hrev]
                    refine ⟨hm, ?_, hφ'⟩
                    have hyl : ys.length = zs.length := by simpa using hl
                    have same : ys = zs := by
                      rw [flats_ints] at hown2
                      rcases hown.2 with ⟨_, h0⟩ | ⟨g1, c1, cur1, q1, _, q3, _, _, _, q7⟩
                      · have : zs = [] := List.eq_nil_of_length_eq_zero h0
                        subst this; exact List.eq_nil_of_length_eq_zero hyl
                      · rcases hown2.2 with ⟨_, h0⟩ | ⟨g2, c2, cur2, p1, _, p3, _, _, _, p7⟩
                        · have h0 : ys.length = 0 := by simpa using h0
                          have : ys = [] := List.eq_nil_of_length_eq_zero h0
                          subst this; exact (List.eq_nil_of_length_eq_zero hyl.symm).symm
                        · have a1 := hφ g1 (by rw [q1]; rfl)
                          have a2 := hφ' g2 (by rw [p1]; rfl)
                          rw [a1] at a2; cases a2
                          rw [q3] at p3; cases p3
                          simp only [List.length_map, hsize, hyl] at p7
                          rw [p7] at q7
                          exact (List.map_inj_right (fun a b hab => by cases hab; rfl)).1 q7
                    subst same
                    exact row _ ⟨hg2, e2, hown2⟩ hφ'
                  · trivial
                · simp only [rvV, hk, if_false]
                  have := keep j (by rw [hv]; simp [V.has, hk])
                  rw [hv] at this; exact this
              | nil => rw [hv] at kl; exact kl
              | ro => rw [hv] at kl; exact kl
            | _ => rw [hv] at kl; exact kl
        · obtain ⟨p1, g', T, p2, p3⟩ := r.box k2 x2 hx2
          have hne : k2 ≠ k := fun e => by subst e; rw [hm] at hx2; cases hx2
          exact ⟨p1, g', T, p2, (oth g' fun e => hne (r.inj _ _ _ p2 e)).trans p3⟩
      rcases hown.2 with ⟨rfl, h0⟩ | ⟨blk, cap, cur, rfl, hbB, hheap, hle, hcap, hcs, htake⟩
      · refine (hg.run0 none 0 w).mono fun e w' hq => ?_
        obtain ⟨rfl, rfl⟩ := hq
        have hz : zs = [] := List.eq_nil_of_length_eq_zero h0
        subst hz
        exact ⟨rfl, fin w' (Below.refl _ _) r.base (Nat.le_refl _) (fun _ _ => rfl) fun u' h1 _ => h1⟩
      · rw [Nat.mul_one] at htake hcs
        refine (hg.run blk cap zs w (holds_of_blockI hheap htake) (by simp only [maxLen] at hcap; omega)).mono fun e w' hq => ?_
        obtain ⟨rfl, n, rfl⟩ := hq
        have hφk : φ k = some blk := hφ blk rfl
        have gr : Sort.grow (Sort.putRow (Value.int .i64) (Sort.ahead w n) blk 0 zs.reverse.toArray) #[] = Sort.putRow (Value.int .i64) (Sort.ahead w n) blk 0 zs.reverse.toArray := by simp only [Sort.grow, Array.append_empty]
        have gb := grownBy_sortedI (w := w) (g := blk) (n := n) (os := #[]) zs.reverse.toArray
        rw [gr] at gb
        have gb : GB w _ _ := ⟨gb.os, gb.tape, gb.output, gb.size, gb.block, Dr.le (Nat.le_add_right w.drawn n)⟩
        refine ⟨rfl, fin _ (grown_below gb (fun k hk => by cases hk; exact hbB) r.base) (Nat.le_trans r.base gb.size) gb.size (fun g' hg' => ?_) fun u' h1 h2 => ?_⟩
        · by_cases hlt : g' < w.heap.size
          · exact gb.block g' hlt fun e => hg' (by cases e; exact hφk)
          · have e1 : (Sort.putRow (Value.int .i64) (Sort.ahead w n) blk 0 zs.reverse.toArray).heap.size = w.heap.size := by simp
            rw [Array.getElem?_eq_none (by omega), Array.getElem?_eq_none (by omega)]
        · obtain ⟨hg2, e2, hown2⟩ := h1
          refine ⟨good_ints _, e2, ?_⟩
          rw [flats_ints] at hown2 ⊢
          rw [List.length_map, hsize] at hown2 ⊢
          rcases hown2.2 with ⟨rfl, h0⟩ | ⟨g2, c2, cur2, rfl, p2, p3, p4, p5, p6, p7⟩
          · have hz : zs = [] := List.eq_nil_of_length_eq_zero h0
            subst hz; exact hown2.1 ▸ ⟨by simp, .inl ⟨rfl, by simp⟩⟩
          · have := h2 g2 rfl
            rw [hφk] at this; cases this
            have res := ownsRow_sortedI (w := w) (base := B) (g := blk) (cap := c2) (n := n) (os := #[]) (ss := zs) (ts := zs.reverse) (by simp) p2 p3 p4 p5 p6
            rw [gr] at res
            simpa using res
    · rw [if_neg hsh] at h; cases h
  · cases h

theorem arrOf_flat (sh : Sh) (e : D) (es : List D) : (arrOf sh e es).flat = flats es := arr_flats e es
theorem arrOf_ok {sh : Sh} {e : D} {es : List D} (h : Good sh (e :: es)) : (arrOf sh e (e :: es)).WF := fun i => by
  show ((e :: es).getD i e).WF ∧ ((e :: es).getD i e).shape = sh
  cases hi : (e :: es)[i]? with
  | none => rw [List.getD, hi]; exact h e (by simp)
  | some x => rw [List.getD, hi]; exact h x (List.mem_of_getElem? hi)
theorem listOf_flats (n : Nat) (sh : Sh) (f : Nat → D) : flats (listOf n f) = (D.arr n sh f).flat := by simp [flats, listOf, D.flat, List.flatMap_map]
theorem listOf_good {n : Nat} {sh : Sh} {f : Nat → D} (h : (D.arr n sh f).WF) : Good sh (listOf n f) := fun x hx => by
  obtain ⟨i, _, rfl⟩ := List.mem_map.1 hx
  exact h i
theorem listOf_length (n : Nat) (f : Nat → D) : (listOf n f).length = n := by simp [listOf]

/-- A call that writes through its first argument. -/
theorem evMut_sound {call : Nat → List V → Option V} (hcall : ∀ g l r, call g l = some r → ∀ w, Below B w0 w → CallX P w g l r) (r : Rel B w0 φ0 s a w φ) {g d : Nat} (hd : d < a.tmps.size) (hmu : muF g = true)
    {x : V} {l : List V} {u : Value} {vs : List Value} (hx : RT B s.m φ w x u) (hl : RA w l vs) (h : evMut s (call g) l d x = some (some s')) :
    (∃ fn, P.funcs[g]? = some fn ∧ fn.body.isNone = false ∧ (fn.name == "runtime.NumGoroutine") = false) ∧
    Calls P g (u :: vs).toArray w fun e w' => e = .returned (.tuple #[]) ∧ Rel B w0 φ0 s' (a.put (some d) (.tuple #[])) w' φ := by
  have hsz : (a.put (some d) (.tuple #[])).tmps.size = a.tmps.size := put_size _ _ _
  unfold evMut at h
  split at h
  · rename_i k n uS
    by_cases hp : plainL l = true
    · rw [if_pos hp] at h
      obtain ⟨b, hb, h⟩ := ob_eq_some h
      split at h
      · rename_i n' u' f
        obtain ⟨rv, hc, h⟩ := ob_eq_some h
        split at h
        · rename_i m v gg
          by_cases hcd : n' = n ∧ u' = uS ∧ m = n ∧ v = uS
          · rw [if_pos hcd] at h
            cases h
            obtain ⟨rfl, rfl, rfl, rfl⟩ := hcd
            obtain ⟨y, gb, cap, h1, h2, h3, rfl⟩ := hx
            rw [hb] at h1; cases h1
            obtain ⟨hw, g', T, q1, q2⟩ := r.box k _ hb
            rw [h3] at q1; cases q1
            have hmq : mutq g (.d (.arr m v f) :: l) = true := by unfold mutq; rw [hmu]; rfl
            obtain ⟨hfn, hrun⟩ := (hcall g _ _ hc w r.bel).2 hmq m v f l _ rfl rfl
            refine ⟨hfn, (hrun gb cap T _ vs hl hp hw rfl q2).mono fun e w' hq => ?_⟩
            obtain ⟨he, hw', ⟨T', hh'⟩, G⟩ := hq
            refine ⟨he, ?_⟩
            have hlo := r.lo k gb h3
            have oth : ∀ i, i < w.heap.size → i ≠ gb → w'.heap[i]? = w.heap[i]? := fun i hi hne => G.block i hi (fun e => hne (by cases e; rfl))
            have hlen : (D.arr m v gg).flat.length = (D.arr m v f).flat.length := by rw [D.flat_length _ hw', D.flat_length _ hw]; rfl
            refine ⟨by rw [put_dfr]; exact r.dfr, fun i => ?_, r.bel.trans ⟨G.os, G.tape, G.output, G.size, fun i hi => oth i (Nat.lt_of_lt_of_le hi r.base) (by omega), G.drawn⟩, Nat.le_trans r.base G.size, fun k' x' hx' => ?_, r.inj, fun k' g' hg' => ⟨(r.lo k' g' hg').1, Nat.lt_of_lt_of_le (r.lo k' g' hg').2 G.size⟩, r.fr.step ⟨fun g' hg' hn => oth g' hg' (fun e => hn k (e ▸ h3)), fun k' g' e => .inl ⟨k', e⟩, G.size⟩, fun k' g' x' hk' h0 hx' => ?_⟩
            · rw [put_get a d _ hd]
              by_cases hi : i = d
              · subst hi; simp only [upd_same, if_true]; rfl
              · simp only [upd_ne _ _ hi, hi, if_false]
                refine (r.tm i).keep ⟨fun k' _ => ⟨rfl, ?_⟩, fun g' hg' hlt => oth g' hlt (by omega), fun k' g' _ hrow hφ hlt => oth g' hlt (fun e => ?_)⟩
                · by_cases hk : k' = k
                  · subst hk; exact .inr ⟨_, _, hb, upd_same _ _ _, rfl⟩
                  · exact .inl (upd_ne _ _ hk)
                · subst e
                  obtain rfl := r.inj _ _ _ hφ h3
                  rw [hb] at hrow; cases hrow
            · by_cases hk : k' = k
              · subst hk
                simp only [upd_same] at hx'
                cases hx'
                exact ⟨hw', gb, T', h3, by rw [hlen]; exact hh'⟩
              · simp only [upd_ne _ _ hk] at hx'
                obtain ⟨q1, g', T2, q3, q4⟩ := r.box k' x' hx'
                exact ⟨q1, g', T2, q3, (oth g' (lt_of_heap q4) (fun e => by subst e; exact hk (r.inj _ _ _ q3 h3))).trans q4⟩
            · rw [hsz] at hk'
              by_cases hk : k' = k
              · subst hk; exact r.pin k' g' _ hk' h0 hb
              · simp only [upd_ne _ _ hk] at hx'
                exact r.pin k' g' x' hk' h0 hx'
          · rw [if_neg hcd] at h; cases h
        · cases h
      · cases h
    · rw [if_neg hp] at h; cases h
  · rename_i k sh e es
    by_cases hp : plainL l = true
    · rw [if_pos hp] at h
      obtain ⟨rv, hc, h⟩ := ob_eq_some h
      split at h
      · rename_i m v gg
        by_cases hcd : m = es.length + 1 ∧ v = sh
        · rw [if_pos hcd] at h
          cases h
          obtain ⟨rfl, rfl⟩ := hcd
          obtain ⟨hm, ⟨hg, e', hown⟩, hφ⟩ := hx
          rcases hown.2 with ⟨_, h0⟩ | ⟨gb, cap, cur, rfl, hbB, hheap, hle, hcap, hcs, htake⟩
          · simp at h0
          have hφk : φ k = some gb := hφ gb rfl
          have hmq : mutq g (.d (arrOf v e (e :: es)) :: l) = true := by unfold mutq; rw [hmu]; rfl
          obtain ⟨hfn, hrun⟩ := (hcall g _ _ hc w r.bel).2 hmq _ v _ l _ rfl rfl
          have hcur : w.heap[gb]? = some (.cells ((arrOf v e (e :: es)).flat ++ cur.toList.drop ((e :: es).length * v.size)).toArray e' (0, 0)) := by
            rw [arrOf_flat, ← htake, List.take_append_drop]; simpa using hheap
          refine ⟨hfn, (hrun gb cap e' _ vs hl hp (arrOf_ok hg) rfl hcur).mono fun en w' hq => ?_⟩
          obtain ⟨he, hw', ⟨T', hh'⟩, G⟩ := hq
          refine ⟨he, ?_⟩
          have oth : ∀ i, i < w.heap.size → i ≠ gb → w'.heap[i]? = w.heap[i]? := fun i hi hne => G.block i hi (fun e => hne (by cases e; rfl))
          have hfl : ((D.arr (es.length + 1) v gg).flat).length = (es.length + 1) * v.size := by rw [D.flat_length _ hw']; rfl
          have row : ∀ (l2 : List D) (u2 : Value), l2.length = es.length + 1 → RO w B v l2 u2 → (∀ g2, u2.ownBlock = some g2 → φ k = some g2) → RO w' B v (listOf (es.length + 1) gg) u2 := by
            intro l2 u2 hlen hro hφ2
            obtain ⟨hg2, e2, hown2⟩ := hro
            rcases hown2.2 with ⟨_, h0⟩ | ⟨g2, c2, cur2, rfl, p2, p3, p4, p5, p6, p7⟩
            · omega
            have := hφ2 g2 rfl
            rw [hφk] at this; cases this
            rw [hheap] at p3; cases p3
            refine ⟨listOf_good hw', T', by rw [listOf_flats _ v, hfl, listOf_length], .inr ⟨gb, c2, _, by rw [listOf_length, hlen], p2, hh', by rw [listOf_length]; omega, p5, ?_, ?_⟩⟩
            · rw [← p6]
              simp only [List.size_toArray, List.length_append, List.length_drop, Array.length_toList, hfl, List.length_cons]
              have : (es.length + 1) * v.size ≤ cur.size := by rw [p6]; exact Nat.mul_le_mul_right _ (by omega)
              omega
            · rw [listOf_length, listOf_flats _ v, ← hfl]
              exact List.take_left
          have keep : ∀ j, (s.t j).has k = false → RT B s.m φ w' (s.t j) (a.tmps.getD j undef) := fun j hn =>
            (r.tm j).keep ⟨fun k2 _ => ⟨rfl, .inl rfl⟩, fun g' hg' hlt => oth g' hlt (by omega), fun k2 g' hk2 _ hg' hlt => oth g' hlt fun e => by
              subst e
              rw [r.inj _ _ _ hg' hφk, hn] at hk2
              cases hk2⟩
          refine ⟨by rw [put_dfr]; exact r.dfr, fun i => ?_, r.bel.trans ⟨G.os, G.tape, G.output, G.size, fun i hi => oth i (Nat.lt_of_lt_of_le hi r.base) (by omega), G.drawn⟩, Nat.le_trans r.base G.size, fun k' x' hx' => ?_, r.inj, fun k' g' hg' => ⟨(r.lo k' g' hg').1, Nat.lt_of_lt_of_le (r.lo k' g' hg').2 G.size⟩, r.fr.step ⟨fun g' hg' hn => oth g' hg' (fun e => hn k (e ▸ hφk)), fun k' g' e => .inl ⟨k', e⟩, G.size⟩, by rw [hsz]; exact r.pin⟩
          · rw [put_get a d _ hd]
            by_cases hi : i = d
            · subst hi; simp only [upd_same, if_true]; rfl
            · simp only [upd_ne _ _ hi, hi, if_false]
              have kl : RT B s.m φ w' ((s.t i).kill k) (a.tmps.getD i undef) := by
                unfold V.kill
                cases hh : (s.t i).has k with
                | true => trivial
                | false => exact keep i hh
              cases hv : s.t i with
              | sl o sh2 l2 =>
                cases o with
                | tg k' =>
                  by_cases hk : k' = k
                  · subst hk
                    simp only [muV, if_true]
                    split
                    · rename_i hc2
                      obtain ⟨rfl, hl2⟩ := hc2
                      have hj2 := r.tm i
                      rw [hv] at hj2
                      exact ⟨hm, row l2 _ hl2 hj2.2.1 hj2.2.2, hj2.2.2⟩
                    · trivial
                  · simp only [muV, hk, if_false]
                    have := keep i (by rw [hv]; simp [V.has, hk])
                    rw [hv] at this; exact this
                | nil => rw [hv] at kl; exact kl
                | ro => rw [hv] at kl; exact kl
              | _ => rw [hv] at kl; exact kl
          · obtain ⟨q1, g', T2, q3, q4⟩ := r.box k' x' hx'
            have hne : k' ≠ k := fun e => by subst e; rw [hm] at hx'; cases hx'
            exact ⟨q1, g', T2, q3, (oth g' (lt_of_heap q4) (fun e => by subst e; exact hne (r.inj _ _ _ q3 hφk))).trans q4⟩
        · rw [if_neg hcd] at h; cases h
      · cases h
    · rw [if_neg hp] at h; cases h
  · cases h

/-- One operation. -/
theorem evO_sound (hE : EnvOK P E) {call : Nat → List V → Option V} (hcall : ∀ g l r, call g l = some r → ∀ w, Below B w0 w → CallX P w g l r) (r : Rel B w0 φ0 s a w φ) (hd : ∀ d, o.dst = some d → d < a.tmps.size)
    (h : evO E call o.dst o.type s o.op = some s') {K : Act → World → Prop} {Q : Exit → Act → World → Prop}
    (hK : ∀ a' w' φ', Rel B w0 φ0 s' a' w' φ' → a'.tmps.size = a.tmps.size → K a' w') : o.wp P a w K Q := by
  obtain ⟨dst, op, ty, pos, after, guard⟩ := o
  simp only at h hd
  unfold evO at h
  split at h
  · rename_i t x y
    split at h
    · obtain ⟨xv, h1, h⟩ := ob_eq_some h
      obtain ⟨yv, h2, h⟩ := ob_eq_some h
      obtain ⟨w', hrun, hrel⟩ := evStore_sound hE r (opd_sound r h1) (opd_sound r h2) h
      unfold Oper.wp
      have : (execOp a.eval ⟨none, .store t x y, ty, pos, after, guard⟩).run P w = .ok .skip w' := by simp [execOp, hrun]
      rw [this, Oper.upon_skip]
      exact hK _ _ _ hrel rfl
    · cases h
  · rename_i xs ts
    split at h
    · rename_i x y t t' k hxs hts
      obtain ⟨xv, h1, h⟩ := ob_eq_some h
      obtain ⟨yv, h2, h⟩ := ob_eq_some h
      obtain ⟨u, w', φ', hrun, hrel⟩ := evAppend_sound (ty := ty) hE r (hd k rfl) (opd_sound r h1) (opd_sound r h2) h
      unfold Oper.wp
      obtain ⟨xs⟩ := xs
      obtain ⟨ts⟩ := ts
      simp only at hxs hts
      subst hxs
      subst hts
      have : (execOp a.eval ⟨some k, .call ⟨.builtin .append, #[x, y], #[t, t']⟩, ty, pos, after, guard⟩).run P w = .ok (.value u) w' := by
        simp [execOp, resolve, invoke, builtin, hrun]
      rw [this, Oper.upon_value]
      exact hK _ _ _ hrel (put_size _ _ _)
    · cases h
  · rename_i g xs ts
    split at h
    · rename_i hmu
      unfold mutS at h
      split at h
      · rename_i x xl d hxs
        obtain ⟨xv, h1, h⟩ := ob_eq_some h
        obtain ⟨l, h2, h⟩ := ob_eq_some h
        obtain ⟨o, h3, h⟩ := ob_eq_some h
        obtain ⟨xs⟩ := xs
        simp only at hxs
        subst hxs
        cases o with
        | some s1 =>
          cases h
          have hm := evMut_sound hcall r (hd d rfl) hmu (opd_sound r h1) (args_sound r xl l h2) h3
          obtain ⟨⟨fn, hfn, hbody, hname⟩, hrun⟩ := hm
          unfold Oper.wp
          have hf : a.eval (.func g) = .func (.func g) #[] #[] := rfl
          have hex : (execOp a.eval ⟨some d, .call ⟨.value (.func g), (x :: xl).toArray, ts⟩, ty, pos, after, guard⟩).run P w = .ok (.enter g ((x :: xl).toArray.map a.eval)) w := by
            simp only [execOp, resolve, hf, Deferred.ofValue, invoke, callFunc, Sem.run_bind, Sem.run_pure, Result.andThen_ok, run_program, hfn, hname, hbody, Bool.false_eq_true, if_false, Array.empty_append, Array.append_empty]
          have e1 : (x :: xl).toArray.map a.eval = (a.eval x :: xl.map a.eval).toArray := by simp
          rw [hex, Oper.upon_enter, e1]
          refine hrun.mono fun en w' hq => ?_
          obtain ⟨rfl, hrel⟩ := hq
          exact hK _ _ _ hrel (put_size _ _ _)
        | none =>
          simp only [mutN] at h
          obtain ⟨⟨v, b⟩, h4, h⟩ := ob_eq_some h
          cases h
          refine evP_sound (o := ⟨some d, .call ⟨.value (.func g), (x :: xl).toArray, ts⟩, ty, pos, after, guard⟩) hE hcall r h4 K Q fun u w' hs => ?_
          obtain ⟨φ', hs⟩ := hs
          obtain ⟨φ'', hrel⟩ := r.app (some d) hs hd
          exact hK _ _ _ hrel (put_size _ _ _)
      · cases h
    unfold plainS at h
    split at h
    · rename_i hrv
      split at h
      · rename_i x d hxs
        obtain ⟨xv, h1, h⟩ := ob_eq_some h
        have hrv : rvF = some g := by simpa using hrv
        obtain ⟨xs⟩ := xs
        simp only at hxs
        subst hxs
        have hR := hE.rv g hrv
        obtain ⟨fn, hfn, hbody, hname⟩ := hR.fn
        unfold Oper.wp
        have hf : a.eval (.func g) = .func (.func g) #[] #[] := rfl
        have hex : (execOp a.eval ⟨some d, .call ⟨.value (.func g), #[x], ts⟩, ty, pos, after, guard⟩).run P w = .ok (.enter g (#[x].map a.eval)) w := by
          simp only [execOp, resolve, hf, Deferred.ofValue, invoke, callFunc, Sem.run_bind, Sem.run_pure, Result.andThen_ok, run_program, hfn, hname, hbody, Bool.false_eq_true, if_false, Array.empty_append, Array.append_empty]
        have e1 : #[x].map a.eval = #[a.eval x] := by simp
        rw [hex, Oper.upon_enter, e1]
        refine (evRev_sound r (hd d rfl) hR (opd_sound r h1) h).mono fun en w' hq => ?_
        obtain ⟨rfl, hrel⟩ := hq
        exact hK _ _ _ hrel (put_size _ _ _)
      · cases h
    · obtain ⟨⟨v, b⟩, h1, h⟩ := ob_eq_some h
      cases h
      refine evP_sound (o := ⟨dst, .call ⟨.value (.func g), xs, ts⟩, ty, pos, after, guard⟩) hE hcall r h1 K Q fun u w' hs => ?_
      obtain ⟨φ', hs⟩ := hs
      obtain ⟨φ'', hrel⟩ := r.app dst hs hd
      exact hK _ _ _ hrel (put_size _ _ _)
  · obtain ⟨⟨v, b⟩, h1, h⟩ := ob_eq_some h
    cases h
    refine evP_sound (o := ⟨dst, op, ty, pos, after, guard⟩) hE hcall r h1 K Q fun u w' hs => ?_
    obtain ⟨φ', hs⟩ := hs
    obtain ⟨φ'', hrel⟩ := r.app dst hs hd
    exact hK _ _ _ hrel (put_size _ _ _)

theorem skip_rel (r : Rel B w0 φ0 s a w φ) (d : Option Nat) (hd : ∀ k, d = some k → k < a.tmps.size) : ∃ φ', Rel B w0 φ0 (s.app d .undef none) (a.put d undef) w φ' := by
  have : StepOK B s.m φ w (d.getD 0) .undef none undef w φ := stay rfl
  exact r.app d this hd

def boolOf : Value → Option Bool
  | .bool c => some c
  | _ => none

theorem gdB_sound {wt : Bool} {v : V} {u : Value} {b : Bool} (hv : RT B m φ w v u) (h : gdB wt v = some b) : (boolOf u == some wt) = b := by
  unfold gdB at h
  split at h
  · obtain ⟨_, rfl⟩ := hv; cases h; simp [D.val, boolOf]
  · cases h; rw [show u = undef from hv]; rfl
  · cases h

theorem evG_sound (hE : EnvOK P E) {call : Nat → List V → Option V} (hcall : ∀ g l r, call g l = some r → ∀ w, Below B w0 w → CallX P w g l r) (r : Rel B w0 φ0 s a w φ) (hd : ∀ d, o.dst = some d → d < a.tmps.size)
    {ops : Array Oper} (hops : ∀ (j d : Nat), (ops.toList[j]?).bind (·.dst) = some d → d < a.tmps.size)
    (h : evG E call ops.toList o s = some s') {K : Act → World → Prop} {Q : Exit → Act → World → Prop}
    (hK : ∀ a' w' φ', Rel B w0 φ0 s' a' w' φ' → a'.tmps.size = a.tmps.size → K a' w') :
    if Region.wanted o (yielded ops a.tmps) then o.wp P a w K Q else K (a.put o.dst undef) w := by
  unfold evG at h
  split at h
  · rename_i hg
    have : Region.wanted o (yielded ops a.tmps) = true := by unfold Region.wanted; rw [hg]
    rw [if_pos this]
    exact evO_sound hE hcall r hd h hK
  · rename_i j wt hg
    have hw : Region.wanted o (yielded ops a.tmps) = (yielded ops a.tmps j == some wt) := by unfold Region.wanted; rw [hg]
    split at h
    · rename_i hn
      have hy : yielded ops a.tmps j = none := by
        unfold yielded
        have : (ops[j]?).bind (·.dst) = none := by simpa using hn
        rw [this]; rfl
      rw [if_neg (by rw [hw, hy]; simp)]
      cases h
      obtain ⟨φ', hrel⟩ := skip_rel r o.dst hd
      exact hK _ _ _ hrel (put_size _ _ _)
    · rename_i d hn
      obtain ⟨b, h1, h⟩ := ob_eq_some h
      have hlt := hops j d hn
      have hy : yielded ops a.tmps j = boolOf (a.tmps.getD d undef) := by
        unfold yielded
        have : (ops[j]?).bind (·.dst) = some d := by simpa using hn
        rw [this]
        have e : a.tmps[d]? = some (a.tmps.getD d undef) := by simp [hlt]
        simp only [Option.bind_some, e]
        cases a.tmps.getD d undef <;> rfl
      have hb := gdB_sound (r.tm d) h1
      rw [hw, hy, hb]
      cases b with
      | true => simp only [if_true]; exact evO_sound hE hcall r hd h hK
      | false =>
        simp only [Bool.false_eq_true, if_false]
        simp only [evGd] at h
        cases h
        obtain ⟨φ', hrel⟩ := skip_rel r o.dst hd
        exact hK _ _ _ hrel (put_size _ _ _)
end
end Go.Proofs.YtjceimcepogkaaaGreatDoor.Ev
