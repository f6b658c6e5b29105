/- Plain laws of a tree seen from a neighbour. -/
import Derived.Test.YthpccjgpbcginaaAn
import Derived.Test.YthpccjgpbcginaaAU
namespace Go.Proofs.Ythpccjgpbcginaa.Ev
open Go
attribute [local congr] ob_congr sq_congr cd_congr ite_congr1 iter_congr it1_congr jumps_congr
set_option maxRecDepth 100000
set_option linter.unusedSimpArgs false
set_option linter.unusedVariables false

/-- A tree whose distances add up. -/
theorem sound_mk {d p : Nat → Int} {root : Int} (hr : right root = true) (inu : ∀ i, inU (d i)) (d0 : d root.toNat = 0) (p0 : p root.toNat = -1)
    (rows : ∀ j : Nat, j < 16 → (j : Int) ≠ root → (d j = 4294967295 ∧ p j = -1) ∨ (1 ≤ d j ∧ d j ≠ 4294967295 ∧ right (p j) = true ∧ d (p j).toNat < d j ∧ d (p j).toNat ≠ 4294967295 ∧ d j - d (p j).toNat ≤ 65536)) : soundF d p root = true := by
  obtain ⟨m, hm, em⟩ := right_eq hr
  have esn : root.toNat = m := by omega
  rw [esn] at d0 p0
  have hroot : rootF d = m := rootF_one hm fun i hi => ⟨fun h0 => by
    refine Classical.byContradiction fun e => ?_
    rcases rows i hi (by omega) with h | h
    · rw [h.1] at h0; omega
    · omega, fun e => by rw [e]; exact d0⟩
  have step : ∀ j, right j = true → j ≠ root → d j.toNat ≠ 4294967295 → right (p j.toNat) = true ∧ d (p j.toNat).toNat ≠ 4294967295 ∧ d (p j.toNat).toNat < d j.toNat := fun j hj hne hd => by
    obtain ⟨i, hi, rfl⟩ := right_eq hj
    rw [Int.toNat_natCast] at hd ⊢
    rcases rows i hi hne with h | h
    · exact absurd h.1 hd
    · exact ⟨h.2.2.1, h.2.2.2.2.1, h.2.2.2.1⟩
  unfold soundF
  rw [hr, hroot, esn, p0, em]
  have hall : ((List.range 16).all fun j => ((j : Int) == (m : Int)) || fitsF d p (m : Int) j) = true := by
    rw [List.all_eq_true]
    intro j hj
    have hj : j < 16 := by simpa using hj
    by_cases e : j = m
    · simp [e]
    · rw [Bool.or_eq_true]
      right
      unfold fitsF
      rcases rows j hj (by omega) with h | ⟨h1, h2, h3, h4, h5, h6⟩
      · rw [if_pos h.1, h.2]; rfl
      · rw [if_neg h2]
        have hjr : right (j : Int) = true := right_of hj
        obtain ⟨w1, w2⟩ := wOk_of (p := p) inu hjr (by simpa using h2) (by simpa using h3) (by simpa using h5) (by simpa using h4)
        obtain ⟨q, hq, hb, hc, hne, _⟩ := back_of_mono hr step hjr (by simpa using h2)
        have hh := hops_of_way hb
        have q1 : 1 ≤ q := by
          cases q with
          | zero => exact absurd (show (j : Int) = root from hc) (by omega)
          | succ q => omega
        rw [← em, w1, w2, hh]
        simp only [Int.toNat_natCast, Bool.true_and, Bool.and_eq_true, decide_eq_true_eq]
        exact ⟨h6, by omega⟩
  rw [hall]; simp
theorem ord_pre {d p : Nat → Int} {root : Int} (k : Nat) : root ∈ ordTo d p root k := by
  induction k with
  | zero => exact List.mem_singleton.2 rfl
  | succ k ih => exact List.mem_append.2 (Or.inl ih)
theorem ord_kids {d p : Nat → Int} {root : Int} : ∀ (k i : Nat) (m : Int), i < k → (ordTo d p root k)[i]? = some m → ∀ x ∈ kids d p root m, x ∈ ordTo d p root k
  | 0, i, m, hi, _, x, _ => by omega
  | k + 1, i, m, hi, h, x, hx => by
    have e : ordTo d p root (k + 1) = ordTo d p root k ++ (((ordTo d p root k)[k]?).map (kids d p root)).getD [] := rfl
    rw [e] at h ⊢
    cases hk : (ordTo d p root k)[k]? with
    | none =>
      rw [hk] at h
      simp only [Option.map_none, Option.getD_none, List.append_nil] at h ⊢
      have hlt : i < k := by
        have h1 := (List.getElem?_eq_some_iff.1 h).1
        have h2 := List.getElem?_eq_none_iff.1 hk
        omega
      exact ord_kids k i m hlt h x hx
    | some n =>
      rw [hk] at h
      simp only [Option.map_some, Option.getD_some] at h ⊢
      have hkl := (List.getElem?_eq_some_iff.1 hk).1
      rw [List.getElem?_append_left (by omega)] at h
      by_cases hik : i = k
      · subst hik
        rw [hk] at h; cases h
        exact List.mem_append.2 (Or.inr hx)
      · exact List.mem_append.2 (Or.inl (ord_kids k i m (by omega) h x hx))
section
variable {d p : Nat → Int} {root : Int}
theorem hops_root (h : SndT d p root) : hopsF d p root root = 0 := by
  have e : backL d p root root = wayTo p root 0 := backL_of (by omega) h.hr (by rw [gd_of h.hr, h.d0]; omega) (fun k hk => by omega) rfl
  rw [hops_of_way e]; rfl
theorem ch_shift (p : Nat → Int) (j : Int) : ∀ i, ch p (p j.toNat) i = ch p j (i + 1)
  | 0 => rfl
  | i + 1 => by
    show p (ch p (p j.toNat) i).toNat = p (ch p j (i + 1)).toNat
    rw [ch_shift p j i]
/-- The way back of the one ahead. -/
theorem back_pred (h : SndT d p root) (hd : ∀ i, inU (d i)) {j : Nat} (hj : j < 16) (hf : d j ≠ 4294967295) (hne : (j : Int) ≠ root) : ∃ (n m : Nat), m < 16 ∧ p j = (m : Int) ∧ d m ≠ 4294967295 ∧ d m < d j ∧ backL d p root j = wayTo p j (n + 1) ∧ backL d p root m = wayTo p m n := by
  obtain ⟨n, hn, hb, hroot, hno, _⟩ := h.back hd hj hf
  obtain ⟨s1, s2, s3⟩ := h.step hd j (right_of hj) hne (by simpa using hf)
  rw [Int.toNat_natCast] at s1 s2 s3
  obtain ⟨m, hm, em⟩ := right_eq s1
  rw [em, Int.toNat_natCast] at s2 s3
  obtain ⟨n', hn', hb', hroot', hno', _⟩ := h.back hd hm s2
  have sh : ∀ i, ch p (m : Int) i = ch p (j : Int) (i + 1) := fun i => by
    have := ch_shift p (j : Int) i
    rw [Int.toNat_natCast, em] at this; exact this
  cases n with
  | zero => exact absurd (show (j : Int) = root from hroot) hne
  | succ n =>
    have : n' = n := by
      rcases Nat.lt_trichotomy n' n with q | q | q
      · exact absurd ((sh n').symm.trans hroot') (hno (n' + 1) (by omega))
      · exact q
      · exact absurd ((sh n).trans hroot) (hno' n q)
    subst this
    exact ⟨n', m, hm, em, s2, s3, hb, hb'⟩
theorem back_mem_pred {j m : Nat} {n : Nat} (em : p j = (m : Int)) (h1 : backL d p root j = wayTo p j (n + 1)) (h2 : backL d p root m = wayTo p m n) {x : Int} (hx : x ∈ backL d p root m) : x ∈ backL d p root j := by
  rw [h2] at hx; rw [h1]
  unfold wayTo at hx ⊢
  rw [List.mem_map] at hx ⊢
  obtain ⟨i, hi, rfl⟩ := hx
  refine ⟨i + 1, by simp at hi ⊢; omega, ?_⟩
  have := ch_shift p (j : Int) i
  rw [Int.toNat_natCast, em] at this; exact this.symm
theorem order_is (h : SndT d p root) : orderF d p root = ordTo d p root 16 := if_pos (hops_root h)
theorem order_all (h : SndT d p root) (hd : ∀ i, inU (d i)) : ∀ (n j : Nat), j < 16 → d j ≠ 4294967295 → backL d p root j = wayTo p j n → (j : Int) ∈ orderF d p root := by
  intro n
  induction n with
  | zero =>
    intro j hj hf hb
    obtain ⟨n', _, hb', hroot, _⟩ := h.back hd hj hf
    rw [hb] at hb'
    have := congrArg List.length hb'
    rw [wayTo_len, wayTo_len] at this
    have : n' = 0 := by omega
    subst this
    have : (j : Int) = root := hroot
    rw [this, order_is h]; exact ord_pre 16
  | succ n ih =>
    intro j hj hf hb
    by_cases hne : (j : Int) = root
    · rw [hne, order_is h]; exact ord_pre 16
    · obtain ⟨n', m, hm, em, s2, s3, hb1, hb2⟩ := back_pred h hd hj hf hne
      rw [hb] at hb1
      have := congrArg List.length hb1
      rw [wayTo_len, wayTo_len] at this
      have : n' = n := by omega
      subst this
      have hin := ih m hm s2 hb2
      rw [order_is h] at hin ⊢
      obtain ⟨i, hi, e⟩ := List.getElem_of_mem hin
      have hl := ordTo_len_le d p root (hops_root h) 16
      refine ord_kids 16 i m (by omega) (by rw [List.getElem?_eq_getElem hi, e]) _ ?_
      unfold kids
      rw [List.mem_filter, mem_listTo]
      refine ⟨⟨j, hj, rfl, ?_⟩, ?_⟩
      · rw [show childF d p m = setOf (childC d p m) 16 from rfl, has_setOf _ hj]
        have hjm : j ≠ m := fun e => by subst e; omega
        simp only [childC, right_of hm, Bool.true_and, Bool.and_eq_true, bne_iff_ne, beq_iff_eq, ne_eq]
        exact ⟨by omega, em, hf⟩
      · rw [hops_of_way hb]; simp only [decide_eq_true_eq]; omega
theorem order_mem (h : SndT d p root) (hd : ∀ i, inU (d i)) {j : Nat} (hj : j < 16) : (j : Int) ∈ orderF d p root ↔ d j ≠ 4294967295 := by
  constructor
  · intro hin
    rw [order_is h] at hin
    rcases (ord_ok h.hr (hops_root h) 16).up _ hin with e | ⟨_, h2, _⟩
    · have hz := h.d0
      rw [← e, Int.toNat_natCast] at hz
      rw [hz]; omega
    · simpa using h2
  · intro hf
    obtain ⟨n, _, hb, _⟩ := h.back hd hj hf
    exact order_all h hd n j hj hf hb
theorem order_nodup (h : SndT d p root) : (orderF d p root).Nodup := by rw [order_is h]; exact (ord_ok h.hr (hops_root h) 16).nd
theorem len_same {l m : List Int} (hl : l.Nodup) (hm : m.Nodup) (h : ∀ x, x ∈ l ↔ x ∈ m) : l.length = m.length := ((List.perm_ext_iff_of_nodup hl hm).2 h).length_eq
theorem order_count (h : SndT d p root) (hd : ∀ i, inU (d i)) : countF (reached d) = (orderF d p root).length := by
  unfold countF
  congr 1
  refine len_same (listTo_nodup _ _) (order_nodup h) fun x => ?_
  rw [mem_listTo]
  constructor
  · rintro ⟨m, hm, rfl, hh⟩
    rw [show reached d = setOf (fun k => d k != 4294967295) 16 from rfl, has_setOf _ hm] at hh
    exact (order_mem h hd hm).2 (by simpa using hh)
  · intro hx
    obtain ⟨m, hm, rfl⟩ := right_eq (order_rt d p root x hx)
    refine ⟨m, hm, rfl, ?_⟩
    rw [show reached d = setOf (fun k => d k != 4294967295) 16 from rfl, has_setOf _ hm]
    simpa using (order_mem h hd hm).1 hx
theorem edges_count (h : SndT d p root) : (edg p root (orderF d p root)).length + 1 = (orderF d p root).length := by
  unfold edg
  rw [List.length_map]
  have nd := order_nodup h
  have hr : root ∈ orderF d p root := by rw [order_is h]; exact ord_pre 16
  have : (root :: (orderF d p root).filter fun n => n != root).length = (orderF d p root).length := by
    refine len_same (List.nodup_cons.2 ⟨fun q => ?_, nd.filter _⟩) nd fun x => ?_
    · rw [List.mem_filter] at q; simp at q
    · rw [List.mem_cons, List.mem_filter]
      constructor
      · rintro (rfl | q)
        · exact hr
        · exact q.1
      · intro hx
        by_cases e : x = root
        · exact Or.inl e
        · exact Or.inr ⟨hx, by simpa using e⟩
  simpa using this

/-- Who is in the tree that a neighbour sees. -/
def InT (d p : Nat → Int) (root self : Int) (q : Nat) : Prop := d q ≠ 4294967295 ∧ self ∉ backL d p root q
theorem rb_at {self cost : Int} {L : List Int} (hL : ∀ x ∈ L, right x = true) (q : Nat) (hq : q < 16) : ∀ i, i ≤ L.length →
    ((q : Int) ∈ L.take i ∧ has (belowF d p root self) q = false → (rbTo d p root self cost L i).d q = IntKind.u32.wrap (d q + cost) ∧ (rbTo d p root self cost L i).p q = if (q : Int) = root then self else p q) ∧
    (¬ ((q : Int) ∈ L.take i ∧ has (belowF d p root self) q = false) → (rbTo d p root self cost L i).d q = putN farD self 0 q ∧ (rbTo d p root self cost L i).p q = farP q)
  | 0, _ => ⟨fun h => by simp at h, fun _ => ⟨rfl, rfl⟩⟩
  | i + 1, hi => by
    obtain ⟨h1, h2⟩ := rb_at (cost := cost) hL q hq i (by omega)
    have hil : i < L.length := by omega
    obtain ⟨m, hm, em⟩ := right_eq (hL L[i] (List.getElem_mem hil))
    rw [rbTo_succ d p root self cost L hil, em, Int.toNat_natCast]
    have hmem : ((q : Int) ∈ L.take (i + 1)) ↔ ((q : Int) ∈ L.take i ∨ q = m) := by
      rw [List.take_succ_eq_append_getElem hil, List.mem_append, List.mem_singleton, em, Int.ofNat_inj]
    rcases Bool.eq_false_or_eq_true (has (belowF d p root self) m) with hb | hb
    · rw [if_pos hb]
      have e : ((q : Int) ∈ L.take (i + 1) ∧ has (belowF d p root self) q = false) ↔ ((q : Int) ∈ L.take i ∧ has (belowF d p root self) q = false) := by
        rw [hmem]
        constructor
        · rintro ⟨a | a, b⟩
          · exact ⟨a, b⟩
          · subst a; rw [hb] at b; cases b
        · exact fun a => ⟨Or.inl a.1, a.2⟩
      rw [e]; exact ⟨h1, h2⟩
    · rw [hb, if_neg Bool.false_ne_true]
      by_cases e : q = m
      · subst e
        refine ⟨fun _ => ⟨setN_eq _ _ _, setN_eq _ _ _⟩, fun q' => absurd ⟨hmem.2 (Or.inr rfl), hb⟩ q'⟩
      · have e2 : ((q : Int) ∈ L.take (i + 1) ∧ has (belowF d p root self) q = false) ↔ ((q : Int) ∈ L.take i ∧ has (belowF d p root self) q = false) := by
          rw [hmem]; simp [e]
        rw [e2]
        show (_ → setN _ m _ q = _ ∧ setN _ m _ q = _) ∧ (_ → setN _ m _ q = _ ∧ setN _ m _ q = _)
        rw [setN_ne _ _ e, setN_ne _ _ e]
        exact ⟨h1, h2⟩
theorem moves_ok (hd : ∀ i, inU (d i)) {self cost : Int} (hok : rbOk d p root self cost = true) : MvOK d p root self cost := by
  unfold rbOk at hok
  simp only [Bool.and_eq_true, bne_iff_ne, ne_eq, decide_eq_true_eq] at hok
  obtain ⟨hs, hsr, hne, c1, c2⟩ := hok
  have h := sound_iff hs
  obtain ⟨sm, hsm, esm⟩ := right_eq hsr
  obtain ⟨rm, hrm, erm⟩ := right_eq h.hr
  have ts : self.toNat = sm := by omega
  have tr : root.toNat = rm := by omega
  have hbel : ∀ q : Nat, q < 16 → has (belowF d p root self) q = decide (self ∈ backL d p root q) := fun q hq => has_setOf _ hq
  have dle : ∀ q : Nat, q < 16 → d q ≠ 4294967295 → d q ≤ 983040 := fun q hq hf => by
    have u := adds_up hd h hq
    obtain ⟨_, u2, _⟩ := u.ends hf
    have := backL_len d p root q
    omega
  have at1 : ∀ q : Nat, q < 16 → InT d p root self q → (rbF d p root self cost).d q = d q + cost ∧ (rbF d p root self cost).p q = if (q : Int) = root then self else p q := fun q hq hi => by
    have := (rb_at (d := d) (p := p) (root := root) (self := self) (cost := cost) (order_rt d p root) q hq _ (Nat.le_refl _)).1 (by
      rw [List.take_length, hbel q hq]; exact ⟨(order_mem h hd hq).2 hi.1, by simpa using hi.2⟩)
    obtain ⟨e1, e2⟩ := this
    refine ⟨e1.trans (IntWalk.u32_in _ ?_), e2⟩
    have := dle q hq hi.1
    have := (hd q).1
    omega
  have at0 : ∀ q : Nat, q < 16 → ¬ InT d p root self q → (rbF d p root self cost).d q = putN farD self 0 q ∧ (rbF d p root self cost).p q = -1 := fun q hq hi => by
    have := (rb_at (d := d) (p := p) (root := root) (self := self) (cost := cost) (order_rt d p root) q hq _ (Nat.le_refl _)).2 (by
      rw [List.take_length, hbel q hq]
      intro c
      exact hi ⟨(order_mem h hd hq).1 c.1, by simpa using c.2⟩)
    refine ⟨this.1, this.2.trans ?_⟩
    simp [fillTo, hq]
  have hi16 : ∀ q, 16 ≤ q → (rbF d p root self cost).d q = 0 := fun q hq => by
    have key : ∀ i, i ≤ (orderF d p root).length → (rbTo d p root self cost (orderF d p root) i).d q = 0 := by
      intro i
      induction i with
      | zero =>
        intro _
        show putN farD self 0 q = 0
        unfold putN; rw [if_pos hsr, setN_ne _ _ (by omega)]
        exact fillTo_at _ _ _ _ hq
      | succ i ih =>
        intro hi
        have hil : i < (orderF d p root).length := by omega
        obtain ⟨m, hm, em⟩ := right_eq (order_rt d p root _ (List.getElem_mem hil))
        rw [rbTo_succ d p root self cost _ hil]
        split
        · exact ih (by omega)
        · show setN _ _ _ q = 0
          rw [em, Int.toNat_natCast, setN_ne _ _ (by omega)]; exact ih (by omega)
    exact key _ (Nat.le_refl _)
  have nself : ¬ InT d p root self sm := fun hi => by
    obtain ⟨n, _, hb, _⟩ := h.back hd hsm hi.1
    refine hi.2 ?_
    rw [hb]
    unfold wayTo
    rw [List.mem_map]
    exact ⟨0, by simp, esm.symm⟩
  have ptself : putN farD self 0 sm = 0 := by unfold putN; rw [if_pos hsr, esm, Int.toNat_natCast, setN_eq]
  have ptne : ∀ q : Nat, q < 16 → q ≠ sm → putN farD self 0 q = 4294967295 := fun q hq e => by
    unfold putN; rw [if_pos hsr, setN_ne _ _ (by omega)]; simp [fillTo, hq]
  have inroot : InT d p root self rm := by
    have e : backL d p root root = wayTo p root 0 := backL_of (by omega) h.hr (by rw [gd_of h.hr, h.d0]; omega) (fun k hk => by omega) rfl
    have hz := h.d0
    rw [erm, Int.toNat_natCast] at hz
    refine ⟨by rw [hz]; omega, ?_⟩
    rw [← erm, e]
    unfold wayTo
    simp only [List.mem_map, List.mem_range]
    rintro ⟨i, hi, e2⟩
    have : i = 0 := by omega
    subst this
    exact hne e2.symm
  have droot : d rm = 0 := by have hz := h.d0; rw [erm, Int.toNat_natCast] at hz; exact hz
  have inu : ∀ i, inU ((rbF d p root self cost).d i) := fun i => by
    by_cases hi : i < 16
    · by_cases c : InT d p root self i
      · rw [(at1 i hi c).1]
        have := dle i hi c.1; have := (hd i).1
        exact ⟨by omega, by omega⟩
      · rw [(at0 i hi c).1]
        by_cases e : i = sm
        · rw [e, ptself]; exact ⟨by omega, by omega⟩
        · rw [ptne i hi e]; exact ⟨by omega, by omega⟩
    · rw [hi16 i (by omega)]; exact ⟨by omega, by omega⟩
  have aself : (rbF d p root self cost).d sm = 0 ∧ (rbF d p root self cost).p sm = -1 := by
    obtain ⟨a, b⟩ := at0 sm hsm nself
    exact ⟨a.trans ptself, b⟩
  refine ⟨?_, fun j hj hjs hf => ?_, ?_, ?_⟩
  · refine sound_mk hsr inu (by rw [ts]; exact aself.1) (by rw [ts]; exact aself.2) fun j hj hjs => ?_
    by_cases c : InT d p root self j
    · right
      obtain ⟨a1, a2⟩ := at1 j hj c
      have dj := dle j hj c.1
      have dj0 := (hd j).1
      by_cases e : (j : Int) = root
      · rw [if_pos e] at a2
        have hjr : j = rm := by omega
        have dj : d j = 0 := by rw [hjr]; exact droot
        rw [a2, ts, aself.1, a1, dj]
        exact ⟨by omega, by omega, hsr, by omega, by omega, by omega⟩
      · rw [if_neg e] at a2
        obtain ⟨n, m, hm, em, s2, s3, hb1, hb2⟩ := back_pred h hd hj c.1 e
        have cm : InT d p root self m := ⟨s2, fun q => c.2 (back_mem_pred em hb1 hb2 q)⟩
        obtain ⟨b1, b2⟩ := at1 m hm cm
        obtain ⟨w1, w2, w3⟩ := h.ok j hj e c.1
        have v1 := (wV_of hd w1).1
        rw [gd_of (right_of hj), gp_of (right_of hj), Int.toNat_natCast, em, Int.toNat_natCast] at v1
        rw [v1] at w2
        have := (hd m).1
        rw [a2, em, Int.toNat_natCast, b1, a1]
        exact ⟨by omega, by omega, right_of hm, by omega, by omega, by omega⟩
    · left
      obtain ⟨a1, a2⟩ := at0 j hj c
      exact ⟨a1.trans (ptne j hj (by omega)), a2⟩
  · by_cases c : InT d p root self j
    · rw [(at1 j hj c).1]
      have := dle j hj c.1; have := (hd j).1
      exact (IntWalk.u32_in _ (by omega)).symm
    · exact absurd ((at0 j hj c).1.trans (ptne j hj (by omega))) hf
  · rw [gd_of h.hr, tr, (at1 rm hrm inroot).1, droot]; omega
  · have e1 := edges_count h
    have e2 := order_count h hd
    have := order_len d p root
    rw [e2, wrap_id ⟨by omega, by omega⟩]
    omega
end
theorem gains_apart (d e : Nat → Int) : bits .and .i64 (setOf (gnL d e) 16) (setOf (gnM d e) 16) = 0 := tb_ext (inI_bits _ _ _) inI_zero fun i _ => by
  rw [tb_and, tb_setOf _ i 16 (Nat.le_refl _), tb_setOf _ i 16 (Nat.le_refl _), tb_zero]
  by_cases h : e i < d i
  · have : ¬ d i < e i := by omega
    simp [gnM, this]
  · simp [gnL, h]
end Go.Proofs.Ythpccjgpbcginaa.Ev
