/- Two nodes that tell each other all: eight rounds, by what lpa's functions compute. -/
import Derived.Test.YtjceimcepogkaaaGreatDoorKa
import Derived.Test.YtjceimcepogkaaaGreatDoorLu
namespace Go.Proofs.YtjceimcepogkaaaGreatDoor.Ev
open Go
attribute [local congr] ob_congr sq_congr cd_congr ite_congr1 iter_congr it1_congr jumps_congr
set_option maxRecDepth 100000
set_option linter.unusedSimpArgs false
set_option linter.unusedVariables false
theorem nearN_one {k : Kn} {r : Rw} {skip n : Int} {s : Bst} {o : Nat} (ho : o < 16) (h : ∀ j : Nat, j < 16 → j ≠ o → alOk k r n j = false) : nearN k r skip n s 16 = nearJ k r skip n o s := by
  have key : ∀ i, i ≤ 16 → nearN k r skip n s i = if o < i then nearJ k r skip n o s else s := by
    intro i
    induction i with
    | zero => intro _; rw [if_neg (by omega)]; rfl
    | succ i ih =>
      intro hi
      have e : nearN k r skip n s (i + 1) = nearJ k r skip n i (nearN k r skip n s i) := rfl
      rw [e, ih (by omega)]
      by_cases c : i = o
      · subst c; rw [if_neg (by omega), if_pos (by omega)]
      · have hj := h i (by omega) c
        have hs : ∀ s, nearJ k r skip n i s = s := fun s => by unfold nearJ; rw [hj]; simp
        rw [hs]
        by_cases c2 : o < i
        · rw [if_pos c2, if_pos (by omega)]
        · rw [if_neg c2, if_neg (by omega)]
  rw [key 16 (by omega), if_pos ho]
theorem near_one {k : Kn} {r : Rw} {skip : Int} {o : Nat} (hl : listTo k.up 16 = [(o : Int)]) : near k r skip = nearN k r skip o ⟨-1, 4294967295, -1, -1⟩ 16 := by
  have e : near k r skip = nearN k r skip ((listTo k.up 16).getD 0 0) ⟨-1, 4294967295, -1, -1⟩ 16 := by
    unfold near
    have e2 : (listTo k.up 16).length = 1 := by rw [hl]; rfl
    rw [e2]; rfl
  rw [e, hl]; rfl
theorem setOf_zero {c : Nat → Bool} (h : ∀ j, j < 16 → c j = false) : setOf c 16 = 0 := by
  refine tb_ext (inI_setOf _ _) inI_zero fun i _ => ?_
  rw [tb_setOf _ _ 16 (Nat.le_refl _), tb_zero]
  by_cases hi : i < 16
  · simp [h i hi]
  · simp [hi]
theorem setOf_one {c : Nat → Bool} {o : Nat} (ho : o < 16) (h : ∀ j, j < 16 → c j = decide (j = o)) : setOf c 16 = withN 0 o := by
  refine tb_ext (inI_setOf _ _) (inI_withN inI_zero _) fun i _ => ?_
  rw [tb_setOf _ _ 16 (Nat.le_refl _), tb_withN, tb_zero, right_of ho, Int.toNat_natCast]
  by_cases hi : i < 16
  · rw [h i hi]; simp [hi]
  · have : i ≠ o := by omega
    simp [hi, this]
theorem listTo_zero : listTo 0 16 = [] := by
  refine List.eq_nil_of_length_eq_zero (Classical.byContradiction fun hn => ?_)
  obtain ⟨m, _, h, _⟩ := listTo_get 0 (show 0 < (listTo 0 16).length by omega)
  rw [has_zero] at h; cases h
theorem has_one {o : Nat} (ho : o < 16) (m : Nat) : has (withN 0 o) m = decide (m = o) := by
  rw [has_withN inI_zero, has_zero, right_of ho, Bool.false_or, Bool.true_and]
  by_cases h : m = o
  · subst h; simp
  · have : (m : Int) ≠ o := by omega
    simp [h, this]
theorem listTo_of {a : Int} {o : Nat} (ho : o < 16) (h : ∀ m : Nat, m < 16 → has a m = decide (m = o)) : listTo a 16 = [(o : Int)] := by
  have key : ∀ i, i ≤ 16 → listTo a i = if o < i then [(o : Int)] else [] := by
    intro i
    induction i with
    | zero => intro _; rfl
    | succ i ih =>
      intro hi
      rw [listTo_succ, ih (by omega), h i (by omega)]
      by_cases c : i = o
      · subst c; simp
      · by_cases c2 : o < i
        · simp [c, c2, show o < i + 1 by omega]
        · simp [c, c2, show ¬ o < i + 1 by omega]
  rw [key 16 (Nat.le_refl _), if_pos ho]
theorem and16_one {o : Nat} (ho : o < 16) : bits .and .i64 (withN 0 o) 65535 = withN 0 o := by
  refine tb_ext (inI_bits _ _ _) (inI_withN inI_zero _) fun i _ => ?_
  rw [tb_and, tb_ones16, tb_withN, tb_zero, Bool.false_or, right_of ho, Int.toNat_natCast]
  by_cases h : i = o
  · subst h; simp [ho]
  · simp [h]
theorem or_one (o : Nat) : bits .or .i64 0 (withN 0 o) = withN 0 o := by
  refine tb_ext (inI_bits _ _ _) (inI_withN inI_zero _) fun i _ => ?_
  rw [tb_or, tb_zero, Bool.false_or]
theorem one_ne {o : Nat} (ho : o < 16) : withN 0 o ≠ 0 := fun e => by
  have := has_one ho o
  rw [e, has_zero] at this
  simp at this
/-- What a node knows that has one link. -/
structure Two (s o : Nat) (c : Int) (t : Bool) (k : Kn) : Prop where
  s16 : s < 16
  o16 : o < 16
  so : s ≠ o
  self : k.self = s
  up : k.up = withN 0 o
  ce : k.c o = c
  c1 : 1 ≤ c
  c2 : c ≤ 65536
  td : ∀ j, j < 16 → j ≠ s → j ≠ o → k.tD o j = 4294967295
  t0 : k.tD o o = if t = true then 0 else 4294967295
theorem farD_at {j : Nat} (h : j < 16) : farD j = 4294967295 := by unfold farD fillTo; rw [if_pos h]
theorem farP_at {j : Nat} (h : j < 16) : farP j = -1 := by unfold farP fillTo; rw [if_pos h]
section
variable {s o : Nat} {c : Int} {t : Bool} {k : Kn}
theorem Two.list (h : Two s o c t k) : listTo k.up 16 = [(o : Int)] := by rw [h.up]; exact listTo_of h.o16 fun m _ => has_one h.o16 m
theorem Two.nbe (h : Two s o c t k) : nb k.up = withN 0 o := by unfold nb; rw [h.up]; exact and16_one h.o16
theorem Two.kc (h : Two s o c t k) : kc k o = c := by
  unfold Ev.kc ofF
  rw [h.up, has_one h.o16]
  simp [h.ce]
theorem tol_nat (k : Kn) (o : Nat) {j : Nat} (hj : j < 16) : tol k o j = k.tD o j := by
  unfold tol gd
  rw [if_pos (right_of hj), Int.toNat_natCast, Int.toNat_natCast]
theorem Two.no (h : Two s o c t k) (r : Rw) {j : Nat} (hj : j < 16) (hne : j ≠ o) : alOk k r o j = false := by
  unfold alOk alPre
  by_cases e : j = s
  · subst e
    rw [h.self]
    simp
  · rw [tol_nat k o hj, h.td j hj e hne]
    simp
theorem Two.ok (h : Two s o c t k) (r : Rw) : alOk k r o o = t := by
  have hne : ((o : Int) != (s : Int)) = true := by
    have := h.so
    simp; omega
  have c1 := h.c1
  have c2 := h.c2
  unfold alOk alPre
  rw [tol_nat k o h.o16, h.t0, h.kc, h.self, right_of h.o16, hne, decide_eq_true c1, decide_eq_true c2]
  cases t <;> simp
theorem Two.has (h : Two s o c true k) : alHas k o o = true := by
  have hne : ((o : Int) != (s : Int)) = true := by
    have := h.so
    simp; omega
  have c1 := h.c1
  have c2 := h.c2
  unfold alHas alPre
  rw [tol_nat k o h.o16, h.t0, h.kc, h.self, right_of h.o16, hne, decide_eq_true c1, decide_eq_true c2]
  simp
theorem Two.rd (h : Two s o c true k) : alRd k o o = c := by
  unfold alRd alD
  rw [h.has, if_pos rfl, tol_nat k o h.o16, h.t0, h.kc, if_pos rfl, Int.zero_add]
  have c1 := h.c1
  have c2 := h.c2
  exact IntWalk.u32_in _ (by omega)
theorem Two.rp (h : Two s o c true k) : alRp k o o = s := by
  unfold alRp
  rw [h.has, if_pos rfl, h.self]; simp
theorem Two.rn (h : Two s o c true k) : alRn k o o = o := by
  unfold alRn
  rw [h.has, if_pos rfl]
def tw (s o : Nat) (c : Int) (t : Bool) : Rw := if t = true then ⟨setN (putN farD s 0) o c, setN farP o s, setN farP o o⟩ else ⟨putN farD s 0, farP, farP⟩
theorem Two.settle (h : Two s o c t k) : settleF k 0 = tw s o c t := by
  have so := h.so
  have e0 : setTo k 0 0 = emptyR s := by
    show emptyR k.self = _
    rw [h.self]
  have eo : (emptyR s).d o = 4294967295 := by
    show putN farD s 0 o = _
    unfold putN
    rw [if_pos (right_of h.s16), Int.toNat_natCast, setN_ne _ _ (fun e => so e.symm), farD_at h.o16]
  have z : (none : Option Nat) = none := rfl
  cases t with
  | false =>
    have hn : near k (emptyR s) 0 = ⟨-1, 4294967295, -1, -1⟩ := by
      rw [near_one h.list, nearN_one h.o16 fun j hj hne => h.no _ hj hne]
      unfold nearJ
      rw [h.ok]; simp
    have := setTo_stop (k := k) (skip := 0) (m := 0) (by rw [e0, hn]; rfl) 15 (by omega)
    show setTo k 0 15 = _
    rw [this, e0]; rfl
  | true =>
    have hn : near k (emptyR s) 0 = ⟨o, c, s, o⟩ := by
      rw [near_one h.list, nearN_one h.o16 fun j hj hne => h.no _ hj hne]
      unfold nearJ
      have hr : rowNone ((emptyR s).d o) ((emptyR s).p o) ((emptyR s).n o) = true := by
        rw [eo]
        show rowNone 4294967295 (farP o) (farP o) = true
        rw [farP_at h.o16]; rfl
      have c2 := h.c2
      rw [hr, h.ok, has_zero, h.rd, decide_eq_true (show c < 4294967295 by omega), h.rp, h.rn]
      rfl
    have e1 : setTo k 0 1 = tw s o c true := by
      show setStep k 0 (setTo k 0 0) = _
      rw [e0]
      unfold setStep
      rw [hn]
      have c2 := h.c2
      have hr : rowNone c s o = false := by
        unfold rowNone
        rw [show (c == 4294967295) = false by simp; omega]; rfl
      simp only [hr, Bool.false_eq_true, if_false, Int.toNat_natCast]
      rfl
    have hs : near k (setTo k 0 1) 0 = ⟨-1, 4294967295, -1, -1⟩ := by
      rw [near_one h.list, nearN_one h.o16 fun j hj hne => h.no _ hj hne]
      unfold nearJ
      have hr : rowNone ((setTo k 0 1).d o) ((setTo k 0 1).p o) ((setTo k 0 1).n o) = false := by
        rw [e1]
        show rowNone (setN _ o c o) _ _ = false
        rw [setN_eq]
        unfold rowNone
        have c2 := h.c2
        rw [show (c == 4294967295) = false by simp; omega]; rfl
      rw [hr]; simp
    have := setTo_stop (k := k) (skip := 0) (m := 1) (by rw [hs]; rfl) 15 (by omega)
    show setTo k 0 15 = _
    rw [this, e1]
def rwD (s o : Nat) (c : Int) (t : Bool) (i : Nat) : Int := if i = s then 0 else if t = true ∧ i = o then c else 4294967295
def rwP (s o : Nat) (t : Bool) (i : Nat) : Int := if t = true ∧ i = o then (s : Int) else -1
theorem tw_d (hs : s < 16) (so : s ≠ o) {i : Nat} (hi : i < 16) : (tw s o c t).d i = rwD s o c t i := by
  unfold tw rwD
  have e : ∀ q, q < 16 → putN farD s 0 q = if q = s then 0 else 4294967295 := fun q hq => by
    unfold putN
    rw [if_pos (right_of hs), Int.toNat_natCast]
    by_cases h : q = s
    · subst h; rw [setN_eq, if_pos rfl]
    · rw [setN_ne _ _ h, farD_at hq, if_neg h]
  cases t with
  | false => simp [e i hi]
  | true =>
    show setN (putN farD s 0) o c i = _
    by_cases h : i = o
    · subst h; rw [setN_eq, if_neg (fun q => so q.symm)]; simp
    · rw [setN_ne _ _ h, e i hi]; simp [h]
theorem tw_p {i : Nat} (hi : i < 16) : (tw s o c t).p i = rwP s o t i := by
  unfold tw rwP
  cases t with
  | false => simp [farP_at hi]
  | true =>
    show setN farP o s i = _
    by_cases h : i = o
    · subst h; rw [setN_eq]; simp
    · rw [setN_ne _ _ h, farP_at hi]; simp [h]
theorem tw_n {i : Nat} (hi : i < 16) : (tw s o c t).n i = if t = true ∧ i = o then (o : Int) else -1 := by
  unfold tw
  cases t with
  | false => simp [farP_at hi]
  | true =>
    show setN farP o o i = _
    by_cases h : i = o
    · subst h; rw [setN_eq]; simp
    · rw [setN_ne _ _ h, farP_at hi]; simp [h]
end
theorem spread_zero {up : Int} {q : Nat → Int} (hq : ∀ i, inI (q i)) : ∀ n, upto (spread1 up 0) q n = q
  | 0 => rfl
  | n + 1 => by
    show spread1 up 0 n (upto (spread1 up 0) q n) = q
    rw [spread_zero hq n]
    unfold spread1
    have e : bits .and .i64 0 65535 = 0 := rfl
    rw [e, or_zero (hq n), setN_self]
    split <;> rfl
theorem anew_quiet (l : LP) (ha : l.act = 0) (hb : blkF l.k (settleF l.k 0).n l.least = 0) (hq : ∀ i, inI (l.ask i)) :
    anewF l = ⟨l.k, settleF l.k 0, lowF l.least (settleF l.k 0).d, 0, l.wait, upto (spread1 (nb l.k.up) (chgF l.r.d l.r.p (settleF l.k 0).d (settleF l.k 0).p)) l.tell 16, l.ask, l.reply⟩ := by
  have z := listTo_zero
  have e1 : dnF l = 0 := by unfold dnF rdD; rw [ha, z]; rfl
  have e2 : aF l = 0 := by unfold aF; rw [e1, z, ha]; rfl
  have e3 : wF l = l.wait := by unfold wF; rw [e1, z]; rfl
  have e4 : leF l = l.least := by unfold leF resetF; rw [e1, z]; rfl
  have e5 : rF l = settleF l.k 0 := by unfold rF; rw [e2]
  have e6 : blF l = 0 := by unfold blF; rw [e5, e4]; exact hb
  have e7 : ∀ up, stF l up = ⟨0, l.wait⟩ := fun up => by unfold stF; rw [e6, z, e2, e3]; rfl
  have e8 : ∀ up, roundF l up = ⟨l.k, settleF l.k 0, l.least, 0, l.wait, l.tell, l.ask, l.reply⟩ := fun up => by
    unfold roundF
    rw [e5, e4, e7, e6, spread_zero hq]
  obtain ⟨_, _, hf⟩ := anN_ok l (nb l.k.up)
  have e9 : anN l (nb l.k.up) = 0 := by
    refine Classical.byContradiction fun hn => hf 0 (by omega) (Or.inl ?_)
    show blF l = 0
    exact e6
  have e10 : lastF l = roundF l (nb l.k.up) := by unfold lastF; rw [e9]; rfl
  unfold anewF finF
  rw [e10, e8]
theorem low_same {le d : Nat → Int} {j : Nat} (hj : j < 16) : lowF le d j = if d j < le j then d j else le j := by
  unfold lowF fillTo mn; rw [if_pos hj]
/-- A node with one link, as far as its talk has come. -/
structure Nd (s o : Nat) (c : Int) (t : Bool) (hd hp : Nat → Int) (tl : Int) (l : LP) : Prop where
  self : l.k.self = s
  up : l.k.up = withN 0 o
  ce : l.k.c o = c
  td : ∀ j, j < 16 → l.k.tD o j = hd j
  tp : ∀ j, j < 16 → l.k.tP o j = hp j
  rd : ∀ j, j < 16 → l.r.d j = rwD s o c t j
  rp : ∀ j, j < 16 → l.r.p j = rwP s o t j
  le : ∀ j, j < 16 → l.least j = rwD s o c t j
  act : l.act = 0
  tell : ∀ j, j < 16 → l.tell j = if j = o then tl else 0
  ask : ∀ j, l.ask j = 0
  reply : ∀ j, l.reply j = 0
structure Pr (s o : Nat) (c : Int) : Prop where
  s16 : s < 16
  o16 : o < 16
  so : s ≠ o
  c1 : 1 ≤ c
  c2 : c ≤ 65536
theorem spread_at {up set : Int} {q : Nat → Int} {o : Nat} (hu : ∀ m : Nat, m < 16 → has up m = decide (m = o)) {j : Nat} (hj : j < 16) :
    upto (spread1 up set) q 16 j = if j = o then bits .or .i64 (q o) (bits .and .i64 set 65535) else q j := by
  have e := upto_at (fun k => has up (k : Nat)) (fun _ x => bits .or .i64 x (bits .and .i64 set 65535)) q j 16
  have e2 : upto (spread1 up set) q 16 = upto (fun (k : Nat) l => if has up k = true then setN l k (bits .or .i64 (l k) (bits .and .i64 set 65535)) else l) q 16 := rfl
  rw [e2, e, hu j hj]
  by_cases h : j = o
  · subst h; simp [hj]
  · simp [h]
theorem nd_anew {s o : Nat} {c : Int} {t t' : Bool} {hd hp : Nat → Int} {tl : Int} {l : LP} (p : Pr s o c) (h : Nd s o c t hd hp tl l) (h1 : ∀ j, j < 16 → j ≠ s → j ≠ o → hd j = 4294967295) (h2 : hd o = if t' = true then 0 else 4294967295)
    (htt : t = t' ∨ (t = false ∧ t' = true ∧ tl = 0)) (hl : inI tl) : Nd s o c t' hd hp (if t = t' then tl else withN 0 o) (anewF l) := by
  obtain ⟨s16, o16, so, c1, c2⟩ := p
  have two : Two s o c t' l.k := ⟨s16, o16, so, h.self, h.up, h.ce, c1, c2, fun j hj q1 q2 => by rw [h.td j hj]; exact h1 j hj q1 q2, by rw [h.td o o16]; exact h2⟩
  have hset := two.settle
  have hb : blkF l.k (settleF l.k 0).n l.least = 0 := by
    rw [hset]
    refine setOf_zero fun j hj => ?_
    unfold blkC
    rw [tw_n hj]
    by_cases q : t' = true ∧ j = o
    · obtain ⟨q1, rfl⟩ := q
      rw [if_pos ⟨q1, rfl⟩, safeF_eq, right_of hj, tol_nat l.k j hj, two.t0, q1, if_pos rfl, Int.toNat_natCast, h.le j hj]
      unfold rwD
      rw [if_neg (fun e => so e.symm)]
      have hlt : (0 : Int) < (if t = true ∧ j = j then c else 4294967295) := by split <;> omega
      rw [decide_eq_true hlt]
      simp
    · rw [if_neg q]; rfl
  have hq : ∀ i, inI (l.ask i) := fun i => by rw [h.ask]; exact inI_zero
  rw [anew_quiet l h.act hb hq, hset]
  have hu : ∀ m : Nat, m < 16 → has (nb l.k.up) m = decide (m = o) := fun m _ => by rw [two.nbe]; exact has_one o16 m
  refine ⟨h.self, h.up, h.ce, h.td, h.tp, fun j hj => tw_d s16 so hj, fun j hj => tw_p hj, fun j hj => ?_, rfl, fun j hj => ?_, h.ask, h.reply⟩
  · show lowF l.least (tw s o c t').d j = _
    rw [low_same hj, tw_d s16 so hj, h.le j hj]
    rcases htt with rfl | ⟨rfl, rfl, _⟩
    · split <;> rfl
    · unfold rwD
      by_cases e1 : j = s
      · simp [e1]
      · by_cases e2 : j = o
        · subst e2; simp [e1]; omega
        · simp [e1, e2]
  · show (upto (α := Nat → Int) _ _ _) j = _
    rw [spread_at hu hj]
    by_cases e : j = o
    · rw [if_pos e, if_pos e, h.tell o o16, if_pos rfl]
      rcases htt with rfl | ⟨rfl, rfl, rfl⟩
      · rw [if_pos rfl]
        have hz : chgF l.r.d l.r.p (tw s o c t).d (tw s o c t).p = 0 := setOf_zero fun j hj => by
          unfold chgC
          rw [tw_d s16 so hj, tw_p hj, h.rd j hj, h.rp j hj]; simp
        rw [hz]
        exact or_zero hl
      · rw [if_neg Bool.false_ne_true]
        have hz : chgF l.r.d l.r.p (tw s o c true).d (tw s o c true).p = withN 0 o := setOf_one o16 fun j hj => by
          unfold chgC
          rw [tw_d s16 so hj, tw_p hj, h.rd j hj, h.rp j hj]
          unfold rwD rwP
          by_cases e2 : j = o
          · subst e2
            have e1 : ¬ j = s := fun e => so e.symm
            have : 4294967295 ≠ c := by omega
            simp [e1, this]
          · simp [e2]
        rw [hz, and16_one o16, or_one]
    · rw [if_neg e, if_neg e, h.tell j hj, if_neg e]
/- Items. -/
def rndM (d p : Nat → Int) (tell ask reply : Int) (k : Nat) : List Itm :=
  ((if has ask k = true then [⟨k, 1, d k, p k⟩] else []) ++ (if has reply k = true then [⟨k, 2, d k, p k⟩] else [])) ++ (if (has tell k && (!has ask k && !has reply k)) = true then [⟨k, 0, d k, p k⟩] else [])
def itmsTo (d p : Nat → Int) (tell ask reply : Int) (k : Nat) : List Itm := upto (fun i l => l ++ rndM d p tell ask reply i) [] k
theorem itms_app (a b : List Itm) : itms (a ++ b) = itms a ++ itms b := List.map_append
theorem rndM_eq (d p : Nat → Int) (t a r : Int) (k : Nat) : rndI d p t a r k = itms (rndM d p t a r k) := by
  unfold rndI rndM
  rw [itms_app, itms_app]
  congr 1
  · congr 1 <;> (split <;> rfl)
  · split <;> rfl
theorem itmsTo_eq (d p : Nat → Int) (t a r : Int) : ∀ k, itemsTo d p t a r k = itms (itmsTo d p t a r k)
  | 0 => rfl
  | k + 1 => by
    show itemsTo d p t a r k ++ rndI d p t a r k = itms (itmsTo d p t a r k ++ rndM d p t a r k)
    rw [itms_app, itmsTo_eq d p t a r k, rndM_eq]
def drainM (l : LP) (n : Int) : List Itm := if has (dueF l) n = true then itmsTo (cut l.r.d) (cut l.r.p) (l.tell n.toNat) (l.ask n.toNat) (l.reply n.toNat) 16 else []
theorem drainM_eq (l : LP) (n : Int) : drainI l n = itms (drainM l n) := by
  unfold drainI drainM
  split
  · exact itmsTo_eq ..
  · rfl
theorem rndM_len (d p : Nat → Int) (tell ask reply : Int) (k : Nat) : (rndM d p tell ask reply k).length ≤ 3 := by
  unfold rndM
  rw [List.length_append, List.length_append]
  split <;> split <;> split <;> simp
theorem itmsTo_len (d p : Nat → Int) (tell ask reply : Int) : ∀ k, (itmsTo d p tell ask reply k).length ≤ 3 * k
  | 0 => Nat.le_refl _
  | k + 1 => by
    have := itmsTo_len d p tell ask reply k
    have := rndM_len d p tell ask reply k
    show (itmsTo d p tell ask reply k ++ rndM d p tell ask reply k).length ≤ _
    rw [List.length_append]; omega
theorem drainM_len (l : LP) (n : Int) : (drainM l n).length ≤ 48 := by
  unfold drainM
  split
  · exact itmsTo_len ..
  · simp
theorem itms_one {d p : Nat → Int} {x : Nat} (hx : x < 16) : itmsTo d p (withN 0 x) 0 0 16 = [⟨x, 0, d x, p x⟩] := by
  have key : ∀ i, i ≤ 16 → itmsTo d p (withN 0 x) 0 0 i = if x < i then [⟨x, 0, d x, p x⟩] else [] := by
    intro i
    induction i with
    | zero => intro _; rfl
    | succ i ih =>
      intro hi
      show itmsTo d p (withN 0 x) 0 0 i ++ rndM d p (withN 0 x) 0 0 i = _
      rw [ih (by omega)]
      unfold rndM
      rw [has_zero, has_one hx]
      by_cases c : i = x
      · subst c; simp
      · by_cases c2 : x < i
        · simp [c, c2, show x < i + 1 by omega]
        · simp [c, c2, show ¬ x < i + 1 by omega]
  rw [key 16 (Nat.le_refl _), if_pos hx]
theorem anyF_eq (l : Nat → Int) : anyF l = setOf (fun k => l k != 0) 16 := by
  unfold anyF setOf
  refine upto_cong (fun k x _ => ?_) 16 (Nat.le_refl _)
  unfold any1
  by_cases h : l k = 0 <;> simp [h]
theorem inI_anyF (l : Nat → Int) : inI (anyF l) := by rw [anyF_eq]; exact inI_setOf _ _
theorem due_has (l : LP) {n : Nat} (hn : n < 16) : has (dueF l) n = ((l.tell n != 0) || (l.ask n != 0) || (l.reply n != 0)) := by
  unfold dueF
  rw [has_or (inI_bits _ _ _) (inI_anyF _), has_or (inI_anyF _) (inI_anyF _), anyF_eq, anyF_eq, anyF_eq, has_setOf _ hn, has_setOf _ hn, has_setOf _ hn]
section
variable {s o : Nat} {c : Int} {t : Bool} {hd hp : Nat → Int} {tl : Int} {l : LP}
theorem Nd.due (h : Nd s o c t hd hp tl l) (p : Pr s o c) : has (dueF l) o = (tl != 0) := by
  rw [due_has l p.o16, h.tell o p.o16, h.ask, h.reply, if_pos rfl]; simp
theorem Nd.drain (h : Nd s o c t hd hp tl l) (p : Pr s o c) : Nd s o c t hd hp 0 (drainF l o) := by
  unfold drainF
  rw [h.due p]
  by_cases e : tl = 0
  · subst e; simpa using h
  · rw [if_pos (by simpa using e)]
    have cl : ∀ f : Nat → Int, ∀ j, clear f (o : Int) j = if j = o then 0 else f j := fun f j => by
      unfold clear
      rw [if_pos (right_of p.o16), Int.toNat_natCast]
      by_cases q : j = o
      · subst q; rw [setN_eq, if_pos rfl]
      · rw [setN_ne _ _ q, if_neg q]
    refine ⟨h.self, h.up, h.ce, h.td, h.tp, h.rd, h.rp, h.le, h.act, fun j hj => ?_, fun j => ?_, fun j => ?_⟩
    · show clear l.tell o j = _
      rw [cl]
      by_cases q : j = o
      · rw [if_pos q, if_pos q]
      · rw [if_neg q, h.tell j hj, if_neg q, if_neg q]
    · show clear l.ask o j = _
      rw [cl, h.ask]; split <;> rfl
    · show clear l.reply o j = _
      rw [cl, h.reply]; split <;> rfl
theorem Nd.items {x : Nat} (h : Nd s o c t hd hp (withN 0 x) l) (p : Pr s o c) (hx : x < 16) : drainM l o = [⟨x, 0, rwD s o c t x, rwP s o t x⟩] := by
  unfold drainM
  have e1 := h.tell o p.o16
  rw [if_pos rfl] at e1
  have e2 : has (dueF l) o = true := by rw [h.due p]; simpa using one_ne hx
  rw [if_pos e2, Int.toNat_natCast, e1, h.ask, h.reply, itms_one hx]
  have q1 : cut l.r.d x = rwD s o c t x := by unfold cut fillTo; rw [if_pos hx, h.rd x hx]
  have q2 : cut l.r.p x = rwP s o t x := by unfold cut fillTo; rw [if_pos hx, h.rp x hx]
  rw [q1, q2]
theorem Nd.none (h : Nd s o c t hd hp 0 l) (p : Pr s o c) : drainM l o = [] := by
  unfold drainM
  rw [h.due p]; rfl
theorem Nd.heard (h : Nd s o c t hd hp 0 l) (p : Pr s o c) {t' : Bool} {its : List Itm} {hd' hp' : Nat → Int}
    (ha : ∀ j, j < 16 → (appTo its ⟨l.k.tD o, l.k.tP o⟩ its.length).d j = hd' j ∧ (appTo its ⟨l.k.tD o, l.k.tP o⟩ its.length).p j = hp' j)
    (h0 : ∀ x, x ∈ its → x.k = 0) (h1 : ∀ j, j < 16 → j ≠ s → j ≠ o → hd' j = 4294967295) (h2 : hd' o = if t' = true then 0 else 4294967295) (htt : t = t' ∨ (t = false ∧ t' = true)) :
    Nd s o c t' hd' hp' (if t = t' then 0 else withN 0 o) (heardF l o its) := by
  have hb : has (nb l.k.up) o = true := by
    unfold nb
    rw [h.up, and16_one p.o16, has_one p.o16]; simp
  unfold heardF
  rw [if_pos hb]
  have dz : ∀ of : Int, of ≠ 0 → ∀ i, i ≤ its.length → destTo its of i = 0 := by
    intro of hof i
    induction i with
    | zero => intro _; rfl
    | succ i ih =>
      intro hi
      have e : its.getD i ⟨0, 0, 0, 0⟩ = its[i] := by simp [List.getD, List.getElem?_eq_getElem (show i < its.length by omega)]
      rw [destTo_succ its of i e, ih (by omega)]
      unfold dst1
      rw [h0 _ (List.getElem_mem _)]
      have : ((0 : Int) == of) = false := by simpa using fun e => hof e.symm
      rw [this]; simp
  have d1 := dz 1 (by decide) its.length (Nat.le_refl _)
  have d2 := dz 2 (by decide) its.length (Nat.le_refl _)
  have hg : Nd s o c t hd' hp' 0 (hrG l o its) := by
    refine ⟨h.self, h.up, h.ce, fun j hj => ?_, fun j hj => ?_, h.rd, h.rp, h.le, h.act, h.tell, h.ask, fun j => ?_⟩
    · show setN l.k.tD (o : Int).toNat _ o j = _
      rw [Int.toNat_natCast, setN_eq]
      exact (ha j hj).1
    · show setN l.k.tP (o : Int).toNat _ o j = _
      rw [Int.toNat_natCast, setN_eq]
      exact (ha j hj).2
    · show setN l.reply (o : Int).toNat _ j = 0
      rw [Int.toNat_natCast, d1, h.reply]
      by_cases e : j = o
      · subst e; rw [setN_eq]; rfl
      · rw [setN_ne _ _ e, h.reply]
  refine nd_anew p hg h1 h2 ?_ inI_zero
  rcases htt with q | ⟨q1, q2⟩
  · exact Or.inl q
  · exact Or.inr ⟨q1, q2, rfl⟩
end
end Go.Proofs.YtjceimcepogkaaaGreatDoor.Ev
