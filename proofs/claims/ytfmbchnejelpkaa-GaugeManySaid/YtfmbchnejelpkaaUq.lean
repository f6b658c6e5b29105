/- What fingerpostref04.Sorted and both Bins answer, as entries; Middle. -/
import Derived.Test.YtfmbchnejelpkaaUp
import Derived.Test.YtfmbchnejelpkaaEvN
namespace Go.Proofs.Ytfmbchnejelpkaa.Ev
open Go
attribute [local congr] ob_congr sq_congr cd_congr ite_congr1 iter_congr it1_congr jumps_congr
set_option maxRecDepth 100000
set_option linter.unusedSimpArgs false
set_option linter.unusedVariables false
theorem srtL_len {L l : List Nat} (h : L.Perm l) : L.length = l.length := h.length_eq
theorem gmiddle_ev (d : Nat) (l : List Nat) (hl : l.length ≤ 60) : ∃ L, L.Perm (fk l l.length) ∧ SrtL L ∧
    evF Try.prog env xf (d+68) 17 [.sl .ro cF (fl l)] = some (if L.length = 0 then .tcons (.d (dF 0)) (.tcons (.d (.s (.bool (false)))) .tnil) else .tcons (.d (dF (L.getD ((L.length - 1) / 2) 0))) (.tcons (.d (.s (.bool (true)))) .tnil)) := by
  have hf := fines_ev (d + 63) l hl
  have hle := fk_len l l.length
  obtain ⟨L, h1, h2, h3⟩ := gsorted_ev d (fk l l.length) (by omega)
  refine ⟨L, h2, h3, ?_⟩
  rw [evF_eq Try.func17 (show Try.f17.body = some _ from rfl) rfl rfl rfl (by show 1 ≤ 18; decide)]
  have hlL := fl_len L
  have hLl := h2.length_eq
  by_cases hz : L.length = 0
  · have z1 : ((L.length : Int) == 0) = true := by rw [beq_iff_eq]; omega
    rw [if_pos hz]
    simp (decide := true) only [hf, h1, hlL, z1, Try.f17, rid, ↓sBp, sBq, List.all_cons, List.all_nil, List.map_cons, List.map_nil, D.shape, Sh.sub, Sh.size, List.getElem?_cons_zero, List.getElem?_cons_succ, Option.bind_some, Option.bind_none, Option.getD_some, Option.getD_none, V.keysIn, V.kill, V.has, decide_eq_true_eq, beq_iff_eq, bne_iff_ne, ne_eq, Bool.not_eq_true', Bool.and_true, Bool.and_self, Bool.true_and, if_true, if_false, reduceIte, Bool.false_eq_true, decide_true, decide_false, beq_self_eq_true, Bool.not_true, Bool.not_false, true_and, and_true, and_self, List.append_assoc, List.nil_append, List.cons_append, Int.toNat_natCast, ck, Int.cast_ofNat_Int, Int.reduceToNat, bne_self_eq_false, Bool.or_false, Bool.false_or, Bool.false_and, Bool.and_false, Bool.or_true, Bool.true_or]
  · have z1 : ((L.length : Int) == 0) = false := by rw [beq_eq_false_iff_ne]; omega
    rw [if_neg hz]
    have w1 : IntKind.i64.wrap ((L.length : Int) - 1) = ((L.length - 1 : Nat) : Int) := by rw [IntWalk.i64_in _ (by omega)]; omega
    have w2 : (((L.length - 1 : Nat) : Int)).tdiv 2 = (((L.length - 1) / 2 : Nat) : Int) := by rw [Int.tdiv_eq_ediv_of_nonneg (by omega)]; omega
    have w3 : IntKind.i64.wrap ((((L.length - 1) / 2 : Nat) : Int)) = (((L.length - 1) / 2 : Nat) : Int) := IntWalk.i64_in _ (by omega)
    have n0 := i0 ((L.length - 1) / 2)
    have hg := fl_get L ((L.length - 1) / 2) (by omega)
    simp (decide := true) only [hf, h1, hlL, z1, w1, w2, w3, n0, hg, Try.f17, rid, ↓sBp, sBq, List.all_cons, List.all_nil, List.map_cons, List.map_nil, D.shape, Sh.sub, Sh.size, List.getElem?_cons_zero, List.getElem?_cons_succ, Option.bind_some, Option.bind_none, Option.getD_some, Option.getD_none, V.keysIn, V.kill, V.has, decide_eq_true_eq, beq_iff_eq, bne_iff_ne, ne_eq, Bool.not_eq_true', Bool.and_true, Bool.and_self, Bool.true_and, if_true, if_false, reduceIte, Bool.false_eq_true, decide_true, decide_false, beq_self_eq_true, Bool.not_true, Bool.not_false, true_and, and_true, and_self, List.append_assoc, List.nil_append, List.cons_append, Int.toNat_natCast, ck, Int.cast_ofNat_Int, Int.reduceToNat, bne_self_eq_false, Bool.or_false, Bool.false_or, Bool.false_and, Bool.and_false, Bool.or_true, Bool.true_or]
def bitF : D → Nat
  | .s (.float .f64 b) => b
  | _ => 0
def isD64 : D → Bool
  | .s (.float .f64 _) => true
  | _ => false
def bitsL (es : List D) : List Nat := es.map bitF
theorem isD64_bit {x : D} (h : isD64 x = true) : dF (bitF x) = x := by
  unfold isD64 at h
  split at h
  · rfl
  · cases h
theorem fl_bits {es : List D} (h : es.all isD64 = true) : fl (bitsL es) = es := by
  unfold fl bitsL
  rw [List.map_map]
  refine (List.map_congr_left fun x hx => ?_).trans (List.map_id _)
  exact isD64_bit (List.all_eq_true.1 h x hx)
theorem bits_fl (l : List Nat) : bitsL (fl l) = l := by
  unfold fl bitsL
  rw [List.map_map]
  exact (List.map_congr_left fun x hx => rfl).trans (List.map_id _)
theorem all_fl (l : List Nat) : (fl l).all isD64 = true := by
  rw [List.all_eq_true]
  intro x hx
  obtain ⟨b, _, rfl⟩ := List.mem_map.1 hx
  rfl
theorem bits_len (es : List D) : (bitsL es).length = es.length := List.length_map ..
def srtX : List V → Option V
  | [.sl .ro sh es] => if sh = cF ∧ es.length ≤ 60 ∧ es.all isD64 = true then some (.sl .ro cF (fl (rS (bitsL es) es.length))) else none
  | _ => none
def binX : List V → Option V
  | [.sl .ro sh es, .sl .ro sh' ed] => if (sh = cF ∧ sh' = cF) ∧ (es.length ≤ 60 ∧ ed.length ≤ 60) ∧ es.all isD64 = true ∧ ed.all isD64 = true then some (.sl .ro cI (bins (bitsL ed) (bitsL es))) else none
  | _ => none
def xs (f : Nat) (l : List V) : Option V := if f = 16 then srtX l else if f = 21 then binX l else if f = 22 then binX l else xf f l
theorem srtX_ok {l : List V} {r : V} (h : srtX l = some r) : CallOK Try.prog 16 l r := by
  unfold srtX at h
  split at h
  · split at h
    · rename_i sh es hc
      obtain ⟨rfl, h2, h3⟩ := hc
      cases h
      have := rsort_ok (bitsL es) (by rw [bits_len]; exact h2)
      rw [fl_bits h3, bits_len] at this
      exact this
    · cases h
  · cases h
theorem binX_ok {l : List V} {r : V} (h : binX l = some r) : CallOK Try.prog 21 l r ∧ CallOK Try.prog 22 l r := by
  unfold binX at h
  split at h
  · split at h
    · rename_i sh es sh' ed hc
      obtain ⟨⟨rfl, rfl⟩, ⟨h2, h3⟩, h4, h5⟩ := hc
      cases h
      have a1 := binsg_ok (bitsL ed) (bitsL es) (by rw [bits_len]; exact h2) (by rw [bits_len]; exact h3)
      have a2 := binsr_ok (bitsL ed) (bitsL es) (by rw [bits_len]; exact h2) (by rw [bits_len]; exact h3)
      rw [fl_bits h4, fl_bits h5] at a1 a2
      exact ⟨a1, a2⟩
    · cases h
  · cases h
theorem xs_ok : ∀ f l r, xs f l = some r → ∀ w, CallX Try.prog w f l r := by
  intro f l r h w
  unfold xs at h
  split at h
  · rename_i e; subst e; exact .plain (mutq_no l rfl) (.inl ((srtX_ok h).at w))
  · split at h
    · rename_i e; subst e; exact .plain (mutq_no l rfl) (.inl ((binX_ok h).1.at w))
    · split at h
      · rename_i e; subst e; exact .plain (mutq_no l rfl) (.inl ((binX_ok h).2.at w))
      · exact xf_ok f l r h w
theorem xf_none (l : List V) : xf 16 l = none ∧ xf 21 l = none ∧ xf 22 l = none := ⟨rfl, rfl, rfl⟩
theorem xs_xf : ∀ g l r, xf g l = some r → xs g l = some r := by
  intro g l r h
  unfold xs
  split
  · rename_i e; subst e; rw [(xf_none l).1] at h; cases h
  · split
    · rename_i e; subst e; rw [(xf_none l).2.1] at h; cases h
    · split
      · rename_i e; subst e; rw [(xf_none l).2.2] at h; cases h
      · exact h
theorem xs_new : ∀ g l, xf g l = none → xs g l ≠ none → env.ok g = false := by
  intro g l h h2
  unfold xs at h2
  split at h2
  · rename_i e; subst e; rfl
  · split at h2
    · rename_i e; subst e; rfl
    · split at h2
      · rename_i e; subst e; rfl
      · exact absurd h h2
theorem up_s {n f : Nat} {l : List V} {r : V} (h : evF Try.prog env xf n f l = some r) : evF Try.prog env xs n f l = some r := evF_mono xs_xf xs_new n f l r h
theorem xs_sound {k f : Nat} {l : List V} {r : V} (h : evF Try.prog env xs k f l = some r) (he : xs f l = none) (hm : mutq f l = false) : CallOK Try.prog f l r := (evF_soundX env_ok fns_ok xs_ok k f l r h).2 he hm
theorem binX_fl (l ed : List Nat) (hl : l.length ≤ 60) (hE : ed.length ≤ 60) : binX [.sl .ro cF (fl l), .sl .ro cF (fl ed)] = some (.sl .ro cI (bins ed l)) :=
  (if_pos ⟨⟨rfl, rfl⟩, ⟨by rw [fl_len]; exact hl, by rw [fl_len]; exact hE⟩, all_fl l, all_fl ed⟩).trans (by rw [bits_fl, bits_fl])
theorem srtX_fl (l : List Nat) (hl : l.length ≤ 60) : srtX [.sl .ro cF (fl l)] = some (.sl .ro cF (fl (rS l l.length))) :=
  (if_pos ⟨rfl, by rw [fl_len]; exact hl, all_fl l⟩).trans (by rw [bits_fl, fl_len])
theorem evF_ext {ext : Nat → List V → Option V} {n f : Nat} {l : List V} {r : V} (h : ext f l = some r) : evF Try.prog env ext (n + 1) f l = some r := by
  simp only [evF, h]
end Go.Proofs.Ytfmbchnejelpkaa.Ev
