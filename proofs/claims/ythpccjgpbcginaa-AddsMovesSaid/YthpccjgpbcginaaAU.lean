/- AddsUp's function, run, and its plain law. -/
import Derived.Test.YthpccjgpbcginaaBm
namespace Go.Proofs.Ythpccjgpbcginaa.Ev
open Go
attribute [local congr] ob_congr sq_congr cd_congr ite_congr1 iter_congr it1_congr jumps_congr
set_option maxRecDepth 100000
set_option linter.unusedSimpArgs false
set_option linter.unusedVariables false

def mostF (d : Nat → Int) (k : Nat) : Int := upto (fun k s => if d k = 4294967295 then s else (if d k > s then d k else s)) 0 k
theorem most_ge {d : Nat → Int} {j : Nat} (hf : d j ≠ 4294967295) : ∀ k, j < k → d j ≤ mostF d k
  | 0, h => by omega
  | k + 1, h => by
    have e : mostF d (k + 1) = if d k = 4294967295 then mostF d k else (if d k > mostF d k then d k else mostF d k) := rfl
    rw [e]
    by_cases hjk : j = k
    · subst hjk
      rw [if_neg hf]; split <;> omega
    · have := most_ge hf k (by omega)
      split
      · exact this
      · split <;> omega
def smTo (d p : Nat → Int) (root : Int) (L : List Int) (i : Nat) : Int := upto (fun i s => if L.getD i 0 = root then s else s + wV d p (L.getD i 0)) 0 i
theorem awake25_ev : evF Try.prog env noext 29 47 [] = some (.d (.s (.bool (true)))) := by kernel_rfl
structure UpOK (d p : Nat → Int) (root : Int) (j : Nat) : Prop where
  is : backOk d p root j = (d j != 4294967295)
  each : ∀ i : Nat, (h : i < (backL d p root j).length) → (backL d p root j)[i] ≠ root → wOk d p (backL d p root j)[i] = true ∧ 1 ≤ wV d p (backL d p root j)[i]
  sums : ∀ i : Nat, i ≤ (backL d p root j).length → 0 ≤ smTo d p root (backL d p root j) i ∧ smTo d p root (backL d p root j) i ≤ 4294967295
  ends : d j ≠ 4294967295 → smTo d p root (backL d p root j) (backL d p root j).length = d j ∧ d j ≤ (((backL d p root j).length : Int) - 1) * 65536 ∧ d j ≤ mostF d 16
  du : inU (d j)
theorem u64_in {x : Int} (h0 : 0 ≤ x) (h1 : x ≤ 18446744073709551615) : IntKind.u64.wrap x = x := IntWalk.u64_in _ ⟨h0, h1⟩
theorem way_get {p : Nat → Int} {j : Int} {n i : Nat} (h : i < (wayTo p j n).length) : (wayTo p j n)[i] = ch p j i := by simp [wayTo]
theorem adds_up {d p : Nat → Int} {root : Int} (hd : ∀ i, inU (d i)) (h : SndT d p root) {j : Nat} (hj : j < 16) : UpOK d p root j := by
  by_cases hf : d j = 4294967295
  · have e : backL d p root j = [] := backL_no fun ⟨n, _, _, h3, _⟩ => h3 (by rw [gd_of (right_of hj)]; simpa using hf)
    refine ⟨?_, fun i hi => ?_, fun i hi => ?_, fun q => absurd hf q, hd j⟩
    · unfold backOk; rw [e, hf]; rfl
    · rw [e] at hi; cases hi
    · rw [e] at hi
      have : i = 0 := by simpa using hi
      subst this
      exact ⟨Int.le_refl _, by show (0 : Int) ≤ _; omega⟩
  · obtain ⟨n, hn, hb, hroot, hne, hgood⟩ := h.back hd hj hf
    have step := h.step hd
    have wk : ∀ i, i < n → wOk d p (ch p j i) = true ∧ wV d p (ch p j i) = d (ch p j i).toNat - d (ch p j (i + 1)).toNat ∧ wV d p (ch p j i) ≤ 65536 ∧ 1 ≤ wV d p (ch p j i) := fun i hi => by
      obtain ⟨g1, g2⟩ := hgood i (by omega)
      obtain ⟨m, hm, em⟩ := right_eq g1
      obtain ⟨w1, w2, _⟩ := h.ok m hm (by rw [← em]; exact hne i hi) (by rw [em, Int.toNat_natCast] at g2; exact g2)
      rw [← em] at w1 w2
      obtain ⟨v1, v2, v3, v4, v5⟩ := wV_of hd w1
      rw [gd_of g1, gp_of g1] at v1
      rw [gd_of g1, gp_of g1] at v4
      exact ⟨w1, v1, w2, by rw [v1]; omega⟩
    have sm : ∀ i, i ≤ n → smTo d p root (wayTo p j n) i = d j - d (ch p j i).toNat ∧ d j - d (ch p j i).toNat ≤ i * 65536 := by
      intro i
      induction i with
      | zero => intro _; exact ⟨by show (0 : Int) = d j - d ((j : Int)).toNat; simp, by show d j - d ((j : Int)).toNat ≤ _; simp⟩
      | succ i ih =>
        intro hi
        obtain ⟨i1, i2⟩ := ih (by omega)
        obtain ⟨_, w2, w3, w4⟩ := wk i (by omega)
        have hlt : i < (wayTo p j n).length := by rw [wayTo_len]; omega
        have hgd : (wayTo p j n).getD i 0 = ch p j i := by
          rw [← way_get hlt]; simp [List.getD, List.getElem?_eq_getElem hlt]
        have e : smTo d p root (wayTo p j n) (i + 1) = if (wayTo p j n).getD i 0 = root then smTo d p root (wayTo p j n) i else smTo d p root (wayTo p j n) i + wV d p ((wayTo p j n).getD i 0) := rfl
        rw [e, hgd, if_neg (hne i (by omega)), i1, w2]
        constructor
        · omega
        · rw [w2] at w3; omega
    have last : smTo d p root (wayTo p j n) (n + 1) = smTo d p root (wayTo p j n) n := by
      have hlt : n < (wayTo p j n).length := by rw [wayTo_len]; omega
      have hgd : (wayTo p j n).getD n 0 = root := by
        rw [← hroot, ← way_get hlt]; simp [List.getD, List.getElem?_eq_getElem hlt]
      show (if (wayTo p j n).getD n 0 = root then _ else _) = _
      rw [if_pos hgd]; rfl
    have dz : d (ch p j n).toNat = 0 := by rw [hroot]; exact h.d0
    have du := hd j
    refine ⟨?_, fun i hi hr => ?_, fun i hi => ?_, fun _ => ?_, du⟩
    · have e1 : backOk d p root j = true := (backOk_iff _ _ _ _).2 (by rw [hb]; intro e; have := congrArg List.length e; rw [wayTo_len] at this; simp at this)
      rw [e1]; symm; simpa using hf
    · have hi' : i < (wayTo p j n).length := by rw [← hb]; exact hi
      have e : (backL d p root j)[i] = ch p j i := by simp only [hb, way_get]
      rw [e] at hr ⊢
      have : i < n := by
        rw [wayTo_len] at hi'
        rcases Nat.lt_or_ge i n with q | q
        · exact q
        · have : i = n := by omega
          subst this; exact absurd hroot hr
      exact ⟨(wk i this).1, (wk i this).2.2.2⟩
    · rw [hb] at hi ⊢
      rw [wayTo_len] at hi
      by_cases q : i ≤ n
      · obtain ⟨q1, q2⟩ := sm i q
        have := hd (ch p j i).toNat
        rw [q1]
        refine ⟨?_, by have := du.2; have := this; omega⟩
        have mono : ∀ i, i ≤ n → d (ch p j i).toNat ≤ d j := by
          intro i
          induction i with
          | zero => intro _; show d ((j : Int)).toNat ≤ _; simp
          | succ i ih => intro hi; have := ih (by omega); have w := wk i (by omega); rw [w.2.1] at w; omega
        have := mono i q; omega
      · have : i = n + 1 := by omega
        rw [this, last]
        obtain ⟨q1, q2⟩ := sm n (Nat.le_refl _)
        rw [q1, dz]; exact ⟨by have := du.1; omega, by have := du.2; omega⟩
    · rw [hb, wayTo_len, last]
      obtain ⟨q1, q2⟩ := sm n (Nat.le_refl _)
      rw [q1, dz]
      rw [dz] at q2
      exact ⟨by omega, by rw [show ((n + 1 : Nat) : Int) - 1 = n by omega]; omega, most_ge hf 16 hj⟩
end Go.Proofs.Ythpccjgpbcginaa.Ev
