/- TrailingZeros64, of the shelf: what it answers where its table lies. -/
import Derived.Test.YthpccjgpbcginaaDoorXo
import Derived.Test.YthpccjgpbcginaaDoorSb
import Derived.Shelf.Spec.TrailingZeros
import Derived.Shelf.Strconv.Itoa0
import Derived.Test.YthpccjgpbcginaaDoorEvN
namespace Go.Proofs.YthpccjgpbcginaaDoor.Ev
open Go
attribute [local congr] ob_congr sq_congr cd_congr ite_congr1 iter_congr it1_congr jumps_congr
set_option maxRecDepth 100000
set_option linter.unusedSimpArgs false
set_option linter.unusedVariables false
def tzRen : Go.Shelf.Ren := ⟨fun x => if x = 29 then 25 else x, fun x => if x = 25 then 29 else if x = 54 then 43 else if x = 22 then 22 else x, fun x => x⟩
set_option maxRecDepth 1000000 in
theorem tzLays : Go.Proofs.Lays7.n29 Tryd.prog tzRen where
  mixed := by rfl
  f29 := by rfl
  t0 := by rfl
  a0 := fun w => by rfl
  z0 := fun w => by rfl
  v0 := fun w => by rfl
  i0 := by rfl
  t3 := by rfl
  a3 := fun w => by rfl
  z3 := fun w => by rfl
  v3 := fun w => by rfl
  i3 := by rfl
  t4 := by rfl
  a4 := fun w => by rfl
  z4 := fun w => by rfl
  v4 := fun w => by rfl
  i4 := by rfl
  t5 := by rfl
  a5 := fun w => by rfl
  z5 := fun w => by rfl
  v5 := fun w => by rfl
  i5 := by rfl
  t22 := by rfl
  a22 := fun w => by rfl
  z22 := fun w => by rfl
  v22 := fun w => by rfl
  i22 := by rfl
  t25 := by rfl
  a25 := fun w => by rfl
  z25 := fun w => by rfl
  v25 := fun w => by rfl
  i25 := by rfl
  t54 := by rfl
  a54 := fun w => by rfl
  z54 := fun w => by rfl
  g1 := by kernel_rfl
def lnRen : Go.Shelf.Ren := ⟨fun x => if x = 129 then 28 else x, fun x => if x = 53 then 22 else if x = 46 then 29 else x, fun x => x⟩
set_option maxRecDepth 1000000 in
theorem lnLays : Go.Proofs.Lays.n129 Tryd.prog lnRen where
  mixed := by rfl
  f129 := by rfl
  t3 := by rfl
  a3 := fun w => by rfl
  z3 := fun w => by rfl
  v3 := fun w => by rfl
  t4 := by rfl
  a4 := fun w => by rfl
  z4 := fun w => by rfl
  v4 := fun w => by rfl
  t5 := by rfl
  a5 := fun w => by rfl
  z5 := fun w => by rfl
  v5 := fun w => by rfl
  t9 := by rfl
  a9 := fun w => by rfl
  z9 := fun w => by rfl
  v9 := fun w => by rfl
  t46 := by rfl
  a46 := fun w => by rfl
  z46 := fun w => by rfl
  v46 := fun w => by rfl
  t53 := by rfl
  a53 := fun w => by rfl
  z53 := fun w => by rfl
  v53 := fun w => by rfl
/-- The table lies in its variable. -/
def JZ (w : World) : Prop := ∃ cs T fr, w.heap[1]? = some (.cells cs T fr) ∧ ∀ j, j < 64 → cs[j]? = some (.int .u8 (Lib.deBruijn64tab.getD j 0))
theorem JZ_keep (w w' : World) (B : Nat) (hB : 2 ≤ B) (hb : Below B w w') (h : JZ w) : JZ w' := by
  obtain ⟨cs, T, fr, h1, h2⟩ := h
  exact ⟨cs, T, fr, by rw [hb.block 1 (by omega)]; exact h1, h2⟩
theorem JZ_tab {w : World} (h : JZ w) : TabAt 1 Lib.deBruijn64tab w := by
  obtain ⟨cs, T, fr, h1, h2⟩ := h
  intro j hj
  rw [cell_of_row w 1 j cs T fr h1]
  exact h2 j hj
def xz (f : Nat) (l : List V) : Option V :=
  match f, l with
  | 25, [.d (.s (.int .u64 n))] => if 0 ≤ n ∧ n < 18446744073709551616 then some (.d (.s (.int .i64 (((Lib.ctz 64 n.toNat : Nat) : Int))))) else none
  | 28, [.d (.s (.int .u64 n))] => if 0 ≤ n ∧ n < 18446744073709551616 then some (.d (.s (.int .i64 (((Lib.bitLen n.toNat : Nat) : Int))))) else none
  | f, l => xt f l
theorem xz_ok : ∀ f l r, xz f l = some r → ∀ w, JZ w → 2 ≤ w.heap.size → CallAt Tryd.prog w f l r := by
  intro f l r h w hw _
  unfold xz at h
  split at h
  · rename_i n
    split at h
    · rename_i hn
      cases h
      refine ⟨⟨Tryd.f25, Tryd.func25, by kernel_rfl, by kernel_rfl⟩, fun vs hra => ?_⟩
      cases vs with
      | nil => exact hra.elim
      | cons u us =>
        cases us with
        | cons => exact hra.2.elim
        | nil =>
          obtain ⟨⟨_, rfl⟩, _⟩ := hra
          have hc := Any7.bits_TrailingZeros64 tzLays n.toNat (by omega) w (fun _ => JZ_tab hw)
          rw [Int.toNat_of_nonneg hn.1] at hc
          refine Calls.mono hc fun e w' ⟨he, hw'⟩ => ?_
          subst hw'
          exact ⟨_, he, Below.refl _ _, rfl, rfl⟩
    · cases h
  · rename_i n
    split at h
    · rename_i hn
      cases h
      refine ⟨⟨Tryd.f28, Tryd.func28, by kernel_rfl, by kernel_rfl⟩, fun vs hra => ?_⟩
      cases vs with
      | nil => exact hra.elim
      | cons u us =>
        cases us with
        | cons => exact hra.2.elim
        | nil =>
          obtain ⟨⟨_, rfl⟩, _⟩ := hra
          refine Calls.mono (Any.bits_Len64 lnLays n w hn.1 (by omega)) fun e w' ⟨he, hw'⟩ => ?_
          subst hw'
          exact ⟨_, he, Below.refl _ _, rfl, rfl⟩
    · cases h
  · exact (xt_ok f l r h).at w
theorem xz_xt : ∀ g l r, xt g l = some r → xz g l = some r := by
  intro g l r h
  unfold xz
  split
  · have e : ∀ q, xt 25 q = none := fun _ => rfl
    rw [e] at h; cases h
  · have e : ∀ q, xt 28 q = none := fun _ => rfl
    rw [e] at h; cases h
  · exact h
theorem xz_new : ∀ g l, xt g l = none → xz g l ≠ none → env.ok g = false := by
  intro g l h h2
  unfold xz at h2
  split at h2
  · rfl
  · rfl
  · exact absurd h h2
theorem up_z {n f : Nat} {l : List V} {r : V} (h : evF Tryd.prog env xt n f l = some r) : evF Tryd.prog env xz n f l = some r := evF_mono xz_xt xz_new n f l r h
theorem xz_sound {k f : Nat} {l : List V} {r : V} (h : evF Tryd.prog env xz k f l = some r) (w : World) (hw : JZ w) (hs : 2 ≤ w.heap.size) : CallAt Tryd.prog w f l r :=
  evF_soundJ env_ok fns_ok (J := JZ) (B0 := 2) JZ_keep xz_ok k f l r h w hw hs
end Go.Proofs.YthpccjgpbcginaaDoor.Ev
