/-
  A region that draws its order; code; functions: the evaluator's answer is the call's.
-/
import Derived.Test.YthpccjgpbcginaaEvU
import Derived.LoopN
import Derived.Scope
namespace Go.Proofs.Ythpccjgpbcginaa.Ev
open Go Go.RowKit

section
variable {P : Program} {E : Env} {call : Nat → List V → Option V} {B : Nat} {w0 : World} {s s' : St} {a : Act} {w w' : World} {φ φ' : Nat → Option Nat}

def evIdx (E : Env) (call : Nat → List V → Option V) (ops : Array Oper) : List Nat → St → Option St
  | [], s => some s
  | i :: r, s =>
    match ops[i]? with
    | none => evIdx E call ops r s
    | some o => ob (evG E call ops.toList o s) fun s => evIdx E call ops r s

theorem evIdx_ops (ops : Array Oper) : ∀ (n k : Nat) (s : St), k + n = ops.size → evOps E call ops.toList (ops.toList.drop k) s = evIdx E call ops (List.range' k n) s
  | 0, k, s, h => by
    rw [List.drop_eq_nil_of_le (by simp; omega)]; rfl
  | n + 1, k, s, h => by
    have hk : k < ops.toList.length := by simp; omega
    rw [List.drop_eq_getElem_cons hk, List.range'_succ]
    simp only [evOps, evIdx]
    have : ops[k]? = some ops.toList[k] := by simp
    rw [this]
    simp only
    congr 1
    funext s
    exact evIdx_ops ops n (k + 1) s (by omega)

/-- The places that the operations of R will write are new. -/
def Clear (ops : Array Oper) (R : List Nat) (s : St) : Prop := ∀ i ∈ R, ∀ o, ops[i]? = some o → ∀ d, o.dst = some d → s.m d = none

theorem clearD_all : ∀ {ops : List Oper}, clearD s ops = true → ∀ o ∈ ops, ∀ d, o.dst = some d → s.m d = none
  | [], _, o, ho, _, _ => by cases ho
  | p :: r, h, o, ho, d, hd => by
    simp only [clearD] at h
    cases hp : p.dst with
    | none =>
      rw [hp] at h
      simp only at h
      rcases List.mem_cons.1 ho with rfl | ho
      · rw [hp] at hd; cases hd
      · exact clearD_all h o ho d hd
    | some e =>
      rw [hp] at h
      simp only at h
      cases hm : s.m e with
      | none =>
        rw [hm] at h
        simp only at h
        rcases List.mem_cons.1 ho with rfl | ho
        · rw [hp] at hd; cases hd; exact hm
        · exact clearD_all h o ho d hd
      | some b => rw [hm] at h; cases h

theorem upd_none {k d : Nat} {b : Bk} (h : s.m d = none) (hk : d ≠ k) : upd s.m k (some b) d = none := by rw [upd_ne _ _ hk]; exact h

theorem app_m {dst : Option Nat} {v : V} {b : Option Bk} {d : Nat} (hd : dst ≠ some d) (h : s.m d = none) : (s.app dst v b).m d = none := by
  cases dst with
  | none => exact h
  | some k =>
    cases b with
    | none => exact h
    | some b => exact upd_none h (fun e => hd (by rw [e]))

theorem evG_m {ops : List Oper} {o : Oper} (hg : evG E call ops o s = some s') {d : Nat} (hd : o.dst ≠ some d) (h : s.m d = none) : s'.m d = none := by
  by_cases he : eff o.op = true
  · have key : ∀ s'', evO E call o.dst o.type s o.op = some s'' → s''.m d = none := by
      intro s'' hx
      unfold evO at hx
      split at hx
      · split at hx
        · obtain ⟨x, _, hx⟩ := ob_eq_some hx
          obtain ⟨y, _, hx⟩ := ob_eq_some hx
          unfold evStore at hx
          split at hx
          · obtain ⟨ty, _, hx⟩ := ob_eq_some hx
            obtain ⟨b, hb, hx⟩ := ob_eq_some hx
            cases b with
            | row => cases hx
            | box z =>
              simp only at hx
              split at hx
              · cases hx
                exact upd_none h (fun e => by subst e; rw [h] at hb; cases hb)
              · cases hx
          · cases hx
        · cases hx
      · split at hx
        · rename_i x y t t' k _ _ hdst
          obtain ⟨x, _, hx⟩ := ob_eq_some hx
          obtain ⟨y, _, hx⟩ := ob_eq_some hx
          unfold evAppend at hx
          split at hx
          · obtain ⟨ty, _, hx⟩ := ob_eq_some hx
            split at hx
            · obtain ⟨te, _, hx⟩ := ob_eq_some hx
              split at hx
              · split at hx
                · split at hx
                  · cases hx; exact h
                  · cases hx; exact app_m (by rw [← hdst]; exact hd) h
                  · cases hx
                · cases hx
              · cases hx
            · cases hx
          · cases hx
        · cases hx
      · obtain ⟨v, _, hx⟩ := ob_eq_some hx
        cases hx
        exact app_m hd h
    unfold evG at hg
    split at hg
    · exact key _ hg
    · split at hg
      · cases hg; exact app_m hd h
      · obtain ⟨b, _, hg⟩ := ob_eq_some hg
        cases b with
        | true => exact key _ hg
        | false => cases hg; exact app_m hd h
  · rw [evG_dlt (by simpa using he)] at hg
    obtain ⟨v, _, hg⟩ := ob_eq_some hg
    cases hg
    exact app_m hd h

/-- Two operations that do not meddle change places. -/
theorem evG_swap {ops : Array Oper} {x y : Oper} {s1 s2 : St} (hx : eff x.op = false) (hy : eff y.op = false) (hap : x.apart ops y = true) (hne : ∀ d, x.dst = some d → y.dst ≠ some d)
    (hw : WFp s) (cx : ∀ d, x.dst = some d → s.m d = none) (cy : ∀ d, y.dst = some d → s.m d = none)
    (h1 : evG E call ops.toList x s = some s1) (h2 : evG E call ops.toList y s1 = some s2) :
    ∃ s1', evG E call ops.toList y s = some s1' ∧ evG E call ops.toList x s1' = some s2 := by
  obtain ⟨ha, _, hc⟩ := Oper.apart_spec hap
  rw [evG_dlt hx] at h1
  obtain ⟨⟨v, b⟩, hv, h1⟩ := ob_eq_some h1
  cases h1
  rw [evG_dlt hy] at h2
  obtain ⟨⟨u, c⟩, hu, h2⟩ := ob_eq_some h2
  cases h2
  have al : ∀ (d : Option Nat) (v : V) (b : Option Bk) (o : Oper), (∀ k, d = some k → s.m k = none) → (∀ k, d = some k → k ∉ o.looksAt ops) →
      dlt E call ops.toList o (s.app d v b) = dlt E call ops.toList o s := by
    intro d v b o hd hl
    refine (dlt_alike fun i hi => ?_).symm
    cases d with
    | none => exact ⟨rfl, fun k _ => rfl⟩
    | some q =>
      have hiq : i ≠ q := fun e => hl q rfl (e ▸ hi)
      rw [app_clear (hd q rfl)]
      refine ⟨(upd_ne _ _ hiq).symm, fun k hk => ?_⟩
      have hkq : k ≠ q := fun e => by subst e; exact hw i k hk (hd k rfl)
      cases b with
      | none => rfl
      | some b => exact (upd_ne _ _ hkq).symm
  rw [al x.dst v b y cx ha] at hu
  refine ⟨s.app y.dst u c, ?_, ?_⟩
  · rw [evG_dlt hy, hu]; rfl
  · rw [evG_dlt hx, al y.dst u c x cy hc, hv]
    simp only [ob_some]
    rw [app_comm cx cy hne]

theorem evG_wfp {ops : List Oper} {o : Oper} (ho : eff o.op = false) (hw : WFp s) (cx : ∀ d, o.dst = some d → s.m d = none) (h : evG E call ops o s = some s') : WFp s' := by
  rw [evG_dlt ho] at h
  obtain ⟨⟨v, b⟩, hv, h⟩ := ob_eq_some h
  cases h
  exact app_wfp hw cx fun k' hk' => dlt_live hw hv hk'

theorem move_front {ops : Array Oper} {i : Nat} {y : Oper} (hi : ops[i]? = some y) : ∀ (R1 R2 : List Nat) (s : St) (sn : St),
    (∀ j ∈ R1, ∀ x, ops[j]? = some x → eff x.op = false ∧ eff y.op = false ∧ x.apart ops y = true ∧ ∀ d, x.dst = some d → y.dst ≠ some d) →
    (∀ j ∈ R1, ∀ x, ops[j]? = some x → ∀ k ∈ R1, ∀ z, ops[k]? = some z → j ≠ k → ∀ d, x.dst = some d → z.dst ≠ some d) → R1.Nodup →
    WFp s → Clear ops (R1 ++ [i]) s → evIdx E call ops (R1 ++ i :: R2) s = some sn → ∃ s', evG E call ops.toList y s = some s' ∧ evIdx E call ops (R1 ++ R2) s' = some sn
  | [], R2, s, sn, _, _, _, _, _, h => by
    simp only [List.nil_append, evIdx, hi] at h
    obtain ⟨s', h1, h2⟩ := ob_eq_some h
    exact ⟨s', h1, h2⟩
  | j :: R1, R2, s, sn, hind, hdd, hnd, hw, hc, h => by
    have hnd' := List.nodup_cons.1 hnd
    simp only [List.cons_append, evIdx] at h
    cases hj : ops[j]? with
    | none =>
      rw [hj] at h
      simp only at h
      obtain ⟨s', h1, h2⟩ := move_front hi R1 R2 s sn (fun q hq => hind q (by simp [hq])) (fun q hq x hx k hk => hdd q (by simp [hq]) x hx k (by simp [hk])) hnd'.2 hw
        (fun q hq => hc q (by simp at hq ⊢; rcases hq with hq | hq; exact .inr (.inl hq); exact .inr (.inr hq))) h
      exact ⟨s', h1, by simp only [List.cons_append, evIdx, hj]; exact h2⟩
    | some x =>
      rw [hj] at h
      simp only at h
      obtain ⟨s1, h1, h2⟩ := ob_eq_some h
      obtain ⟨e1, e2, e3, e4⟩ := hind j (by simp) x hj
      have cx : ∀ d, x.dst = some d → s.m d = none := fun d hd => hc j (by simp) x hj d hd
      have cy : ∀ d, y.dst = some d → s.m d = none := fun d hd => hc i (by simp) y hi d hd
      have hw1 := evG_wfp e1 hw cx h1
      obtain ⟨s2, h3, h4⟩ := move_front hi R1 R2 s1 sn (fun q hq => hind q (by simp [hq])) (fun q hq x hx k hk => hdd q (by simp [hq]) x hx k (by simp [hk])) hnd'.2 hw1
        (fun q hq z hz d hd => by
          refine evG_m h1 (fun e => ?_) (hc q (by simp at hq ⊢; rcases hq with hq | hq; exact .inr (.inl hq); exact .inr (.inr hq)) z hz d hd)
          simp only [List.mem_append, List.mem_singleton] at hq
          rcases hq with hq | rfl
          · exact hdd j (by simp) x hj q (by simp [hq]) z hz (fun e' => by subst e'; exact hnd'.1 hq) d e hd
          · rw [hi] at hz; cases hz; exact e4 d e hd) h2
      obtain ⟨s1', h5, h6⟩ := evG_swap e1 e2 e3 e4 hw cx cy h1 h3
      exact ⟨s1', h5, by simp only [List.cons_append, evIdx, hj, h6, ob_some]; exact h4⟩
end
end Go.Proofs.Ythpccjgpbcginaa.Ev
