/-
  A region that draws its order; code; functions: the evaluator's answer is the call's.
-/
import Derived.Test.YtjceimcepogkaaaGreatDoorEvU
import Derived.LoopN
import Derived.Scope
namespace Go.Proofs.YtjceimcepogkaaaGreatDoor.Ev
open Go Go.RowKit

section
variable {P : Program} {E : Env} {call : Nat → List V → Option V} {B : Nat} {w0 : World} {φ0 : Nat → Option Nat} {s s' : St} {a : Act} {w w' : World} {φ φ' : Nat → Option Nat}

def evIdx (E : Env) (call : Nat → List V → Option V) (ops : Array Oper) : List Nat → St → Option St
  | [], s => some s
  | i :: r, s =>
    match ops[i]? with
    | none => evIdx E call ops r s
    | some o => ob (evG E call ops.toList o s) fun s => evIdx E call ops r s

theorem evIdx_ops (ops : Array Oper) : ∀ (n k : Nat) (s : St), k + n = ops.size → evOps E call ops.toList (ops.toList.drop k) s = evIdx E call ops (List.range' k n) s
  | 0, k, s, h => by
    rw [List.drop_eq_nil_of_le (by simp; omega)]; rfl
  | n + 1, k, s, h => by
    have hk : k < ops.toList.length := by simp; omega
    rw [List.drop_eq_getElem_cons hk, List.range'_succ]
    simp only [evOps, evIdx]
    have : ops[k]? = some ops.toList[k] := by simp
    rw [this]
    simp only
    congr 1
    funext s
    exact evIdx_ops ops n (k + 1) s (by omega)

/-- The places that the operations of R will write are new. -/
def Clear (ops : Array Oper) (R : List Nat) (s : St) : Prop := ∀ i ∈ R, ∀ o, ops[i]? = some o → ∀ d, o.dst = some d → s.m d = none

theorem clearD_all : ∀ {ops : List Oper}, clearD s ops = true → ∀ o ∈ ops, ∀ d, o.dst = some d → s.m d = none
  | [], _, o, ho, _, _ => by cases ho
  | p :: r, h, o, ho, d, hd => by
    simp only [clearD] at h
    cases hp : p.dst with
    | none =>
      rw [hp] at h
      simp only at h
      rcases List.mem_cons.1 ho with rfl | ho
      · rw [hp] at hd; cases hd
      · exact clearD_all h o ho d hd
    | some e =>
      rw [hp] at h
      simp only at h
      cases hm : s.m e with
      | none =>
        rw [hm] at h
        simp only at h
        rcases List.mem_cons.1 ho with rfl | ho
        · rw [hp] at hd; cases hd; exact hm
        · exact clearD_all h o ho d hd
      | some b => rw [hm] at h; cases h

theorem upd_none {k d : Nat} {b : Bk} (h : s.m d = none) (hk : d ≠ k) : upd s.m k (some b) d = none := by rw [upd_ne _ _ hk]; exact h

theorem app_m {dst : Option Nat} {v : V} {b : Option Bk} {d : Nat} (hd : dst ≠ some d) (h : s.m d = none) : (s.app dst v b).m d = none := by
  cases dst with
  | none => exact h
  | some k =>
    cases b with
    | none => exact h
    | some b => exact upd_none h (fun e => hd (by rw [e]))

theorem evG_m {ops : List Oper} {o : Oper} (hg : evG E call ops o s = some s') {d : Nat} (hd : o.dst ≠ some d) (h : s.m d = none) : s'.m d = none := by
  by_cases he : eff o.op = true
  · have key : ∀ s'', evO E call o.dst o.type s o.op = some s'' → s''.m d = none := by
      intro s'' hx
      unfold evO at hx
      split at hx
      · split at hx
        · obtain ⟨x, _, hx⟩ := ob_eq_some hx
          obtain ⟨y, _, hx⟩ := ob_eq_some hx
          unfold evStore at hx
          split at hx
          · obtain ⟨ty, _, hx⟩ := ob_eq_some hx
            obtain ⟨b, hb, hx⟩ := ob_eq_some hx
            cases b with
            | row => cases hx
            | box z =>
              simp only at hx
              split at hx
              · cases hx
                exact upd_none h (fun e => by subst e; rw [h] at hb; cases hb)
              · cases hx
          · cases hx
        · cases hx
      · split at hx
        · rename_i x y t t' k _ _ hdst
          obtain ⟨x, _, hx⟩ := ob_eq_some hx
          obtain ⟨y, _, hx⟩ := ob_eq_some hx
          unfold evAppend at hx
          split at hx
          · obtain ⟨ty, _, hx⟩ := ob_eq_some hx
            split at hx
            · obtain ⟨te, _, hx⟩ := ob_eq_some hx
              split at hx
              · split at hx
                · split at hx
                  · cases hx; exact h
                  · cases hx; exact app_m (by rw [← hdst]; exact hd) h
                  · cases hx
                · cases hx
              · cases hx
            · cases hx
          · cases hx
        · cases hx
      · split at hx
        · unfold mutS at hx
          split at hx
          · rename_i hdst
            obtain ⟨x, _, hx⟩ := ob_eq_some hx
            obtain ⟨l, _, hx⟩ := ob_eq_some hx
            obtain ⟨o1, ho, hx⟩ := ob_eq_some hx
            cases o1 with
            | none =>
              simp only [mutN] at hx
              obtain ⟨v, _, hx⟩ := ob_eq_some hx
              cases hx
              exact app_m (by rw [← hdst]; exact hd) h
            | some s1 =>
              cases hx
              unfold evMut at ho
              split at ho
              · split at ho
                · obtain ⟨b, hb, ho⟩ := ob_eq_some ho
                  split at ho
                  · obtain ⟨rv, _, ho⟩ := ob_eq_some ho
                    split at ho
                    · split at ho
                      · cases ho
                        exact upd_none h (fun e => by subst e; rw [h] at hb; cases hb)
                      · cases ho
                    · cases ho
                  · cases ho
                · cases ho
              · split at ho
                · obtain ⟨rv, _, ho⟩ := ob_eq_some ho
                  split at ho
                  · split at ho
                    · cases ho; exact h
                    · cases ho
                  · cases ho
                · cases ho
              · cases ho
          · cases hx
        unfold plainS at hx
        split at hx
        · split at hx
          · obtain ⟨x, _, hx⟩ := ob_eq_some hx
            unfold evRev at hx
            split at hx
            · split at hx
              · cases hx; exact h
              · cases hx
            · cases hx
          · cases hx
        · obtain ⟨v, _, hx⟩ := ob_eq_some hx
          cases hx
          exact app_m hd h
      · obtain ⟨v, _, hx⟩ := ob_eq_some hx
        cases hx
        exact app_m hd h
    unfold evG at hg
    split at hg
    · exact key _ hg
    · split at hg
      · cases hg; exact app_m hd h
      · obtain ⟨b, _, hg⟩ := ob_eq_some hg
        cases b with
        | true => exact key _ hg
        | false => cases hg; exact app_m hd h
  · rw [evG_dlt (by simpa using he)] at hg
    obtain ⟨v, _, hg⟩ := ob_eq_some hg
    cases hg
    exact app_m hd h

/-- Two operations that do not meddle change places. -/
theorem evG_swap {ops : Array Oper} {x y : Oper} {s1 s2 : St} (hx : eff x.op = false) (hy : eff y.op = false) (hap : x.apart ops y = true) (hne : ∀ d, x.dst = some d → y.dst ≠ some d)
    (hw : WFp s) (cx : ∀ d, x.dst = some d → s.m d = none) (cy : ∀ d, y.dst = some d → s.m d = none)
    (h1 : evG E call ops.toList x s = some s1) (h2 : evG E call ops.toList y s1 = some s2) :
    ∃ s1', evG E call ops.toList y s = some s1' ∧ evG E call ops.toList x s1' = some s2 := by
  obtain ⟨ha, _, hc⟩ := Oper.apart_spec hap
  rw [evG_dlt hx] at h1
  obtain ⟨⟨v, b⟩, hv, h1⟩ := ob_eq_some h1
  cases h1
  rw [evG_dlt hy] at h2
  obtain ⟨⟨u, c⟩, hu, h2⟩ := ob_eq_some h2
  cases h2
  have al : ∀ (d : Option Nat) (v : V) (b : Option Bk) (o : Oper), (∀ k, d = some k → s.m k = none) → (∀ k, d = some k → k ∉ o.looksAt ops) →
      dlt E call ops.toList o (s.app d v b) = dlt E call ops.toList o s := by
    intro d v b o hd hl
    refine (dlt_alike fun i hi => ?_).symm
    cases d with
    | none => exact ⟨rfl, fun k _ => rfl⟩
    | some q =>
      have hiq : i ≠ q := fun e => hl q rfl (e ▸ hi)
      rw [app_clear (hd q rfl)]
      refine ⟨(upd_ne _ _ hiq).symm, fun k hk => ?_⟩
      have hkq : k ≠ q := fun e => by subst e; exact hw i k hk (hd k rfl)
      cases b with
      | none => rfl
      | some b => exact (upd_ne _ _ hkq).symm
  rw [al x.dst v b y cx ha] at hu
  refine ⟨s.app y.dst u c, ?_, ?_⟩
  · rw [evG_dlt hy, hu]; rfl
  · rw [evG_dlt hx, al y.dst u c x cy hc, hv]
    simp only [ob_some]
    rw [app_comm cx cy hne]

theorem evG_swapS {ops : Array Oper} {x y : Oper} {s1 s2 : St} {ty : TypeId} {a : Nat} {z : Operand} (hx : eff x.op = false) (hap : x.apart ops y = true) (hyo : y.op = .store ty (.tmp a) z) (hyg : y.guard = none) (hyd : y.dst = none)
    (hk : ∀ b, b ∈ rdSlots x.op → (s.t a).keyNe (s.t b) = true)
    (hw : WFp s) (cx : ∀ d, x.dst = some d → s.m d = none)
    (h1 : evG E call ops.toList x s = some s1) (h2 : evG E call ops.toList y s1 = some s2) :
    ∃ s1', evG E call ops.toList y s = some s1' ∧ evG E call ops.toList x s1' = some s2 := by
  obtain ⟨ha, _, hc⟩ := Oper.apart_spec hap
  rw [evG_dlt hx] at h1
  obtain ⟨⟨v, b⟩, hv, h1⟩ := ob_eq_some h1
  cases h1
  have yo : ∀ s, evG E call ops.toList y s = ob (opd E 0 s (.tmp a)) fun A => ob (opd E 0 s z) fun Z => evStore E s ty A Z := fun s => by
    obtain ⟨yd, yop, yt, yp, ya, yg⟩ := y
    simp only at hyo hyg hyd
    subst hyo hyg hyd
    rfl
  rw [yo] at h2
  have same : ∀ i, i ∈ y.looksAt ops → (s.app x.dst v b).t i = s.t i := fun i hi => by
    cases hd : x.dst with
    | none => rfl
    | some q =>
      have : i ≠ q := fun e => ha q hd (e ▸ hi)
      rw [app_clear (cx q hd)]; exact upd_ne _ _ this
  have la : a ∈ y.looksAt ops := looks_op (by rw [hyo]; simp [Op.operands])
  have oa : opd E 0 (s.app x.dst v b) (.tmp a) = opd E 0 s (.tmp a) := opd_alike ⟨fun i e => by cases e; exact same a la⟩
  have oz : opd E 0 (s.app x.dst v b) z = opd E 0 s z := opd_alike ⟨fun i e => same i (looks_op (by rw [hyo, e]; simp [Op.operands]))⟩
  rw [oa, oz] at h2
  obtain ⟨A, hA, h2⟩ := ob_eq_some h2
  obtain ⟨Z, hZ, h2⟩ := ob_eq_some h2
  simp only [opd] at hA
  cases hA
  unfold evStore at h2
  split at h2
  · rename_i k sh p u w' hta
    obtain ⟨te, hte, h2⟩ := ob_eq_some h2
    obtain ⟨bk, hbk, h2⟩ := ob_eq_some h2
    have hne : s.m k ≠ none := hw a k (by rw [hta]; simp [V.has])
    have hmk : ∀ q, x.dst = some q → q ≠ k := fun q hq e => hne (e ▸ cx q hq)
    have hm1 : (s.app x.dst v b).m k = s.m k := by
      cases hd : x.dst with
      | none => rfl
      | some q =>
        rw [app_clear (cx q hd)]
        cases b with
        | none => rfl
        | some b => exact upd_ne _ _ (Ne.symm (hmk q hd))
    cases bk with
    | row => cases h2
    | box y0 =>
      simp only at h2
      split at h2
      · rename_i hcond
        cases h2
        rw [hm1] at hbk
        refine ⟨⟨s.t, upd s.m k (some (.box (y0.set p w')))⟩, ?_, ?_⟩
        · rw [yo, hZ]
          simp only [opd, ob_some]
          unfold evStore
          rw [hta]
          simp only [hte, hbk, ob_some, hcond, and_self, if_true]
        · have hd2 : dlt E call ops.toList x ⟨s.t, upd s.m k (some (.box (y0.set p w')))⟩ = dlt E call ops.toList x s := by
            refine Eq.symm (dlt_alike' (s := s) (s' := ⟨s.t, upd s.m k (some (.box (y0.set p w')))⟩) (fun i _ => rfl) fun b hb k' hrk => ?_)
            have hkk := hk b hb
            rw [hta] at hkk
            have : k' ≠ k := fun e' => by
              subst e'
              cases htb : s.t b <;> simp_all [V.keyNe, V.rk]
            exact (upd_ne _ _ this).symm
          rw [evG_dlt hx, hd2, hv]
          simp only [ob_some]
          cases hd : x.dst with
          | none => rfl
          | some q =>
            have hq := cx q hd
            rw [app_clear hq, app_clear (s := ⟨s.t, _⟩) (d := q) (by show upd s.m k _ q = none; rw [upd_ne _ _ (hmk q hd)]; exact hq)]
            cases b with
            | none => rfl
            | some b => simp only [upd_comm s.m (hmk q hd)]
      · cases h2
  · cases h2

theorem evG_wfp {ops : List Oper} {o : Oper} (ho : eff o.op = false) (hw : WFp s) (cx : ∀ d, o.dst = some d → s.m d = none) (h : evG E call ops o s = some s') : WFp s' := by
  rw [evG_dlt ho] at h
  obtain ⟨⟨v, b⟩, hv, h⟩ := ob_eq_some h
  cases h
  exact app_wfp hw cx fun k' hk' => dlt_live hw hv hk'

/-- A slot that no operation of R writes is as it was. -/
theorem evG_t {ops : List Oper} {o : Oper} (hg : evG E call ops o s = some s') (ha : isApp o.op = false) {q : Nat} (hd : o.dst ≠ some q) (hc : ∀ d, o.dst = some d → s.m d = none) : s'.t q = s.t q := by
  have ap : ∀ (v : V) (b : Option Bk), (s.app o.dst v b).t q = s.t q := fun v b => by
    cases hk : o.dst with
    | none => rfl
    | some k => rw [app_clear (hc k hk)]; exact upd_ne _ _ (fun e => hd (by rw [hk, e]))
  by_cases he : eff o.op = true
  · have key : ∀ s'', evO E call o.dst o.type s o.op = some s'' → s''.t q = s.t q := by
      intro s'' hx
      unfold evO at hx
      split at hx
      · split at hx
        · obtain ⟨x, _, hx⟩ := ob_eq_some hx
          obtain ⟨y, _, hx⟩ := ob_eq_some hx
          unfold evStore at hx
          split at hx
          · obtain ⟨ty, _, hx⟩ := ob_eq_some hx
            obtain ⟨b, hb, hx⟩ := ob_eq_some hx
            cases b with
            | row => cases hx
            | box z =>
              simp only at hx
              split at hx
              · cases hx; rfl
              · cases hx
          · cases hx
        · cases hx
      · simp_all [isApp]
      · split at hx
        · simp_all [isApp]
        · obtain ⟨v, _, hx⟩ := ob_eq_some hx
          cases hx
          exact ap _ _
      · obtain ⟨v, _, hx⟩ := ob_eq_some hx
        cases hx
        exact ap _ _
    unfold evG at hg
    split at hg
    · exact key _ hg
    · split at hg
      · cases hg; exact ap _ _
      · obtain ⟨b, _, hg⟩ := ob_eq_some hg
        cases b with
        | true => exact key _ hg
        | false => cases hg; exact ap _ _
  · rw [evG_dlt (by simpa using he)] at hg
    obtain ⟨v, _, hg⟩ := ob_eq_some hg
    cases hg
    exact ap _ _

theorem evIdx_keep {ops : Array Oper} {q : Nat} (hap : ∀ (j : Nat) (z : Oper), ops[j]? = some z → isApp z.op = false) : ∀ (R : List Nat) (s : St) (sn : St), (∀ j ∈ R, ∀ z, ops[j]? = some z → z.dst ≠ some q) →
    (∀ j ∈ R, ∀ x, ops[j]? = some x → ∀ k ∈ R, ∀ z, ops[k]? = some z → j ≠ k → ∀ d, x.dst = some d → z.dst ≠ some d) → R.Nodup → Clear ops R s → evIdx E call ops R s = some sn → sn.t q = s.t q
  | [], s, sn, _, _, _, _, h => by simp only [evIdx] at h; cases h; rfl
  | j :: R, s, sn, hq, hdd, hnd, hc, h => by
    have hnd' := List.nodup_cons.1 hnd
    simp only [evIdx] at h
    cases hj : ops[j]? with
    | none =>
      rw [hj] at h
      exact evIdx_keep hap R s sn (fun k hk => hq k (by simp [hk])) (fun k hk x hx l hl => hdd k (by simp [hk]) x hx l (by simp [hl])) hnd'.2 (fun k hk => hc k (by simp [hk])) h
    | some x =>
      rw [hj] at h
      obtain ⟨s1, h1, h2⟩ := ob_eq_some h
      have e1 := evG_t h1 (hap j x hj) (hq j (by simp) x hj) (fun d hd => hc j (by simp) x hj d hd)
      rw [← e1]
      exact evIdx_keep hap R s1 sn (fun k hk => hq k (by simp [hk])) (fun k hk x hx l hl => hdd k (by simp [hk]) x hx l (by simp [hl])) hnd'.2
        (fun k hk z hz d hd => evG_m h1 (fun e => hdd j (by simp) x hj k (by simp [hk]) z hz (fun e' => by subst e'; exact hnd'.1 hk) d e hd) (hc k (by simp [hk]) z hz d hd)) h2

/-- What must hold of what stands ahead of the one that is ready: as to the region's last state sn. -/
structure Ahead (ops : Array Oper) (R : List Nat) (sn : St) (j : Nat) (x y : Oper) : Prop where
  ex : eff x.op = false
  ap : x.apart ops y = true
  ne : ∀ d, x.dst = some d → y.dst ≠ some d
  or : eff y.op = false ∨ ∃ ty a z, y.op = .store ty (.tmp a) z ∧ y.guard = none ∧ y.dst = none ∧ (∀ (q : Nat) (z : Oper), ops[q]? = some z → isApp z.op = false) ∧ (∀ q ∈ R, ∀ z, ops[q]? = some z → z.dst ≠ some a) ∧
    ∀ b, b ∈ rdSlots x.op → (sn.t a).keyNe (sn.t b) = true ∧ ∀ q ∈ R, j ≤ q → ∀ z, ops[q]? = some z → z.dst ≠ some b

theorem Ahead.sub {ops : Array Oper} {R R' : List Nat} {sn : St} {j : Nat} {x y : Oper} (h : Ahead ops R sn j x y) (hs : ∀ q ∈ R', q ∈ R) : Ahead ops R' sn j x y := by
  refine ⟨h.ex, h.ap, h.ne, ?_⟩
  rcases h.or with h1 | ⟨ty, a, z, h1, h2, h3, h4, h5, h6⟩
  · exact .inl h1
  · exact .inr ⟨ty, a, z, h1, h2, h3, h4, fun q hq => h5 q (hs q hq), fun b e => ⟨(h6 b e).1, fun q hq => (h6 b e).2 q (hs q hq)⟩⟩

theorem move_front {ops : Array Oper} {i : Nat} {y : Oper} (hi : ops[i]? = some y) : ∀ (R1 R2 : List Nat) (s : St) (sn : St),
    (∀ j ∈ R1, ∀ x, ops[j]? = some x → Ahead ops (R1 ++ i :: R2) sn j x y) →
    (∀ j ∈ R1 ++ i :: R2, ∀ x, ops[j]? = some x → ∀ k ∈ R1 ++ i :: R2, ∀ z, ops[k]? = some z → j ≠ k → ∀ d, x.dst = some d → z.dst ≠ some d) → (R1 ++ i :: R2).Pairwise (· < ·) →
    WFp s → Clear ops (R1 ++ i :: R2) s → evIdx E call ops (R1 ++ i :: R2) s = some sn → ∃ s', evG E call ops.toList y s = some s' ∧ evIdx E call ops (R1 ++ R2) s' = some sn
  | [], R2, s, sn, _, _, _, _, _, h => by
    simp only [List.nil_append, evIdx, hi] at h
    obtain ⟨s', h1, h2⟩ := ob_eq_some h
    exact ⟨s', h1, h2⟩
  | j :: R1, R2, s, sn, hind, hdd, hpw, hw, hc, h => by
    have hpw' := List.pairwise_cons.1 hpw
    have hnd : ((j :: R1) ++ i :: R2).Nodup := hpw.imp (fun h => Nat.ne_of_lt h)
    have hall := h
    simp only [List.cons_append, evIdx] at h
    cases hj : ops[j]? with
    | none =>
      rw [hj] at h
      simp only at h
      obtain ⟨s', h1, h2⟩ := move_front hi R1 R2 s sn (fun q hq x hx => (hind q (by simp [hq]) x hx).sub fun q hq => by simp only [List.cons_append, List.mem_cons]; exact .inr hq)
        (fun q hq x hx k hk => hdd q (by simp only [List.cons_append, List.mem_cons]; exact .inr hq) x hx k (by simp only [List.cons_append, List.mem_cons]; exact .inr hk)) hpw'.2 hw
        (fun q hq => hc q (by simp only [List.cons_append, List.mem_cons]; exact .inr hq)) h
      exact ⟨s', h1, by simp only [List.cons_append, evIdx, hj]; exact h2⟩
    | some x =>
      rw [hj] at h
      simp only at h
      obtain ⟨s1, h1, h2⟩ := ob_eq_some h
      have hA := hind j (by simp) x hj
      have cx : ∀ d, x.dst = some d → s.m d = none := fun d hd => hc j (by simp) x hj d hd
      have cy : ∀ d, y.dst = some d → s.m d = none := fun d hd => hc i (by simp) y hi d hd
      have hw1 := evG_wfp hA.ex hw cx h1
      obtain ⟨s2, h3, h4⟩ := move_front hi R1 R2 s1 sn (fun q hq x hx => (hind q (by simp [hq]) x hx).sub fun q hq => by simp only [List.cons_append, List.mem_cons]; exact .inr hq)
        (fun q hq x hx k hk => hdd q (by simp only [List.cons_append, List.mem_cons]; exact .inr hq) x hx k (by simp only [List.cons_append, List.mem_cons]; exact .inr hk)) hpw'.2 hw1
        (fun q hq z hz d hd => by
          refine evG_m h1 (fun e => ?_) (hc q (by simp only [List.cons_append, List.mem_cons]; exact .inr hq) z hz d hd)
          exact hdd j (by simp) x hj q (by simp only [List.cons_append, List.mem_cons]; exact .inr hq) z hz (fun e' => by subst e'; exact Nat.lt_irrefl _ (hpw'.1 _ hq)) d e hd) h2
      have sw : ∃ s1', evG E call ops.toList y s = some s1' ∧ evG E call ops.toList x s1' = some s2 := by
        rcases hA.or with ey | ⟨ty, a, z, g1, g2, g3, g4, g5, g6⟩
        · exact evG_swap hA.ex ey hA.ap hA.ne hw cx cy h1 h3
        · refine evG_swapS hA.ex hA.ap g1 g2 g3 (fun b e => ?_) hw cx h1 h3
          obtain ⟨k1, k2⟩ := g6 b e
          have ea := evIdx_keep (E := E) (call := call) (q := a) g4 (j :: R1 ++ i :: R2) s sn g5 hdd hnd hc hall
          have eb := evIdx_keep (E := E) (call := call) (q := b) g4 (j :: R1 ++ i :: R2) s sn (fun q hq => k2 q hq (by
            simp only [List.cons_append, List.mem_cons] at hq
            rcases hq with hq | hq
            · omega
            · exact Nat.le_of_lt (hpw'.1 q hq))) hdd hnd hc hall
          rw [← ea, ← eb]; exact k1
      obtain ⟨s1', h5, h6⟩ := sw
      exact ⟨s1', h5, by simp only [List.cons_append, evIdx, hj, h6, ob_some]; exact h4⟩
end
end Go.Proofs.YtjceimcepogkaaaGreatDoor.Ev
