/- NodesBack, plainly: what is written is read, and what is read is written so. -/
import Derived.Test.YthpccjgpbcginaaTx
import Derived.Test.YthpccjgpbcginaaSu
import Derived.Test.YthpccjgpbcginaaWk
import Derived.Laws.RangeString
namespace Go.Proofs.Ythpccjgpbcginaa.Ev
open Go
set_option linter.unusedSimpArgs false
set_option linter.unusedVariables false

theorem bytesOf_get {l : List D} {i : Nat} {x : D} (h : l[i]? = some x) : ∃ hi : i < (bytesOf l).size, (bytesOf l)[i]'hi = byteOf x := by
  have hlt : i < l.length := (List.getElem?_eq_some_iff.1 h).1
  have hi : i < (bytesOf l).size := by rw [bytesOf_size]; exact hlt
  refine ⟨hi, ?_⟩
  show (bytesOf l).data[i]'_ = _
  have e : l[i] = x := by rw [List.getElem?_eq_getElem hlt] at h; exact Option.some.inj h
  simp [bytesOf, e]
theorem byte_let (m : Nat) (h : m < 16) : (byteOf (letD (m : Int))).toNat = m + 97 := by
  have : ∀ m, m < 16 → (byteOf (letD ((m : Nat) : Int))).toNat = m + 97 := by decide
  exact this m h
theorem byte_eq {c : UInt8} {m : Nat} (h : c.toNat = m + 97) (hm : m < 16) : c = byteOf (letD (m : Int)) := UInt8.toNat_inj.1 (by rw [h, byte_let m hm])
/-- Nodes that rise. -/
def Rise (lo : Int) : List Int → Prop
  | [] => True
  | x :: l => lo < x ∧ x < 16 ∧ Rise x l
def foldW (s : Int) (l : List Int) : Int := l.foldl withN s
def ends (s : Int) : Int × Int := if s = 0 then (0, 3) else (s, 0)
theorem dec_let {b : ByteArray} {pos : Nat} {m : Nat} (hp : pos < b.size) (hb : b[pos]'hp = byteOf (letD (m : Int))) (hm : m < 16) : Utf8.decode b pos = (m + 97, 1) := by
  have e := byte_let m hm
  rw [← hb] at e
  rw [decode_ascii b pos hp (by omega), e]
theorem go_read {b : ByteArray} {pre : List D} : ∀ (l : List Int) (pos n : Nat) (s : Int) (lo : Int), b = bytesOf (pre.take pos ++ lets l) → (pre.take pos).length = pos → l.length ≤ n → -1 ≤ lo → Rise lo l → parseGo b n pos s (lo + 97) = ends (foldW s l)
  | [], pos, n, s, lo, hb, hp, hn, h1, hr => by
    have hsz : ¬ pos < b.size := by rw [hb, bytesOf_size, List.length_append, hp]; simp [lets]
    cases n with
    | zero => rfl
    | succ n => rw [parseGo, if_neg hsz]; rfl
  | x :: l, pos, n, s, lo, hb, hp, hn, h1, hr => by
    obtain ⟨q1, q2, q3⟩ := hr
    obtain ⟨m, rfl⟩ : ∃ m : Nat, x = m := ⟨x.toNat, by omega⟩
    have hm : m < 16 := by omega
    cases n with
    | zero => simp at hn
    | succ n =>
      have hget : (pre.take pos ++ lets ((m : Int) :: l))[pos]? = some (letD (m : Int)) := by
        rw [List.getElem?_append_right (by omega), hp, Nat.sub_self]; rfl
      obtain ⟨hi, e⟩ := bytesOf_get hget
      have hdec : Utf8.decode b pos = (m + 97, 1) := by
        subst hb
        exact dec_let hi e hm
      have hsz : pos < b.size := by rw [hb]; exact hi
      rw [parseGo, if_pos hsz, hdec]
      have hc : ¬ (((m + 97 : Nat) : Int) ≤ lo + 97 ∨ (112 : Int) < ((m + 97 : Nat) : Int)) := by omega
      simp only [hc, if_false]
      have e2 : ((m + 97 : Nat) : Int) - 97 = (m : Int) := by omega
      have e3 : ((m + 97 : Nat) : Int) = (m : Int) + 97 := by omega
      rw [e2, e3]
      have hb2 : b = bytesOf ((pre.take pos ++ [letD (m : Int)]).take (pos + 1) ++ lets l) := by
        rw [List.take_of_length_le (by simp [hp]), hb]; simp [lets]
      have := go_read (pre := pre.take pos ++ [letD (m : Int)]) l (pos + 1) n (withN s m) m hb2 (by rw [List.take_of_length_le (by simp [hp])]; simp [hp]) (by simpa using hn) (by omega) q3
      rw [this]; rfl
theorem dec_back {b : ByteArray} {pos : Nat} (hp : pos < b.size) {m : Nat} (hm : m < 16) (h : (Utf8.decode b pos).1 = m + 97) : Utf8.decode b pos = (m + 97, 1) ∧ b[pos]'hp = byteOf (letD (m : Int)) := by
  have key : (b[pos]'hp).toNat < 128 := by
    refine Nat.lt_of_not_le fun hge => ?_
    have e : b.get! (pos + 0) = b[pos]'hp := by
      show b.get! pos = _
      simp [ByteArray.get!, getElem!_pos, hp]
      rfl
    have hgt : 128 ≤ (Utf8.decode b pos).1 := by
      unfold Utf8.decode
      simp only [e]
      rw [if_neg (by omega)]
      split
      · split
        · assumption
        · decide
      · split
        · split
          · rename_i hc
            simp only [Bool.and_eq_true, decide_eq_true_eq] at hc
            have := hc.1
            show 128 ≤ _
            omega
          · decide
        · split
          · split
            · rename_i hc
              simp only [Bool.and_eq_true, decide_eq_true_eq] at hc
              have := hc.1
              show 128 ≤ _
              omega
            · decide
          · decide
    omega
  have e := decode_ascii b pos hp key
  rw [e] at h ⊢
  have h : (b[pos]'hp).toNat = m + 97 := h
  exact ⟨by rw [h], byte_eq h hm⟩
theorem go_back {b : ByteArray} : ∀ (n pos : Nat) (s lo x : Int), b.size ≤ pos + n → pos ≤ b.size → -1 ≤ lo → parseGo b n pos s (lo + 97) = (x, 0) →
    ∃ l, Rise lo l ∧ x = foldW s l ∧ x ≠ 0 ∧ pos + l.length = b.size ∧ ∀ i y, l[i]? = some y → ∃ h : pos + i < b.size, b[pos + i]'h = byteOf (letD y)
  | n, pos, s, lo, x, hn, hp, h1, h => by
    by_cases hlt : pos < b.size
    · obtain ⟨n, rfl⟩ : ∃ m, n = m + 1 := ⟨n - 1, by omega⟩
      rw [parseGo, if_pos hlt] at h
      by_cases hc : (((Utf8.decode b pos).1 : Nat) : Int) ≤ lo + 97 ∨ (112 : Int) < (((Utf8.decode b pos).1 : Nat) : Int)
      · simp only [hc, if_true] at h
        cases h
      · simp only [hc, if_false] at h
        have hc1 : lo + 97 < (((Utf8.decode b pos).1 : Nat) : Int) := Int.not_le.1 fun q => hc (Or.inl q)
        have hc2 : (((Utf8.decode b pos).1 : Nat) : Int) ≤ 112 := Int.not_lt.1 fun q => hc (Or.inr q)
        obtain ⟨m, hm⟩ : ∃ m : Nat, (Utf8.decode b pos).1 = m + 97 := ⟨(Utf8.decode b pos).1 - 97, by omega⟩
        obtain ⟨e1, e2⟩ := dec_back hlt (m := m) (by omega) hm
        rw [e1] at h
        have e3 : ((m + 97 : Nat) : Int) - 97 = (m : Int) := by omega
        have e4 : ((m + 97 : Nat) : Int) = (m : Int) + 97 := by omega
        simp only [e4, Int.add_sub_cancel] at h
        have z1 : b.size ≤ pos + 1 + n := by omega
        have z2 : pos + 1 ≤ b.size := hlt
        have z3 : (-1 : Int) ≤ (m : Int) := by omega
        obtain ⟨l, q1, q2, q3, q4, q5⟩ := go_back n (pos + 1) (withN s m) m x z1 z2 z3 h
        refine ⟨(m : Int) :: l, ⟨by omega, by omega, q1⟩, q2, q3, by simp; omega, fun i y hy => ?_⟩
        cases i with
        | zero => simp at hy; subst hy; exact ⟨hlt, e2⟩
        | succ i =>
          obtain ⟨q6, q7⟩ := q5 i y (by simpa using hy)
          refine ⟨by omega, ?_⟩
          rw [← q7]
          congr 1
          omega
    · have he : ends s = (x, 0) := by
        cases n with
        | zero => exact h
        | succ n => rw [parseGo, if_neg hlt] at h; exact h
      unfold ends at he
      split at he
      · cases he
      · rename_i h0
        cases he
        exact ⟨[], trivial, rfl, h0, by simp; omega, fun i y hy => by simp at hy⟩
termination_by n => n
theorem has_foldW : ∀ (l : List Int) (s : Int), inI s → ∀ i, has (foldW s l) i = (has s i || (right i && decide (i ∈ l)))
  | [], s, hs, i => by simp [foldW]
  | x :: l, s, hs, i => by
    show has (foldW (withN s x) l) i = _
    rw [has_foldW l _ (inI_withN hs x) i, has_withN hs]
    by_cases h : i = x
    · subst h; cases has s i <;> cases right i <;> simp
    · cases has s i <;> cases right i <;> simp [h]
theorem inI_foldW : ∀ (l : List Int) (s : Int), inI s → inI (foldW s l)
  | [], s, hs => hs
  | x :: l, s, hs => inI_foldW l _ (inI_withN hs x)
theorem low_foldW : ∀ (l : List Int) (s : Int), (∀ i, 16 ≤ i → tb s i = false) → ∀ i, 16 ≤ i → tb (foldW s l) i = false
  | [], s, hs, i, hi => hs i hi
  | x :: l, s, hs, i, hi => low_foldW l (withN s x) (fun j hj => by
      rw [tb_withN, hs j hj]
      cases hr : right x with
      | false => rfl
      | true =>
        have := right_nn hr
        rw [Bool.false_or, Bool.true_and]
        exact decide_eq_false (by omega)) i hi
theorem rise_listTo (s : Int) : ∀ k, k ≤ 16 → ∀ lo : Int, lo < 0 → True := fun _ _ _ _ => trivial
theorem rise_snoc : ∀ (l : List Int) (lo x : Int), Rise lo l → lo < x → x < 16 → (∀ y ∈ l, y < x) → Rise lo (l ++ [x])
  | [], lo, x, _, h1, h2, _ => ⟨h1, h2, trivial⟩
  | y :: l, lo, x, ⟨q1, q2, q3⟩, h1, h2, h3 => ⟨q1, q2, rise_snoc l y x q3 (h3 y (by simp)) h2 fun z hz => h3 z (by simp [hz])⟩
theorem listTo_lt {s : Int} {k : Nat} {y : Int} (h : y ∈ listTo s k) : 0 ≤ y ∧ y < k := by
  unfold listTo at h
  rw [List.mem_map] at h
  obtain ⟨n, hn, rfl⟩ := h
  rw [List.mem_filter, List.mem_range] at hn
  omega
theorem rise_of (s : Int) : ∀ k, k ≤ 16 → Rise (-1) (listTo s k)
  | 0, _ => trivial
  | k + 1, h => by
    rw [listTo_succ]
    split
    · exact rise_snoc _ _ _ (rise_of s k (by omega)) (by omega) (by omega) fun y hy => (listTo_lt hy).2
    · exact rise_of s k (by omega)
theorem mem_listTo' {s : Int} {x : Int} : x ∈ listTo s 16 ↔ (right x = true ∧ has s x = true) := by
  unfold listTo
  rw [List.mem_map]
  constructor
  · rintro ⟨n, hn, rfl⟩
    rw [List.mem_filter, List.mem_range] at hn
    exact ⟨right_of hn.1, hn.2⟩
  · rintro ⟨h1, h2⟩
    obtain ⟨m, hm, rfl⟩ := right_eq h1
    exact ⟨m, by rw [List.mem_filter, List.mem_range]; exact ⟨hm, h2⟩, rfl⟩
theorem rise_gt : ∀ (l : List Int) (lo : Int), Rise lo l → ∀ y ∈ l, lo < y ∧ y < 16
  | [], _, _, y, hy => by cases hy
  | x :: l, lo, ⟨q1, q2, q3⟩, y, hy => by
    rcases List.mem_cons.1 hy with rfl | hy
    · exact ⟨q1, q2⟩
    · have := rise_gt l x q3 y hy; omega
/-- Two lists that rise and have the same nodes. -/
theorem rise_ext : ∀ (l m : List Int) (lo : Int), Rise lo l → Rise lo m → (∀ x, x ∈ l ↔ x ∈ m) → l = m
  | [], [], _, _, _, _ => rfl
  | [], y :: m, _, _, _, h => by have := (h y).2 (by simp); cases this
  | x :: l, [], _, _, _, h => by have := (h x).1 (by simp); cases this
  | x :: l, y :: m, lo, ⟨p1, p2, p3⟩, ⟨q1, q2, q3⟩, h => by
    have e : x = y := by
      rcases List.mem_cons.1 ((h x).1 (by simp)) with e | e
      · exact e
      · have h1 := (rise_gt m y q3 x e).1
        rcases List.mem_cons.1 ((h y).2 (by simp)) with e2 | e2
        · exact e2.symm
        · have h2 := (rise_gt l x p3 y e2).1; omega
    subst e
    rw [rise_ext l m x p3 q3 fun z => ?_]
    constructor
    · intro hz
      rcases List.mem_cons.1 ((h z).1 (by simp [hz])) with e | e
      · have := (rise_gt l x p3 z hz).1; omega
      · exact e
    · intro hz
      rcases List.mem_cons.1 ((h z).2 (by simp [hz])) with e | e
      · have := (rise_gt m x q3 z hz).1; omega
      · exact e
theorem low16 (s : Int) : ∀ i, 16 ≤ i → tb (bits .and .i64 s 65535) i = false := fun i hi => by
  rw [tb_and, tb_ones16, decide_eq_false (by omega), Bool.and_false]
theorem has_low (s : Int) (hs : inI s) {m : Nat} (hm : m < 16) : has (bits .and .i64 s 65535) m = has s m := by
  rw [has_nat (inI_bits _ _ _) hm, has_nat hs hm, tb_and, tb_ones16, decide_eq_true hm, Bool.and_true]
theorem fold_list (s : Int) (hs : inI s) : foldW 0 (listTo s 16) = bits .and .i64 s 65535 := by
  refine low_ext (inI_foldW _ _ inI_zero) (inI_bits _ _ _) (low_foldW _ _ fun i _ => tb_zero i) (low16 s) fun m hm => ?_
  rw [has_foldW _ _ inI_zero, has_zero, right_of hm, has_low s hs hm, Bool.false_or, Bool.true_and]
  rw [Bool.eq_iff_iff, decide_eq_true_eq, mem_listTo']
  exact ⟨fun h => h.2, fun h => ⟨right_of hm, h⟩⟩
theorem parse_text (s : Int) (hs : inI s) : parseF (textF s) = (bits .and .i64 s 65535, 0) := by
  by_cases h : listTo s 16 = []
  · have e : textF s = dotB := if_pos h
    rw [e, (low_zero hs).2 h]
    unfold parseF
    exact if_pos (beqB_refl dotB)
  · have e : textF s = bytesOf (lets (listTo s 16)) := if_neg h
    have nd : ¬ ((textF s) == (⟨#[46]⟩ : ByteArray)) = true := by
      intro q
      have q := eq_of_beqB q
      obtain ⟨x, l, hl⟩ := List.exists_cons_of_ne_nil h
      have hx : x ∈ listTo s 16 := by rw [hl]; simp
      obtain ⟨m, hm, rfl⟩ := right_eq (mem_listTo'.1 hx).1
      obtain ⟨hi, e2⟩ := bytesOf_get (l := lets (listTo s 16)) (i := 0) (x := letD (m : Int)) (by rw [hl]; rfl)
      have := byte_let m hm
      rw [← e2] at this
      rw [e] at q
      have h0 : (bytesOf (lets (listTo s 16)))[0]'hi = 46 := by
        have : ∀ (b : ByteArray) (hb : 0 < b.size), b = ⟨#[46]⟩ → b[0]'hb = 46 := by rintro b hb rfl; rfl
        exact this _ hi q
      rw [h0] at this
      have : (46 : UInt8).toNat = 46 := rfl
      omega
    unfold parseF
    rw [if_neg nd]
    have hlen : (textF s).size = (listTo s 16).length := by rw [e, bytesOf_size, lets_length]
    have := go_read (b := textF s) (pre := []) (listTo s 16) 0 (textF s).size 0 (-1) (by rw [e]; rfl) rfl (by omega) (by omega) (rise_of s 16 (Nat.le_refl _))
    rw [show (-1 : Int) + 97 = 96 from rfl] at this
    rw [this, fold_list s hs]
    unfold ends
    rw [if_neg fun q => h ((low_zero hs).1 q)]
theorem text_parse (b : ByteArray) {x : Int} (h : parseF b = (x, 0)) : textF x = b ∧ 0 ≤ x ∧ x ≤ 65535 := by
  unfold parseF at h
  by_cases hd : (b == (⟨#[46]⟩ : ByteArray)) = true
  · rw [if_pos hd] at h
    cases h
    rw [eq_of_beqB hd]
    exact ⟨rfl, by omega, by omega⟩
  · rw [if_neg hd] at h
    obtain ⟨l, q1, q2, q3, q4, q5⟩ := go_back b.size 0 0 (-1) x (by omega) (by omega) (by omega) h
    have hx : inI x := by rw [q2]; exact inI_foldW _ _ inI_zero
    have hlow : ∀ i, 16 ≤ i → tb x i = false := by rw [q2]; exact low_foldW _ _ fun i _ => tb_zero i
    have hh : ∀ i, has x i = (right i && decide (i ∈ l)) := fun i => by rw [q2, has_foldW _ _ inI_zero, has_zero, Bool.false_or]
    have el : listTo x 16 = l := by
      refine rise_ext _ _ (-1) (rise_of x 16 (Nat.le_refl _)) q1 fun y => ?_
      rw [mem_listTo', hh]
      constructor
      · rintro ⟨h1, h2⟩; simpa [h1] using h2
      · intro hy
        have := rise_gt l (-1) q1 y hy
        have hr : right y = true := by simp [right]; omega
        exact ⟨hr, by simp [hr, hy]⟩
    have hy : bits .and .i64 x 65535 = x := tb_ext (inI_bits _ _ _) hx fun i _ => by
      rw [tb_and, tb_ones16]
      by_cases hi : i < 16
      · rw [decide_eq_true hi, Bool.and_true]
      · rw [hlow i (by omega), Bool.false_and]
    obtain ⟨y, hy1, hy2, _⟩ := and_ffff hx
    rw [hy] at hy2
    refine ⟨?_, by omega, by omega⟩
    have hne : listTo x 16 ≠ [] := fun q => q3 (by rw [← hy]; exact (low_zero hx).2 q)
    unfold textF
    rw [if_neg hne, el]
    have hsz : (bytesOf (lets l)).size = b.size := by rw [bytesOf_size, lets_length]; omega
    obtain ⟨⟨bs⟩⟩ := b
    refine congrArg ByteArray.mk (Array.ext (by simpa [bytesOf, ByteArray.size] using hsz) fun i h1 h2 => ?_)
    have hil : i < l.length := by simpa [bytesOf, lets] using h1
    obtain ⟨q6, q7⟩ := q5 i l[i] (List.getElem?_eq_getElem hil)
    have q7 : (bs.toArray)[i]'h2 = byteOf (letD l[i]) := by
      have : ∀ (j : Nat) (hj : j < (ByteArray.mk bs.toArray).size), j = i → (ByteArray.mk bs.toArray)[j]'hj = (bs.toArray)[i]'h2 := by rintro j hj rfl; rfl
      rw [← this _ q6 (by omega)]; exact q7
    rw [q7]
    simp [lets]
theorem back_with (s : Int) (hs : inI s) {m : Nat} (hm : m < 16) : withN (withoutN s m) m = withN s m ∧ withoutN (withN s m) m = withoutN s m := by
  constructor
  · refine tb_ext (inI_withN (inI_withoutN hs _) _) (inI_withN hs _) fun i _ => ?_
    rw [tb_withN, tb_withN, tb_withoutN, right_of hm]
    cases tb s i <;> cases decide (i = (m : Int).toNat) <;> rfl
  · refine tb_ext (inI_withoutN (inI_withN hs _) _) (inI_withoutN hs _) fun i _ => ?_
    rw [tb_withoutN, tb_withN, tb_withoutN, right_of hm]
    cases tb s i <;> cases decide (i = (m : Int).toNat) <;> rfl
theorem has_back (s : Int) (hs : inI s) {m : Nat} (hm : m < 16) : has (withN s m) m = true ∧ has (withoutN s m) m = false := by
  rw [has_withN hs, has_withoutN hs, right_of hm]
  simp
theorem sum_at (f g : Nat → Int) (m : Nat) (hf : f m = g m + 1) (h : ∀ i, i ≠ m → f i = g i) : ∀ n, sumN f n = sumN g n + if m < n then 1 else 0
  | 0 => by rw [if_neg (by omega)]; rfl
  | n + 1 => by
    rw [sumN_succ, sumN_succ, sum_at f g m hf h n]
    by_cases e : n = m
    · subst e; rw [hf, if_neg (by omega), if_pos (by omega)]; omega
    · rw [h n e]
      by_cases q : m < n
      · rw [if_pos q, if_pos (by omega)]; omega
      · rw [if_neg q, if_neg (by omega)]; omega
theorem count_back (s : Int) (hs : inI s) {m : Nat} (hm : m < 16) : countF (withN s m) = countF (withoutN s m) + 1 := by
  obtain ⟨h1, h2⟩ := has_back s hs hm
  rw [countF_sum, countF_sum, sum_at (fun i => if has (withN s m) i = true then 1 else 0) (fun i => if has (withoutN s m) i = true then 1 else 0) m (by simp [h1, h2]) (fun i hi => by
    have e : has (withN s m) i = has (withoutN s m) i := by
      rw [has_withN hs, has_withoutN hs]
      have : ((i : Int) = (m : Int)) ↔ False := by simp; omega
      simp [this]
    simp only [e]) 16, if_pos hm]
end Go.Proofs.Ythpccjgpbcginaa.Ev
