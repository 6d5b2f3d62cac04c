/- Strings in order; lists kept in order. -/
import Derived.Test.YtnaeffgkdoanfaaDoorP4
import Derived.Test.YtnaeffgkdoanfaaDoorP6
import Derived.Test.YtnaeffgkdoanfaaDoorP3
import Derived.Test.YtnaeffgkdoanfaaDoorHPut
import Derived.Test.YtnaeffgkdoanfaaDoorS3
namespace Go.Proofs.YtnaeffgkdoanfaaDoor.P
open Go.RowKit Go.Proofs.YtnaeffgkdoanfaaDoorW.PrintWords Go.Proofs.YtnaeffgkdoanfaaDoorW.PrintLast Go.Proofs.YtnaeffgkdoanfaaDoorW.PrintMore
set_option linter.unusedSimpArgs false
set_option linter.unusedVariables false

theorem bl_irrefl : ∀ x : List UInt8, Op.bytesLess x x = false
  | [] => rfl
  | a :: x => by
    unfold Op.bytesLess
    rw [bl_irrefl x]
    simp
theorem bl_trans : ∀ x y z : List UInt8, Op.bytesLess x y = true → Op.bytesLess y z = true → Op.bytesLess x z = true
  | _, [], _, h, _ => by simp [Op.bytesLess] at h
  | _, _ :: _, [], _, h => by simp [Op.bytesLess] at h
  | [], _ :: _, _ :: _, _, _ => rfl
  | a :: x, b :: y, c :: z, h1, h2 => by
    unfold Op.bytesLess at h1 h2 ⊢
    simp only [Bool.or_eq_true, decide_eq_true_eq, Bool.and_eq_true, beq_iff_eq] at h1 h2 ⊢
    rcases h1 with h1 | ⟨rfl, h1⟩
    · rcases h2 with h2 | ⟨rfl, h2⟩
      · exact .inl (UInt8.lt_trans h1 h2)
      · exact .inl h1
    · rcases h2 with h2 | ⟨rfl, h2⟩
      · exact .inl h2
      · exact .inr ⟨rfl, bl_trans x y z h1 h2⟩
theorem bl_tri : ∀ x y : List UInt8, Op.bytesLess x y = false → Op.bytesLess y x = false → x = y
  | [], [], _, _ => rfl
  | [], _ :: _, h, _ => by simp [Op.bytesLess] at h
  | _ :: _, [], _, h => by simp [Op.bytesLess] at h
  | a :: x, b :: y, h1, h2 => by
    unfold Op.bytesLess at h1 h2
    simp only [Bool.or_eq_false_iff, decide_eq_false_iff_not, Bool.and_eq_false_iff, beq_eq_false_iff_ne] at h1 h2
    have e : a = b := by
      have := h1.1
      have := h2.1
      exact UInt8.le_antisymm (UInt8.not_lt.1 (by assumption)) (UInt8.not_lt.1 h1.1)
    subst e
    rw [bl_tri x y (by rcases h1.2 with h | h; exact absurd rfl h; exact h) (by rcases h2.2 with h | h; exact absurd rfl h; exact h)]
theorem less_irrefl (x : ByteArray) : lessS x x = false := bl_irrefl _
theorem less_trans {x y z : ByteArray} (h1 : lessS x y = true) (h2 : lessS y z = true) : lessS x z = true := bl_trans _ _ _ h1 h2
theorem less_ne {x y : ByteArray} (h : lessS x y = true) : x.toList ≠ y.toList := by
  intro e
  unfold lessS at h
  rw [e, bl_irrefl] at h
  cases h

theorem rd50_at (l : List S50) (i : Nat) (h : i < l.length) : rd_T50 l (i : Int) = l[i] := by
  unfold rd_T50
  simp [List.getElem?_eq_getElem h]
def retS (t b : ByteArray) (q m : Int) : Bool := decide (topicS t = 0) && (decide ((b.size : Int) ≤ 1024) && ((decide (q ≥ 0) && decide (q ≤ 2)) && (decide (m ≥ 0) && decide (m ≤ 1099511627776))))
theorem Num_is (a b : Int) : fairwayref0_Num.f a b = some (decide (a ≥ 0) && decide (a ≤ b)) := by
  unfold fairwayref0_Num.f
  by_cases h : a ≥ 0
  · rw [if_pos h, decide_eq_true h, Bool.true_and]
  · rw [if_neg h, decide_eq_false h, Bool.false_and]
theorem Ret_is (t b : ByteArray) (q m : Int) (k : Nat) (hk : 20000 ≤ k) : fairwayref17_Retained.f k t b q m = some (retS t b q m) := by
  unfold fairwayref17_Retained.f retS
  rw [Topic_is _ _ hk]
  simp only [Option.bind_some, Num_is]
  by_cases h1 : topicS t = 0
  · rw [if_pos h1, decide_eq_true h1, Bool.true_and]
    by_cases h2 : (b.size : Int) ≤ 1024
    · rw [if_pos h2, decide_eq_true h2, Bool.true_and]
      cases h3 : (decide (q ≥ 0) && decide (q ≤ 2)) with
      | true => simp
      | false => simp
    · rw [if_neg h2, decide_eq_false h2, Bool.false_and]
  · rw [if_neg h1, decide_eq_false h1, Bool.false_and]
theorem may_is (t b : ByteArray) (q m : Int) : stay_may.f t b q m = some (retS t b q m) := by
  unfold stay_may.f retS
  rw [nTopic_is]
  simp only [Option.bind_some]
  by_cases h1 : topicS t = 0
  · rw [if_pos h1, decide_eq_true h1, Bool.true_and]
    by_cases h2 : (b.size : Int) ≤ 1024
    · rw [if_pos h2, decide_eq_true h2, Bool.true_and]
      by_cases h3 : q ≥ 0
      · rw [if_pos h3, decide_eq_true h3, Bool.true_and]
        by_cases h4 : q ≤ 2
        · rw [if_pos h4, decide_eq_true h4, Bool.true_and]
          by_cases h5 : m ≥ 0
          · rw [if_pos h5, decide_eq_true h5, Bool.true_and]
          · rw [if_neg h5, decide_eq_false h5, Bool.false_and]
        · rw [if_neg h4, decide_eq_false h4, Bool.false_and]
      · rw [if_neg h3, decide_eq_false h3, Bool.false_and, Bool.false_and]
    · rw [if_neg h2, decide_eq_false h2, Bool.false_and]
  · rw [if_neg h1, decide_eq_false h1, Bool.false_and]

def okAt (l : List S50) (i : Nat) : Bool :=
  retS (rd_T50 l (i : Int)).f0 (rd_T50 l (i : Int)).f1 (rd_T50 l (i : Int)).f2 (rd_T50 l (i : Int)).f3 && (!decide ((rd_T50 l (i : Int)).f1.toList = []) && (decide (i = 0) || lessS (rd_T50 l ((i - 1 : Nat) : Int)).f0 (rd_T50 l (i : Int)).f0))
def allFrom (l : List S50) : Nat → Nat → Bool
  | 0, _ => true
  | m + 1, i => okAt l i && allFrom l m (i + 1)
def keptS (l : List S50) : Bool := allFrom l l.length 0 && decide (l.length ≤ 12)
theorem Kept_loop (l : List S50) (hl : l.length ≤ 1000000) : ∀ (m i k : Nat), i + m = l.length → 20001 + m ≤ k → fairwayref17_Kept.l0 k l (i : Int) = some (allFrom l m i && decide (l.length ≤ 12)) := by
  intro m
  induction m with
  | zero =>
    intro i k h hk
    obtain ⟨k, rfl⟩ : ∃ q, k = q + 1 := ⟨k - 1, by omega⟩
    rw [fairwayref17_Kept.l0, if_neg (by omega)]
    have e : decide ((l.length : Int) ≤ 12) = decide (l.length ≤ 12) := by simp only [decide_eq_decide]; omega
    rw [e]
    rfl
  | succ m ih =>
    intro i k h hk
    obtain ⟨k, rfl⟩ : ∃ q, k = q + 1 := ⟨k - 1, by omega⟩
    have e1 : wrap64 ((i : Int) + 1) = ((i + 1 : Nat) : Int) := by rw [wrap_small _ (by omega) (by omega)]; omega
    have hi := ih (i + 1) k (by omega) (by omega)
    rw [fairwayref17_Kept.l0, if_pos (by omega), if_pos (by omega), Ret_is _ _ _ _ _ (by omega), e1]
    simp only [Option.bind_some, allFrom, okAt]
    cases hr : retS (rd_T50 l (i : Int)).f0 (rd_T50 l (i : Int)).f1 (rd_T50 l (i : Int)).f2 (rd_T50 l (i : Int)).f3 with
    | false => simp
    | true =>
      rw [if_pos rfl]
      by_cases hb : (rd_T50 l (i : Int)).f1.toList = []
      · rw [if_pos hb, decide_eq_true hb]; simp
      · rw [if_neg hb, decide_eq_false hb]
        by_cases h0 : i = 0
        · subst h0
          rw [if_neg (by decide), hi]
          simp
        · have e2 : wrap64 ((i : Int) - 1) = ((i - 1 : Nat) : Int) := by rw [wrap_small _ (by omega) (by omega)]; omega
          rw [if_pos (by omega), e2, if_pos (by omega), if_pos (by omega), hi, decide_eq_false h0]
          change (if lessS _ _ = true then _ else _) = _
          cases hc : lessS (rd_T50 l ((i - 1 : Nat) : Int)).f0 (rd_T50 l (i : Int)).f0 with
          | true => simp
          | false => simp
theorem Kept_is (l : List S50) (hl : l.length ≤ 1000000) (k : Nat) (hk : 20001 + l.length ≤ k) : fairwayref17_Kept.f k l = some (keptS l) := by
  unfold fairwayref17_Kept.f keptS
  have := Kept_loop l hl l.length 0 k (by omega) hk
  exact this
def bad1 (b : Bool) : Int := match b with | true => 0 | false => 1
theorem Check_loop (l : List S50) (hl : l.length ≤ 1000000) : ∀ (m i k : Nat), i + m = l.length → 1 + m ≤ k → stay_Check.l0 k l l (l.length : Int) (i : Int) = some (bad1 (allFrom l m i)) := by
  intro m
  induction m with
  | zero =>
    intro i k h hk
    obtain ⟨k, rfl⟩ : ∃ q, k = q + 1 := ⟨k - 1, by omega⟩
    rw [stay_Check.l0, if_neg (by omega)]
    rfl
  | succ m ih =>
    intro i k h hk
    obtain ⟨k, rfl⟩ : ∃ q, k = q + 1 := ⟨k - 1, by omega⟩
    have e1 : wrap64 ((i : Int) + 1) = ((i + 1 : Nat) : Int) := by rw [wrap_small _ (by omega) (by omega)]; omega
    have hi := ih (i + 1) k (by omega) (by omega)
    rw [stay_Check.l0, if_pos (by omega), if_pos (by omega), if_pos (by omega), may_is, e1]
    simp only [Option.bind_some, allFrom, okAt]
    cases hr : retS (rd_T50 l (i : Int)).f0 (rd_T50 l (i : Int)).f1 (rd_T50 l (i : Int)).f2 (rd_T50 l (i : Int)).f3 with
    | false => simp [bad1]
    | true =>
      rw [if_pos rfl]
      by_cases hb : (rd_T50 l (i : Int)).f1.toList = []
      · rw [if_pos hb, decide_eq_true hb]; simp [bad1]
      · rw [if_neg hb, decide_eq_false hb]
        by_cases h0 : i = 0
        · subst h0
          rw [if_neg (by decide), hi]
          simp
        · have e2 : wrap64 ((i : Int) - 1) = ((i - 1 : Nat) : Int) := by rw [wrap_small _ (by omega) (by omega)]; omega
          rw [if_pos (by omega), e2, if_pos (by omega), if_pos (by omega), hi, decide_eq_false h0]
          change (if lessS _ _ = true then _ else _) = _
          cases hc : lessS (rd_T50 l ((i - 1 : Nat) : Int)).f0 (rd_T50 l (i : Int)).f0 with
          | true => simp
          | false => simp [bad1]
theorem sCheck_is (l : List S50) (hl : l.length ≤ 1000000) (k : Nat) (hk : 20 ≤ k) : stay_Check.f k l = some (bad1 (keptS l)) := by
  unfold stay_Check.f keptS
  by_cases h : (l.length : Int) > 12
  · rw [if_pos h, decide_eq_false (by omega), Bool.and_false]; rfl
  · rw [if_neg h, decide_eq_true (by omega), Bool.and_true]
    exact Check_loop l hl l.length 0 k (by omega) (by omega)

/-! what a kept list is -/
theorem allFrom_at (l : List S50) : ∀ (m i : Nat), allFrom l m i = true → ∀ j, i ≤ j → j < i + m → okAt l j = true := by
  intro m
  induction m with
  | zero => intro i _ j h1 h2; omega
  | succ m ih =>
    intro i h j h1 h2
    simp only [allFrom, Bool.and_eq_true] at h
    by_cases hj : j = i
    · subst hj; exact h.1
    · exact ih (i + 1) h.2 j (by omega) (by omega)
structure Kept (l : List S50) : Prop where
  small : l.length ≤ 12
  step : ∀ j, 0 < j → (h : j < l.length) → lessS (l[j - 1]'(by omega)).f0 l[j].f0 = true
theorem kept_of {l : List S50} (h : keptS l = true) : Kept l := by
  unfold keptS at h
  simp only [Bool.and_eq_true, decide_eq_true_eq] at h
  refine ⟨h.2, fun j h0 hj => ?_⟩
  have ho := allFrom_at l _ _ h.1 j (by omega) (by omega)
  unfold okAt at ho
  simp only [Bool.and_eq_true, Bool.or_eq_true, decide_eq_true_eq] at ho
  rcases ho.2.2 with h1 | h1
  · omega
  · rw [rd50_at l (j - 1) (by omega), rd50_at l j hj] at h1
    exact h1
theorem Kept.mono {l : List S50} (h : Kept l) : ∀ (d i : Nat) (hd : i + d + 1 < l.length), lessS (l[i]'(by omega)).f0 (l[i + d + 1]'hd).f0 = true := by
  intro d
  induction d with
  | zero =>
    intro i hd
    exact h.step (i + 1) (by omega) hd
  | succ d ih =>
    intro i hd
    have h1 := ih i (by omega)
    have h2 := h.step (i + (d + 1) + 1) (by omega) hd
    exact less_trans h1 h2
theorem Kept.lt {l : List S50} (h : Kept l) (i j : Nat) (hij : i < j) (hj : j < l.length) : lessS (l[i]'(by omega)).f0 l[j].f0 = true := by
  obtain ⟨d, rfl⟩ : ∃ d, j = i + d + 1 := ⟨j - i - 1, by omega⟩
  exact h.mono d i hj
/-- Where the search ends: ahead of it all are less, from it on none. -/
theorem search_spec (l : List S50) (t : ByteArray) (h : Kept l) : ∀ (k i j : Nat), i ≤ j → j ≤ l.length → j ≤ i + k →
    (∀ q, (hq : q < l.length) → q < i → lessS l[q].f0 t = true) → (∀ q, (hq : q < l.length) → j ≤ q → lessS l[q].f0 t = false) →
    (∀ q, (hq : q < l.length) → q < searchR l t k i j → lessS l[q].f0 t = true) ∧ (∀ q, (hq : q < l.length) → searchR l t k i j ≤ q → lessS l[q].f0 t = false) := by
  intro k
  induction k with
  | zero =>
    intro i j hij hj hk h1 h2
    obtain rfl : i = j := by omega
    exact ⟨h1, h2⟩
  | succ k ih =>
    intro i j hij hj hk h1 h2
    by_cases hlt : i < j
    · rw [searchR_lt _ _ _ _ _ hlt]
      obtain ⟨m, hm⟩ : ∃ m, m = (i + j) / 2 := ⟨_, rfl⟩
      rw [← hm]
      have hm1 : i ≤ m := by omega
      have hm2 : m < j := by omega
      rw [rd50_at l m (by omega)]
      by_cases hc : lessS l[m].f0 t = true
      · rw [if_pos hc]
        refine ih (m + 1) j (by omega) hj (by omega) (fun q hq hqm => ?_) h2
        by_cases hqe : q = m
        · subst hqe; exact hc
        · exact less_trans (h.lt q m (by omega) (by omega)) hc
      · rw [if_neg hc]
        refine ih i m (by omega) (by omega) (by omega) h1 (fun q hq hmq => ?_)
        by_cases hqe : q = m
        · subst hqe; simpa using hc
        · cases hx : lessS l[q].f0 t with
          | false => rfl
          | true => exact absurd (less_trans (h.lt m q (by omega) hq) hx) hc
    · have : searchR l t (k + 1) i j = i := by unfold searchR; rw [if_neg hlt]
      rw [this]
      obtain rfl : i = j := by omega
      exact ⟨h1, h2⟩
end Go.Proofs.YtnaeffgkdoanfaaDoor.P
