/- The order of strings; rows that rise; where a search ends. No program in sight. -/
import Derived.Test.YtoflajekfpggbaaDoorHCmp
namespace Go.Proofs.YtoflajekfpggbaaDoor.P
open Go.RowKit Go.Proofs.YtoflajekfpggbaaDoorW.PrintWords Go.Proofs.YtoflajekfpggbaaDoorW.PrintLast Go.Proofs.YtoflajekfpggbaaDoorW.PrintMore
set_option linter.unusedSimpArgs false
set_option linter.unusedVariables false
theorem bl_irrefl : ∀ x : List UInt8, Op.bytesLess x x = false
  | [] => rfl
  | a :: x => by
    unfold Op.bytesLess
    rw [bl_irrefl x]
    simp
theorem bl_trans : ∀ x y z : List UInt8, Op.bytesLess x y = true → Op.bytesLess y z = true → Op.bytesLess x z = true
  | _, [], _, h, _ => by simp [Op.bytesLess] at h
  | _, _ :: _, [], _, h => by simp [Op.bytesLess] at h
  | [], _ :: _, _ :: _, _, _ => rfl
  | a :: x, b :: y, c :: z, h1, h2 => by
    unfold Op.bytesLess at h1 h2 ⊢
    simp only [Bool.or_eq_true, decide_eq_true_eq, Bool.and_eq_true, beq_iff_eq] at h1 h2 ⊢
    rcases h1 with h1 | ⟨rfl, h1⟩
    · rcases h2 with h2 | ⟨rfl, h2⟩
      · exact .inl (UInt8.lt_trans h1 h2)
      · exact .inl h1
    · rcases h2 with h2 | ⟨rfl, h2⟩
      · exact .inl h2
      · exact .inr ⟨rfl, bl_trans x y z h1 h2⟩
theorem bl_tri : ∀ x y : List UInt8, Op.bytesLess x y = false → Op.bytesLess y x = false → x = y
  | [], [], _, _ => rfl
  | [], _ :: _, h, _ => by simp [Op.bytesLess] at h
  | _ :: _, [], _, h => by simp [Op.bytesLess] at h
  | a :: x, b :: y, h1, h2 => by
    unfold Op.bytesLess at h1 h2
    simp only [Bool.or_eq_false_iff, decide_eq_false_iff_not, Bool.and_eq_false_iff, beq_eq_false_iff_ne] at h1 h2
    have e : a = b := by
      have := h1.1
      have := h2.1
      exact UInt8.le_antisymm (UInt8.not_lt.1 (by assumption)) (UInt8.not_lt.1 h1.1)
    subst e
    rw [bl_tri x y (by rcases h1.2 with h | h; exact absurd rfl h; exact h) (by rcases h2.2 with h | h; exact absurd rfl h; exact h)]
theorem less_irrefl (x : ByteArray) : lessS x x = false := bl_irrefl _
theorem less_trans {x y z : ByteArray} (h1 : lessS x y = true) (h2 : lessS y z = true) : lessS x z = true := bl_trans _ _ _ h1 h2
theorem less_ne {x y : ByteArray} (h : lessS x y = true) : x.toList ≠ y.toList := by
  intro e
  unfold lessS at h
  rw [e, bl_irrefl] at h
  cases h

theorem less_tri {x y : ByteArray} (h1 : lessS x y = false) (h2 : lessS y x = false) : x.toList = y.toList := bl_tri _ _ h1 h2
theorem less_congr {x y x' y' : ByteArray} (hx : x.toList = x'.toList) (hy : y.toList = y'.toList) : lessS x y = lessS x' y' := by unfold lessS; rw [hx, hy]
theorem cmpS_lt (x y : ByteArray) : cmpS x y < 0 ↔ lessS x y = true := by
  unfold cmpS
  split
  · rename_i h; simp [h]
  · rename_i h
    split <;> simp [h]
theorem cmpS_zero (x y : ByteArray) : cmpS x y = 0 ↔ x.toList = y.toList := by
  unfold cmpS
  split
  · rename_i h
    have := less_ne h
    simp [this]
  · split
    · rename_i h; simp [h]
    · rename_i h; simp [h]
/-- Binary search over a question. -/
def srch (p : Nat → Bool) : Nat → Nat → Nat → Nat
  | 0, i, _ => i
  | k + 1, i, j => if i < j then (if p ((i + j) / 2) = true then srch p k ((i + j) / 2 + 1) j else srch p k i ((i + j) / 2)) else i
theorem srch_spec (p : Nat → Bool) (n : Nat) (hp : ∀ a b, a < b → b < n → p b = true → p a = true) : ∀ (k i j : Nat), i ≤ j → j ≤ n → j ≤ i + k → (∀ q, q < i → p q = true) → (∀ q, j ≤ q → q < n → p q = false) →
    i ≤ srch p k i j ∧ srch p k i j ≤ j ∧ (∀ q, q < srch p k i j → p q = true) ∧ (∀ q, srch p k i j ≤ q → q < n → p q = false) := by
  intro k
  induction k with
  | zero =>
    intro i j hij hj hk h1 h2
    obtain rfl : i = j := by omega
    exact ⟨Nat.le_refl _, Nat.le_refl _, h1, h2⟩
  | succ k ih =>
    intro i j hij hj hk h1 h2
    unfold srch
    by_cases hlt : i < j
    · rw [if_pos hlt]
      obtain ⟨m, hm⟩ : ∃ m, m = (i + j) / 2 := ⟨_, rfl⟩
      rw [← hm]
      have hm1 : i ≤ m := by omega
      have hm2 : m < j := by omega
      by_cases hc : p m = true
      · rw [if_pos hc]
        have := ih (m + 1) j (by omega) hj (by omega) (fun q hq => by
          by_cases e : q = m
          · rw [e]; exact hc
          · exact hp q m (by omega) (by omega) hc) h2
        exact ⟨by omega, this.2.1, this.2.2⟩
      · rw [if_neg hc]
        have := ih i m hm1 (by omega) (by omega) h1 (fun q hq hqn => by
          cases hx : p q with
          | false => rfl
          | true =>
            by_cases e : q = m
            · rw [e] at hx; exact absurd hx hc
            · exact absurd (hp m q (by omega) hqn hx) hc)
        exact ⟨this.1, by omega, this.2.2⟩
    · rw [if_neg hlt]
      obtain rfl : i = j := by omega
      exact ⟨Nat.le_refl _, Nat.le_refl _, h1, h2⟩
/-- A row that rises. -/
def Rising {α : Type} (lt : α → α → Bool) (l : List α) : Prop := ∀ j, (h : j + 1 < l.length) → lt (l[j]'(by omega)) l[j + 1] = true
theorem Rising.lt {α : Type} {lt : α → α → Bool} (tr : ∀ x y z, lt x y = true → lt y z = true → lt x z = true) {l : List α} (h : Rising lt l) (i j : Nat) (hij : i < j) (hj : j < l.length) : lt (l[i]'(by omega)) l[j] = true := by
  obtain ⟨d, rfl⟩ : ∃ d, j = i + 1 + d := ⟨j - i - 1, by omega⟩
  induction d with
  | zero => exact h i hj
  | succ d ih => exact tr _ _ _ (ih (by omega) (by omega)) (h (i + 1 + d) hj)
theorem Rising.question {α : Type} {lt : α → α → Bool} (tr : ∀ x y z, lt x y = true → lt y z = true → lt x z = true) {l : List α} (h : Rising lt l) (q : α → Bool) (hq : ∀ x y, lt x y = true → q y = true → q x = true) (a b : Nat) (hab : a < b) (hb : b < l.length) (hx : q l[b] = true) : q (l[a]'(by omega)) = true :=
  hq _ _ (h.lt tr a b hab hb) hx
end Go.Proofs.YtoflajekfpggbaaDoor.P
