/- What the Stay laws share: copies, what is equal to itself, weights. -/
import Derived.Test.YtnaeffgkdoanfaaDoorS7
import Derived.Test.YtnaeffgkdoanfaaDoorP5
import Derived.Test.YtnaeffgkdoanfaaDoorP3
import Derived.Test.YtnaeffgkdoanfaaDoorP8
namespace Go.Proofs.YtnaeffgkdoanfaaDoor.P
open Go.RowKit Go.Proofs.YtnaeffgkdoanfaaDoorW.PrintWords Go.Proofs.YtnaeffgkdoanfaaDoorW.PrintLast Go.Proofs.YtnaeffgkdoanfaaDoorW.PrintMore
set_option linter.unusedSimpArgs false
set_option linter.unusedVariables false

theorem Copy_loop (l : List S50) (hl : l.length ≤ 1000000) : ∀ (n i k : Nat) (m : List S50), i + n = l.length → m = l.take i → n + 1 ≤ k → fairwayref0_CopyKept.l0 k l m (i : Int) = some l := by
  intro n
  induction n with
  | zero =>
    intro i k m h hm hk
    obtain ⟨k, rfl⟩ : ∃ q, k = q + 1 := ⟨k - 1, by omega⟩
    rw [fairwayref0_CopyKept.l0, if_neg (by omega), hm, List.take_of_length_le (by omega)]
  | succ n ih =>
    intro i k m h hm hk
    obtain ⟨k, rfl⟩ : ∃ q, k = q + 1 := ⟨k - 1, by omega⟩
    have hml : m.length = i := by rw [hm, List.length_take]; omega
    have e1 : wrap64 ((i : Int) + 1) = ((i + 1 : Nat) : Int) := by rw [wrap_small _ (by omega) (by omega)]; omega
    rw [fairwayref0_CopyKept.l0, if_pos (by omega), if_pos (by omega), if_pos (by omega), rd50_at l i (by omega), e1]
    exact ih (i + 1) k _ (by omega) (by rw [hm, List.take_succ_eq_append_getElem (by omega)]) (by omega)
theorem Copy_is (l : List S50) (hl : l.length ≤ 1000000) (k : Nat) (hk : l.length + 1 ≤ k) : fairwayref0_CopyKept.f k l = some l := by
  unfold fairwayref0_CopyKept.f
  have := Copy_loop l hl l.length 0 k [] (by omega) (by simp) hk
  exact this
theorem EqKept_loop (l : List S50) (hl : l.length ≤ 3000000) : ∀ (n i k : Nat), i + n = l.length → n + 1 ≤ k → fairwayref0_EqKept.l0 k l l (i : Int) = some true := by
  intro n
  induction n with
  | zero =>
    intro i k h hk
    obtain ⟨k, rfl⟩ : ∃ q, k = q + 1 := ⟨k - 1, by omega⟩
    rw [fairwayref0_EqKept.l0, if_neg (by omega)]
  | succ n ih =>
    intro i k h hk
    obtain ⟨k, rfl⟩ : ∃ q, k = q + 1 := ⟨k - 1, by omega⟩
    have e1 : wrap64 ((i : Int) + 1) = ((i + 1 : Nat) : Int) := by rw [wrap_small _ (by omega) (by omega)]; omega
    rw [fairwayref0_EqKept.l0, if_pos (by omega), if_pos (by omega), if_pos (by omega), e1]
    simp only [beq_self_eq_true, Bool.not_true, Bool.or_self, Bool.false_eq_true, if_false]
    exact ih (i + 1) k (by omega) (by omega)
theorem EqKept_is (l : List S50) (hl : l.length ≤ 3000000) (k : Nat) (hk : l.length + 1 ≤ k) : fairwayref0_EqKept.f k l l = some true := by
  unfold fairwayref0_EqKept.f
  rw [if_pos rfl]
  exact EqKept_loop l hl l.length 0 k (by omega) hk
theorem wakes18_is : fairwaylaw18_wakes.f = some true := by decide +kernel
/-- What the row's niceness gives of one that is kept. -/
structure Nice50 (r : S50) : Prop where
  h0 : r.f0.size ≤ 140737488351232
  h1 : r.f1.size ≤ 140737488351232
theorem KeptWeight_loop (l : List S50) (hl : l.length ≤ 9223372036854775000) (hn : ∀ a ∈ l, Nice50 a) : ∀ (m i : Nat) (v : Int) (k : Nat), (l.length : Int) ≤ v → v ≤ 9223372036854775807 → i ≤ l.length → (v < 1048576 → l.length ≤ i + m) → m + 1 ≤ k →
    ∃ u, fairwaylaw0_KeptWeight.l0 k l v (i : Int) = some u ∧ (l.length : Int) ≤ u ∧ (u < 1048576 ∨ v < 1048576 ∨ u = v) ∧ (v < 1048576 → u ≤ 1048576 + 281474976710656) := by
  intro m
  induction m with
  | zero =>
    intro i v k hv hv2 hi hm hk
    obtain ⟨k, rfl⟩ : ∃ q, k = q + 1 := ⟨k - 1, by omega⟩
    rw [fairwaylaw0_KeptWeight.l0]
    by_cases h1 : (i : Int) < (l.length : Int)
    · have : ¬ v < 1048576 := fun h => by have := hm h; omega
      rw [if_pos h1, if_neg this]
      exact ⟨v, rfl, hv, by omega, by omega⟩
    · rw [if_neg h1]
      exact ⟨v, rfl, hv, by omega, by omega⟩
  | succ m ih =>
    intro i v k hv hv2 hi hm hk
    obtain ⟨k, rfl⟩ : ∃ q, k = q + 1 := ⟨k - 1, by omega⟩
    rw [fairwaylaw0_KeptWeight.l0]
    by_cases h1 : (i : Int) < (l.length : Int)
    · rw [if_pos h1]
      by_cases h2 : v < 1048576
      · have hx := hn l[i] (List.getElem_mem (by omega))
        have a0 := hx.h0
        have a1 := hx.h1
        rw [if_pos h2, if_pos (by omega), rd50_at l i (by omega), wrap_small (v + _) (by omega) (by omega), wrap_small _ (by omega) (by omega), wrap_small _ (by omega) (by omega)]
        obtain ⟨u, e, h3, h4, h5⟩ := ih (i + 1) (v + (l[i].f0.size : Int) + (l[i].f1.size : Int)) k (by omega) (by omega) (by omega) (fun h => by have := hm h2; omega) (by omega)
        rw [show ((i + 1 : Nat) : Int) = (i : Int) + 1 by omega] at e
        refine ⟨u, e, h3, by omega, fun _ => ?_⟩
        by_cases h6 : v + (l[i].f0.size : Int) + (l[i].f1.size : Int) < 1048576
        · exact h5 h6
        · rcases h4 with h | h | h <;> omega
      · rw [if_neg h2]
        exact ⟨v, rfl, hv, by omega, by omega⟩
    · rw [if_neg h1]
      exact ⟨v, rfl, hv, by omega, by omega⟩
theorem KeptWeight_is (l : List S50) (hl : l.length ≤ 2932031007402) (hn : ∀ a ∈ l, Nice50 a) (k : Nat) (hk : 1048578 ≤ k) : ∃ u, fairwaylaw0_KeptWeight.f k l = some u ∧ (l.length : Int) ≤ u ∧ u ≤ 300000000000000 := by
  unfold fairwaylaw0_KeptWeight.f
  obtain ⟨u, e, h1, h2, h3⟩ := KeptWeight_loop l (by omega) hn 1048577 0 (l.length : Int) k (Int.le_refl _) (by omega) (by omega) (fun h => by omega) (by omega)
  refine ⟨u, e, h1, ?_⟩
  by_cases h : (l.length : Int) < 1048576
  · have := h3 h; omega
  · rcases h2 with h | h | h <;> omega
theorem TextWeight_loop (l : List ByteArray) (hl : l.length ≤ 9223372036854775000) (hn : ∀ a ∈ l, a.size ≤ 140737488351232) : ∀ (m i : Nat) (v : Int) (k : Nat), (l.length : Int) ≤ v → v ≤ 9223372036854775807 → i ≤ l.length → (v < 1048576 → l.length ≤ i + m) → m + 1 ≤ k →
    ∃ u, fairwaylaw0_TextWeight.l0 k l v (i : Int) = some u ∧ (l.length : Int) ≤ u ∧ (u < 1048576 ∨ v < 1048576 ∨ u = v) ∧ (v < 1048576 → u ≤ 1048576 + 281474976710656) := by
  intro m
  induction m with
  | zero =>
    intro i v k hv hv2 hi hm hk
    obtain ⟨k, rfl⟩ : ∃ q, k = q + 1 := ⟨k - 1, by omega⟩
    rw [fairwaylaw0_TextWeight.l0]
    by_cases h1 : (i : Int) < (l.length : Int)
    · have : ¬ v < 1048576 := fun h => by have := hm h; omega
      rw [if_pos h1, if_neg this]
      exact ⟨v, rfl, hv, by omega, by omega⟩
    · rw [if_neg h1]
      exact ⟨v, rfl, hv, by omega, by omega⟩
  | succ m ih =>
    intro i v k hv hv2 hi hm hk
    obtain ⟨k, rfl⟩ : ∃ q, k = q + 1 := ⟨k - 1, by omega⟩
    rw [fairwaylaw0_TextWeight.l0]
    by_cases h1 : (i : Int) < (l.length : Int)
    · rw [if_pos h1]
      by_cases h2 : v < 1048576
      · have a0 := hn l[i] (List.getElem_mem (by omega))
        have er : rdOf ByteArray.empty l (i : Int) = l[i] := by unfold rdOf; simp [List.getElem?_eq_getElem (show i < l.length by omega)]
        rw [if_pos h2, if_pos (by omega), er, wrap_small (v + _) (by omega) (by omega), wrap_small _ (by omega) (by omega)]
        obtain ⟨u, e, h3, h4, h5⟩ := ih (i + 1) (v + (l[i].size : Int)) k (by omega) (by omega) (by omega) (fun h => by have := hm h2; omega) (by omega)
        rw [show ((i + 1 : Nat) : Int) = (i : Int) + 1 by omega] at e
        refine ⟨u, e, h3, by omega, fun _ => ?_⟩
        by_cases h6 : v + (l[i].size : Int) < 1048576
        · exact h5 h6
        · rcases h4 with h | h | h <;> omega
      · rw [if_neg h2]
        exact ⟨v, rfl, hv, by omega, by omega⟩
    · rw [if_neg h1]
      exact ⟨v, rfl, hv, by omega, by omega⟩
theorem TextWeight_is (l : List ByteArray) (hl : l.length ≤ 8796093022208) (hn : ∀ a ∈ l, a.size ≤ 140737488351232) (k : Nat) (hk : 1048578 ≤ k) : ∃ u, fairwaylaw0_TextWeight.f k l = some u ∧ (l.length : Int) ≤ u ∧ u ≤ 300000000000000 := by
  unfold fairwaylaw0_TextWeight.f
  obtain ⟨u, e, h1, h2, h3⟩ := TextWeight_loop l (by omega) hn 1048577 0 (l.length : Int) k (Int.le_refl _) (by omega) (by omega) (fun h => by omega) (by omega)
  refine ⟨u, e, h1, ?_⟩
  by_cases h : (l.length : Int) < 1048576
  · have := h3 h; omega
  · rcases h2 with h | h | h <;> omega
theorem heavy18_is (B L : List S50) (F : List ByteArray) (hB : B.length ≤ 2932031007402) (hL : L.length ≤ 2932031007402) (hF : F.length ≤ 8796093022208) (nB : ∀ a ∈ B, Nice50 a) (nL : ∀ a ∈ L, Nice50 a) (nF : ∀ a ∈ F, a.size ≤ 140737488351232) (k : Nat) (hk : 1048578 ≤ k) :
    ∃ b, fairwaylaw18_heavy.f k B L F = some b ∧ (b = false → B.length ≤ 8000 ∧ L.length ≤ 8000 ∧ F.length ≤ 8000) := by
  obtain ⟨u1, e1, a1, b1⟩ := KeptWeight_is B hB nB k hk
  obtain ⟨u2, e2, a2, b2⟩ := KeptWeight_is L hL nL k hk
  obtain ⟨u3, e3, a3, b3⟩ := TextWeight_is F hF nF k hk
  unfold fairwaylaw18_heavy.f
  rw [e1, e2, e3]
  simp only [Option.bind_some]
  rw [wrap_small (u1 + u2) (by omega) (by omega), wrap_small _ (by omega) (by omega)]
  refine ⟨_, rfl, fun h => ?_⟩
  have := of_decide_eq_false h
  omega

end Go.Proofs.YtnaeffgkdoanfaaDoor.P
