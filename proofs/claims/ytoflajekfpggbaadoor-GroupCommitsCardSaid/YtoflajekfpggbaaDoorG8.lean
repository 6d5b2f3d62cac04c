/- What group.Commit and group.Fetch tell is what the page tells. -/
import Derived.Test.YtoflajekfpggbaaDoorG7
import Derived.Test.YtoflajekfpggbaaDoorP8
import Derived.Test.YtoflajekfpggbaaDoorP2
import Derived.Test.YtoflajekfpggbaaDoorP6
import Derived.Test.YtoflajekfpggbaaDoorP9
namespace Go.Proofs.YtoflajekfpggbaaDoor.P
open Go.RowKit Go.Proofs.YtoflajekfpggbaaDoorW.PrintWords Go.Proofs.YtoflajekfpggbaaDoorW.PrintLast Go.Proofs.YtoflajekfpggbaaDoorW.PrintMore
set_option linter.unusedSimpArgs false
set_option linter.unusedVariables false
def commitS (l : List SG) (g : SG) : List SG × Bool × Int :=
  if foundGroup l g (atG l g) = true then (if g.f2 ≤ (rd_T29 l (atG l g : Int)).f2 then (l, false, 0) else (l.set (atG l g) g, true, 0))
  else if 8 ≤ l.length then ([], false, 5) else (l.take (atG l g) ++ [g] ++ l.drop (atG l g), true, 0)
theorem atG_le (l : List SG) (g : SG) : atG l g ≤ l.length := (searchGroup_le l g l.length 0 l.length (Nat.zero_le _)).2
theorem gCommit_is (l : List SG) (hl : l.length ≤ 1000000) (g : SG) (k : Nat) (hk : 30 ≤ k) : group_Commit.f k l g.f0 g.f1 g.f2 = some (if (groupsS l && grpS g.f0 g.f1 g.f2) = true then commitS l g else ([], false, 1)) := by
  obtain ⟨k, rfl⟩ : ∃ q, k = q + 2 := ⟨k - 2, by omega⟩
  unfold group_Commit.f
  rw [gCheck_is l hl _ (by omega), Option.bind_some]
  cases hk : groupsS l with
  | false =>
    rw [if_neg (by decide), group_Commit.j0, if_pos rfl, if_neg (by simp)]
  | true =>
    rw [if_pos (show bad1 true = 0 from rfl), gmay_is, Option.bind_some, Bool.true_and, group_Commit.j0]
    cases hg : grpS g.f0 g.f1 g.f2 with
    | false => rw [if_pos (by decide), if_neg (by decide)]
    | true =>
      have h8 := (groups_of hk).small
      have hle := atG_le l g
      rw [if_neg (by decide), if_pos rfl]
      unfold api_Group_28.f api_Group_31.f
      rw [if_pos (by omega), if_pos (by omega)]
      simp only [Option.bind_some]
      change (if foundGroup l g (atG l g) = true then (if (0 : Int) ≤ (atG l g : Int) then (if (atG l g : Int) < (l.length : Int) then group_Commit.j1 (k + 1) l l (atG l g : Int) (foundGroup l g (atG l g)) (decide (g.f2 ≤ (rd_T29 l (atG l g : Int)).f2)) g.f0 g.f1 g.f2 else none) else none) else group_Commit.j1 (k + 1) l l (atG l g : Int) (foundGroup l g (atG l g)) false g.f0 g.f1 g.f2) = some (commitS l g)
      unfold commitS
      cases hf : foundGroup l g (atG l g) with
      | true =>
        have hlt : atG l g < l.length := by
          unfold foundGroup at hf
          simp only [Bool.and_eq_true, decide_eq_true_eq] at hf
          exact hf.1
        rw [if_pos rfl, if_pos (by omega), if_pos (by omega), if_pos rfl, group_Commit.j1]
        by_cases ho : g.f2 ≤ (rd_T29 l (atG l g : Int)).f2
        · rw [if_pos (decide_eq_true ho), if_pos ho]
        · rw [if_neg (by simpa using ho), if_neg ho, if_pos rfl, if_pos (by omega), if_pos (by omega)]
          rfl
      | false =>
        rw [if_neg (by decide), if_neg (by decide), group_Commit.j1, if_neg (by decide), if_neg (by decide)]
        by_cases h8' : 8 ≤ l.length
        · rw [if_pos (by omega), if_pos h8']
        · rw [if_neg (by omega), if_neg h8']
          unfold api_Group_32.f
          rw [if_pos ⟨by omega, by omega, rfl, by omega⟩]
          rfl
theorem CopyG_loop (l : List SG) (hl : l.length ≤ 1000000) : ∀ (n i k : Nat) (m : List SG), i + n = l.length → m = l.take i → n + 1 ≤ k → fairwayref0_CopyGroups.l0 k l m (i : Int) = some l := by
  intro n
  induction n with
  | zero =>
    intro i k m h hm hk
    obtain ⟨k, rfl⟩ : ∃ q, k = q + 1 := ⟨k - 1, by omega⟩
    rw [fairwayref0_CopyGroups.l0, if_neg (by omega), hm, List.take_of_length_le (by omega)]
  | succ n ih =>
    intro i k m h hm hk
    obtain ⟨k, rfl⟩ : ∃ q, k = q + 1 := ⟨k - 1, by omega⟩
    have hml : m.length = i := by rw [hm, List.length_take]; omega
    have e1 : wrap64 ((i : Int) + 1) = ((i + 1 : Nat) : Int) := by rw [wrap_small _ (by omega) (by omega)]; omega
    rw [fairwayref0_CopyGroups.l0, if_pos (by omega), if_pos (by omega), if_pos (by omega), rdG_at l i (by omega), e1]
    exact ih (i + 1) k _ (by omega) (by rw [hm, List.take_succ_eq_append_getElem (by omega)]) (by omega)
theorem CopyG_is (l : List SG) (hl : l.length ≤ 1000000) (k : Nat) (hk : l.length + 1 ≤ k) : fairwayref0_CopyGroups.f k l = some l := by
  unfold fairwayref0_CopyGroups.f
  exact CopyG_loop l hl l.length 0 k [] (by omega) (by simp) hk
theorem EqG_loop (l : List SG) (hl : l.length ≤ 3000000) : ∀ (n i k : Nat), i + n = l.length → n + 1 ≤ k → fairwayref0_EqGroups.l0 k l l (i : Int) = some true := by
  intro n
  induction n with
  | zero =>
    intro i k h hk
    obtain ⟨k, rfl⟩ : ∃ q, k = q + 1 := ⟨k - 1, by omega⟩
    rw [fairwayref0_EqGroups.l0, if_neg (by omega)]
  | succ n ih =>
    intro i k h hk
    obtain ⟨k, rfl⟩ : ∃ q, k = q + 1 := ⟨k - 1, by omega⟩
    have e1 : wrap64 ((i : Int) + 1) = ((i + 1 : Nat) : Int) := by rw [wrap_small _ (by omega) (by omega)]; omega
    rw [fairwayref0_EqGroups.l0, if_pos (by omega), if_pos (by omega), if_pos (by omega), e1]
    simp only [beq_self_eq_true, Bool.not_true, Bool.or_self, Bool.false_eq_true, if_false]
    exact ih (i + 1) k (by omega) (by omega)
theorem EqG_is (l : List SG) (hl : l.length ≤ 3000000) (k : Nat) (hk : l.length + 1 ≤ k) : fairwayref0_EqGroups.f k l l = some true := by
  unfold fairwayref0_EqGroups.f
  rw [if_pos rfl]
  exact EqG_loop l hl l.length 0 k (by omega) hk
theorem rCommit_loop (l : List SG) (h : GroupsP l) (g : SG) : ∀ (m i k : Nat), i + m = atG l g → m + 20 ≤ k → fairwayref17_Commit.l0 k l (i : Int) g.f0 g.f1 g.f2 = some (l.take (atG l g) ++ [g] ++ l.drop (atG l g), true, 0) := by
  obtain ⟨h1, h2, h3⟩ := atG_spec l h g
  have h8 := h.small
  intro m
  induction m with
  | zero =>
    intro i k hi hk
    obtain ⟨k, rfl⟩ : ∃ q, k = q + 1 := ⟨k - 1, by omega⟩
    have hcp : fairwayref0_CopyGroups.f k (l.take i) = some (l.take i) := CopyG_is _ (by rw [List.length_take]; omega) _ (by rw [List.length_take]; omega)
    have e : atG l g = i := by omega
    rw [fairwayref17_Commit.l0, e]
    by_cases hlt : i < l.length
    · have hb := h3 i hlt (by omega)
      rw [if_pos (by omega), if_pos (by omega), rdG_at l i hlt, below_is, Option.bind_some, hb, if_neg (by decide), if_pos (by omega), Int.toNat_natCast, hcp]
      simp only [Option.bind_some]
      rw [if_pos (by simp only [List.length_take, List.length_cons, List.length_nil]; omega), if_pos (by simp only [List.length_append, List.length_drop, List.length_take, List.length_cons, List.length_nil]; omega)]
    · rw [if_neg (by omega), if_pos (by omega), if_pos (by omega), Int.toNat_natCast, hcp]
      simp only [Option.bind_some]
      rw [if_pos (by simp only [List.length_take, List.length_cons, List.length_nil]; omega), if_pos (by simp only [List.length_append, List.length_drop, List.length_take, List.length_cons, List.length_nil]; omega)]
  | succ m ih =>
    intro i k hi hk
    obtain ⟨k, rfl⟩ : ∃ q, k = q + 1 := ⟨k - 1, by omega⟩
    have e1 : wrap64 ((i : Int) + 1) = ((i + 1 : Nat) : Int) := by rw [wrap_small _ (by omega) (by omega)]; omega
    rw [fairwayref17_Commit.l0, if_pos (by omega), if_pos (by omega), rdG_at l i (by omega), below_is, Option.bind_some, h2 i (by omega) (by omega), if_pos rfl, e1]
    exact ih (i + 1) k (by omega) (by omega)
theorem rCommit_is (l : List SG) (h : GroupsP l) (g : SG) (k : Nat) (hk : 40 ≤ k) : fairwayref17_Commit.f k l g.f0 g.f1 g.f2 = some (commitS l g) := by
  have h8 := h.small
  have hle := atG_le l g
  unfold fairwayref17_Commit.f commitS
  rw [rFetch_is l (by omega) g k (by omega), Option.bind_some, CopyG_is l (by omega) k (by omega), Option.bind_some, fetch_at l h g]
  cases hf : foundGroup l g (atG l g) with
  | true =>
    have hlt : atG l g < l.length := by
      unfold foundGroup at hf
      simp only [Bool.and_eq_true, decide_eq_true_eq] at hf
      exact hf.1
    rw [if_pos rfl, if_pos rfl, if_pos (by omega), if_pos (by omega), if_pos (by omega)]
    by_cases ho : g.f2 ≤ (rd_T29 l (atG l g : Int)).f2
    · rw [if_pos ho, if_pos ho]
    · rw [if_neg ho, if_neg (by omega), Int.toNat_natCast]
  | false =>
    simp only [Bool.false_eq_true, if_false]
    rw [if_neg (by decide)]
    by_cases h8' : 8 ≤ l.length
    · rw [if_pos (by omega), if_pos h8']
    · rw [if_neg (by omega), if_neg h8']
      exact rCommit_loop l h g (atG l g) 0 k (by omega) (by omega)
theorem gFetch_is (l : List SG) (hl : l.length ≤ 1000000) (n t : ByteArray) (k : Nat) (hk : 30 ≤ k) : group_Fetch.f k l n t = some (if groupsS l = true then (if foundGroup l ⟨n, t, 0⟩ (atG l ⟨n, t, 0⟩) = true then ((rd_T29 l (atG l ⟨n, t, 0⟩ : Int)).f2, 0) else (0, 3)) else (0, 1)) := by
  unfold group_Fetch.f
  rw [gCheck_is l hl _ (by omega), Option.bind_some]
  cases hk : groupsS l with
  | false =>
    rw [if_neg (by decide), if_neg (by decide)]; rfl
  | true =>
    have hle := atG_le l ⟨n, t, 0⟩
    rw [if_pos (show bad1 true = 0 from rfl), if_pos rfl]
    unfold api_Group_28.f
    rw [if_pos (by omega), Option.bind_some]
    change (if foundGroup l ⟨n, t, 0⟩ (atG l ⟨n, t, 0⟩) = true then (if (0 : Int) ≤ (atG l ⟨n, t, 0⟩ : Int) then (if (atG l ⟨n, t, 0⟩ : Int) < (l.length : Int) then some ((rd_T29 l (atG l ⟨n, t, 0⟩ : Int)).f2, (0 : Int)) else none) else none) else some (0, 3)) = _
    cases hf : foundGroup l ⟨n, t, 0⟩ (atG l ⟨n, t, 0⟩) with
    | true =>
      have hlt : atG l ⟨n, t, 0⟩ < l.length := by
        unfold foundGroup at hf
        simp only [Bool.and_eq_true, decide_eq_true_eq] at hf
        exact hf.1
      rw [if_pos rfl, if_pos (by omega), if_pos (by omega), if_pos rfl]
    | false => rw [if_neg (by decide), if_neg (by decide)]
theorem wakes17_is (k : Nat) (hk : 40 ≤ k) : fairwaylaw17_wakes.f k = some true := at_rounds fairwaylaw17_wakes.mono hk (by decide +kernel)
/-! weights -/
structure NiceG (r : SG) : Prop where
  h0 : r.f0.size ≤ 140737488351232
  h1 : r.f1.size ≤ 140737488351232
/-- A sum that stops once it is great. -/
theorem GW_loop (l : List SG) (hl : l.length ≤ 9223372036854775000) (hn : ∀ a ∈ l, NiceG a) : ∀ (m i : Nat) (v : Int) (k : Nat), (l.length : Int) ≤ v → v ≤ 9223372036854775807 → i ≤ l.length → (v < 1048576 → l.length ≤ i + m) → m + 1 ≤ k →
    ∃ u, fairwaylaw0_GroupsWeight.l0 k l v (i : Int) = some u ∧ v ≤ u ∧ (u < 1048576 ∨ v < 1048576 ∨ u = v) ∧ (v < 1048576 → u ≤ 1048576 + 281474976710656) ∧ (u < 1048576 → ∀ j, i ≤ j → (h : j < l.length) → ((l[j].f0.size : Int) + l[j].f1.size ≤ u)) := by
  intro m
  induction m with
  | zero =>
    intro i v k hv hv2 hi hm hk
    obtain ⟨k, rfl⟩ : ∃ q, k = q + 1 := ⟨k - 1, by omega⟩
    rw [fairwaylaw0_GroupsWeight.l0]
    by_cases h1 : (i : Int) < (l.length : Int)
    · have : ¬ v < 1048576 := fun h => by have := hm h; omega
      rw [if_pos h1, if_neg this]
      exact ⟨v, rfl, by omega, by omega, by omega, fun h => absurd h this⟩
    · rw [if_neg h1]
      exact ⟨v, rfl, by omega, by omega, by omega, fun _ j hj h => by omega⟩
  | succ m ih =>
    intro i v k hv hv2 hi hm hk
    obtain ⟨k, rfl⟩ : ∃ q, k = q + 1 := ⟨k - 1, by omega⟩
    rw [fairwaylaw0_GroupsWeight.l0]
    by_cases h1 : (i : Int) < (l.length : Int)
    · rw [if_pos h1]
      by_cases h2 : v < 1048576
      · have hx := hn l[i] (List.getElem_mem (by omega))
        have a0 := hx.h0
        have a1 := hx.h1
        rw [if_pos h2, if_pos (by omega), rdG_at l i (by omega), wrap_small (v + _) (by omega) (by omega), wrap_small _ (by omega) (by omega), wrap_small _ (by omega) (by omega)]
        obtain ⟨u, e, h3, h4, h5, h6⟩ := ih (i + 1) (v + (l[i].f0.size : Int) + (l[i].f1.size : Int)) k (by omega) (by omega) (by omega) (fun h => by have := hm h2; omega) (by omega)
        rw [show ((i + 1 : Nat) : Int) = (i : Int) + 1 by omega] at e
        refine ⟨u, e, by omega, by omega, fun _ => ?_, fun hu j hj hjl => ?_⟩
        · by_cases h6 : v + (l[i].f0.size : Int) + (l[i].f1.size : Int) < 1048576
          · exact h5 h6
          · rcases h4 with h | h | h <;> omega
        · by_cases hji : j = i
          · subst hji; omega
          · exact h6 hu j (by omega) hjl
      · rw [if_neg h2]
        exact ⟨v, rfl, by omega, by omega, by omega, fun h => absurd h h2⟩
    · rw [if_neg h1]
      exact ⟨v, rfl, by omega, by omega, by omega, fun _ j hj h => by omega⟩
theorem GW_is (l : List SG) (hl : l.length ≤ 3518437208880) (hn : ∀ a ∈ l, NiceG a) (k : Nat) (hk : 1048578 ≤ k) : ∃ u, fairwaylaw0_GroupsWeight.f k l = some u ∧ (l.length : Int) ≤ u ∧ u ≤ 300000000000000 ∧ (u < 1048576 → ∀ j, (h : j < l.length) → ((l[j].f0.size : Int) + l[j].f1.size ≤ u)) := by
  unfold fairwaylaw0_GroupsWeight.f
  obtain ⟨u, e, h1, h2, h3, h4⟩ := GW_loop l (by omega) hn 1048577 0 (l.length : Int) k (Int.le_refl _) (by omega) (by omega) (fun h => by omega) (by omega)
  refine ⟨u, e, h1, ?_, fun hu j hj => h4 hu j (Nat.zero_le _) hj⟩
  by_cases h : (l.length : Int) < 1048576
  · have := h3 h; omega
  · rcases h2 with h | h | h <;> omega
theorem rdS_at (l : List ByteArray) (i : Nat) (h : i < l.length) : rdOf ByteArray.empty l (i : Int) = l[i] := by unfold rdOf; simp [List.getElem?_eq_getElem h]
theorem TextWeight_loop (l : List ByteArray) (hl : l.length ≤ 9223372036854775000) (hn : ∀ a ∈ l, a.size ≤ 140737488351232) : ∀ (m i : Nat) (v : Int) (k : Nat), (l.length : Int) ≤ v → v ≤ 9223372036854775807 → i ≤ l.length → (v < 1048576 → l.length ≤ i + m) → m + 1 ≤ k →
    ∃ u, fairwaylaw0_TextWeight.l0 k l v (i : Int) = some u ∧ v ≤ u ∧ (u < 1048576 ∨ v < 1048576 ∨ u = v) ∧ (v < 1048576 → u ≤ 1048576 + 281474976710656) ∧ (u < 1048576 → ∀ j, i ≤ j → (h : j < l.length) → ((l[j].size : Int) ≤ u)) := by
  intro m
  induction m with
  | zero =>
    intro i v k hv hv2 hi hm hk
    obtain ⟨k, rfl⟩ : ∃ q, k = q + 1 := ⟨k - 1, by omega⟩
    rw [fairwaylaw0_TextWeight.l0]
    by_cases h1 : (i : Int) < (l.length : Int)
    · have : ¬ v < 1048576 := fun h => by have := hm h; omega
      rw [if_pos h1, if_neg this]
      exact ⟨v, rfl, by omega, by omega, by omega, fun h => absurd h this⟩
    · rw [if_neg h1]
      exact ⟨v, rfl, by omega, by omega, by omega, fun _ j hj h => by omega⟩
  | succ m ih =>
    intro i v k hv hv2 hi hm hk
    obtain ⟨k, rfl⟩ : ∃ q, k = q + 1 := ⟨k - 1, by omega⟩
    rw [fairwaylaw0_TextWeight.l0]
    by_cases h1 : (i : Int) < (l.length : Int)
    · rw [if_pos h1]
      by_cases h2 : v < 1048576
      · have a0 := hn l[i] (List.getElem_mem (by omega))
        rw [if_pos h2, if_pos (by omega), rdS_at l i (by omega), wrap_small (v + _) (by omega) (by omega), wrap_small _ (by omega) (by omega)]
        obtain ⟨u, e, h3, h4, h5, h6⟩ := ih (i + 1) (v + (l[i].size : Int)) k (by omega) (by omega) (by omega) (fun h => by have := hm h2; omega) (by omega)
        rw [show ((i + 1 : Nat) : Int) = (i : Int) + 1 by omega] at e
        refine ⟨u, e, by omega, by omega, fun _ => ?_, fun hu j hj hjl => ?_⟩
        · by_cases h6 : v + (l[i].size : Int) < 1048576
          · exact h5 h6
          · rcases h4 with h | h | h <;> omega
        · by_cases hji : j = i
          · subst hji; omega
          · exact h6 hu j (by omega) hjl
      · rw [if_neg h2]
        exact ⟨v, rfl, by omega, by omega, by omega, fun h => absurd h h2⟩
    · rw [if_neg h1]
      exact ⟨v, rfl, by omega, by omega, by omega, fun _ j hj h => by omega⟩
theorem TextWeight_is (l : List ByteArray) (hl : l.length ≤ 8796093022208) (hn : ∀ a ∈ l, a.size ≤ 140737488351232) (k : Nat) (hk : 1048578 ≤ k) : ∃ u, fairwaylaw0_TextWeight.f k l = some u ∧ (l.length : Int) ≤ u ∧ u ≤ 300000000000000 ∧ (u < 1048576 → ∀ j, (h : j < l.length) → ((l[j].size : Int) ≤ u)) := by
  unfold fairwaylaw0_TextWeight.f
  obtain ⟨u, e, h1, h2, h3, h4⟩ := TextWeight_loop l (by omega) hn 1048577 0 (l.length : Int) k (Int.le_refl _) (by omega) (by omega) (fun h => by omega) (by omega)
  refine ⟨u, e, h1, ?_, fun hu j hj => h4 hu j (Nat.zero_le _) hj⟩
  by_cases h : (l.length : Int) < 1048576
  · have := h3 h; omega
  · rcases h2 with h | h | h <;> omega
theorem heavy17_is (B L : List SG) (F : List ByteArray) (hB : B.length ≤ 3518437208880) (hL : L.length ≤ 3518437208880) (hF : F.length ≤ 8796093022208) (nB : ∀ a ∈ B, NiceG a) (nL : ∀ a ∈ L, NiceG a) (nF : ∀ a ∈ F, a.size ≤ 140737488351232) (k : Nat) (hk : 1048578 ≤ k) :
    ∃ b, fairwaylaw17_heavy.f k B L F = some b ∧ (b = false → B.length ≤ 8000 ∧ L.length ≤ 8000 ∧ F.length ≤ 8000 ∧ (∀ a ∈ B, a.f0.size ≤ 8000 ∧ a.f1.size ≤ 8000) ∧ (∀ a ∈ L, a.f0.size ≤ 8000 ∧ a.f1.size ≤ 8000) ∧ ∀ a ∈ F, a.size ≤ 8000) := by
  obtain ⟨u1, e1, a1, b1, c1⟩ := GW_is B hB nB k hk
  obtain ⟨u2, e2, a2, b2, c2⟩ := GW_is L hL nL k hk
  obtain ⟨u3, e3, a3, b3, c3⟩ := TextWeight_is F hF nF k hk
  unfold fairwaylaw17_heavy.f
  rw [e1, e2, e3]
  simp only [Option.bind_some]
  rw [wrap_small (u1 + u2) (by omega) (by omega), wrap_small _ (by omega) (by omega)]
  refine ⟨_, rfl, fun h => ?_⟩
  have h := of_decide_eq_false h
  refine ⟨by omega, by omega, by omega, fun a ha => ?_, fun a ha => ?_, fun a ha => ?_⟩
  · obtain ⟨q, hq, rfl⟩ := List.mem_iff_getElem.1 ha
    have := c1 (by omega) q hq; omega
  · obtain ⟨q, hq, rfl⟩ := List.mem_iff_getElem.1 ha
    have := c2 (by omega) q hq; omega
  · obtain ⟨q, hq, rfl⟩ := List.mem_iff_getElem.1 ha
    have := c3 (by omega) q hq; omega
end Go.Proofs.YtoflajekfpggbaaDoor.P
