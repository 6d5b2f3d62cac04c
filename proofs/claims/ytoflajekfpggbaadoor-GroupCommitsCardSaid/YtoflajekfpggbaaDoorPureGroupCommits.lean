/- Plain law: GroupCommits. -/
import Derived.Test.YtoflajekfpggbaaDoorP10
import Derived.Test.YtoflajekfpggbaaDoorG8
import Derived.Test.YtoflajekfpggbaaDoorOpensGroup
namespace Go.Proofs.YtoflajekfpggbaaDoor.P
open Go.RowKit Go.Proofs.YtoflajekfpggbaaDoorW.PrintWords Go.Proofs.YtoflajekfpggbaaDoorW.PrintLast Go.Proofs.YtoflajekfpggbaaDoorW.PrintMore
set_option linter.unusedSimpArgs false
set_option linter.unusedVariables false
/-- What came of a call is written over: the list that went in is as it was. -/
theorem over_loop (b : List SG) (hb : b.length ≤ 100000) (i : Int) (bad : Int) (want : List SG) (B L : List SG) (F : List ByteArray) (c : Nat)
    (next : ∀ k, c ≤ k → (if bad = 0 then (fairwayref0_CopyGroups.f k want).bind fun t => fairwaylaw17_GroupCommits.l0 k t (wrap64 (i + 1)) B L F else fairwaylaw17_GroupCommits.l0 k b (wrap64 (i + 1)) B L F) = some true) :
    ∀ (m j : Nat) (x : List SG), j + m = x.length → x.length ≤ 200000 → ∀ k, c + m + 1 ≤ k → b.length + m + 3 ≤ k → fairwaylaw17_GroupCommits.l1 k b i bad b x want (j : Int) B L F = some true := by
  intro m
  induction m with
  | zero =>
    intro j x hj hx k hk hk2
    obtain ⟨k, rfl⟩ : ∃ q, k = q + 1 := ⟨k - 1, by omega⟩
    rw [fairwaylaw17_GroupCommits.l1, if_neg (by omega), EqG_is b (by omega) k (by omega)]
    simp only [Option.bind_some, if_true]
    exact next k (by omega)
  | succ m ih =>
    intro j x hj hx k hk hk2
    obtain ⟨k, rfl⟩ : ∃ q, k = q + 1 := ⟨k - 1, by omega⟩
    have e1 : wrap64 ((j : Int) + 1) = ((j + 1 : Nat) : Int) := by rw [wrap_small _ (by omega) (by omega)]; omega
    rw [fairwaylaw17_GroupCommits.l1, if_pos (by omega), if_pos (by omega), e1]
    exact ih (j + 1) _ (by simp; omega) (by simp; omega) k (by omega) (by omega)
theorem commitS_length (l : List SG) (g : SG) : (commitS l g).1.length ≤ l.length + 1 := by
  have := atG_le l g
  unfold commitS
  split
  · split <;> simp
  · split
    · simp
    · simp only [List.length_append, List.length_take, List.length_drop, List.length_cons, List.length_nil]; omega
theorem commitS_mem (l : List SG) (g : SG) : ∀ x ∈ (commitS l g).1, x ∈ l ∨ x = g := by
  intro x hx
  unfold commitS at hx
  split at hx
  · split at hx
    · exact .inl hx
    · rcases List.mem_or_eq_of_mem_set hx with h | h
      · exact .inl h
      · exact .inr h
  · split at hx
    · simp at hx
    · simp only [List.mem_append, List.mem_singleton] at hx
      rcases hx with (h | h) | h
      · exact .inl (List.mem_of_mem_take h)
      · exact .inr h
      · exact .inl (List.mem_of_mem_drop h)
set_option maxRecDepth 20000 in
theorem GroupCommits_loop (B L : List SG) (F : List ByteArray) (hL : L.length ≤ 8000) (hLs : ∀ a ∈ L, a.f0.size ≤ 8000 ∧ a.f1.size ≤ 8000) : ∀ (m i : Nat) (b : List SG), i ≤ L.length → i ≤ 15 → 15 ≤ i + m → b.length ≤ 9000 + i → (∀ a ∈ b, a.f0.size ≤ 8000) → ∀ k, 14000000 + m * 60000 ≤ k → fairwaylaw17_GroupCommits.l0 k b (i : Int) B L F = some true := by
  intro m
  have stop : ∀ (i : Nat) (b : List SG) (k : Nat), i ≤ L.length → 15 ≤ i ∨ L.length ≤ i → 200 ≤ k → fairwaylaw17_GroupCommits.l0 k b (i : Int) B L F = some true := by
    intro i b k hi h hk
    obtain ⟨k, rfl⟩ : ∃ q, k = q + 2 := ⟨k - 2, by omega⟩
    have e : fairwaylaw17_GroupCommits.j1 (k + 1) b (i : Int) false B L F = some true := by
      rw [fairwaylaw17_GroupCommits.j1, if_neg (by decide), wakes17_is _ (by omega)]; rfl
    rw [fairwaylaw17_GroupCommits.l0]
    by_cases hlt : i < L.length
    · rw [if_pos (by omega), show decide ((i : Int) < 15) = false by simp; omega, e]
    · rw [if_neg (by omega), e]
  induction m with
  | zero => intro i b hi h15 hm hb hs k hk; exact stop i b k hi (.inl (by omega)) (by omega)
  | succ m ih =>
    intro i b hi h15 hm hb hs k hk
    by_cases hlt : i < L.length ∧ i < 15
    · obtain ⟨h1, h2⟩ := hlt
      obtain ⟨k, rfl⟩ : ∃ q, k = q + 8 := ⟨k - 8, by omega⟩
      obtain ⟨C, hC⟩ : ∃ C, C = 14000000 + m * 60000 := ⟨_, rfl⟩
      have ih : ∀ (i : Nat) (b : List SG), i ≤ L.length → i ≤ 15 → 15 ≤ i + m → b.length ≤ 9000 + i → (∀ a ∈ b, a.f0.size ≤ 8000) → ∀ k, C ≤ k → fairwaylaw17_GroupCommits.l0 k b (i : Int) B L F = some true := by rw [hC]; exact ih
      have hk : C + 60000 ≤ k + 8 := by omega
      have hC0 : 14000000 ≤ C := by omega
      clear hC
      have e1 : wrap64 ((i : Int) + 1) = ((i + 1 : Nat) : Int) := by rw [wrap_small _ (by omega) (by omega)]; omega
      have hsb : SmallG b := ⟨fun q hq => by have := hs _ (List.getElem_mem hq); omega⟩
      have hG := Groups_is b (by omega) hsb
      obtain ⟨g, hg⟩ : ∃ g, g = L[i] := ⟨_, rfl⟩
      have hgs : g.f0.size ≤ 8000 ∧ g.f1.size ≤ 8000 := by rw [hg]; exact hLs _ (List.getElem_mem h1)
      have hp := commitS_length b g
      have hcm := commitS_mem b g
      -- behind the code's call and the page's: the same answers
      have last : ∀ (x : List SG) (ch : Bool) (bad : Int) (q : Nat), x.length ≤ 20000 → (bad = 0 → x.length ≤ 9000 + (i + 1) ∧ ∀ a ∈ x, a.f0.size ≤ 8000) → C + 50000 ≤ q → fairwaylaw17_GroupCommits.j5 (q + 2) b (i : Int) bad b x ch bad x ch B L F = some true := by
        intro x ch bad q hx hw hq
        rw [fairwaylaw17_GroupCommits.j5]
        simp only [fairwaylaw17_num.f, Option.bind_some, if_true]
        rw [if_neg (by cases ch <;> decide), EqG_is x (by omega) _ (by omega)]
        simp only [Option.bind_some, if_true]
        rw [EqG_is b (by omega) _ (by omega)]
        simp only [Option.bind_some, Bool.not_true]
        rw [fairwaylaw17_GroupCommits.j6, if_neg (by decide)]
        have := over_loop b (by omega) (i : Int) bad x B L F (C + 20000) (fun k hk => by
          by_cases h0 : bad = 0
          · obtain ⟨hw1, hw2⟩ := hw h0
            rw [if_pos h0, CopyG_is x (by omega) k (by omega)]
            simp only [Option.bind_some]
            rw [e1]
            exact ih (i + 1) x (by omega) (by omega) (by omega) hw1 hw2 k (by omega)
          · rw [if_neg h0, e1]
            exact ih (i + 1) b (by omega) (by omega) (by omega) (by omega) hs k (by omega)) x.length 0 x (by omega) (by omega) q (by omega) (by omega)
        exact this
      rw [fairwaylaw17_GroupCommits.l0, if_pos (by omega), show decide ((i : Int) < 15) = true by simp; omega, fairwaylaw17_GroupCommits.j1, if_pos rfl, if_pos (by omega), if_pos (by omega), hG _ (by omega)]
      simp only [Option.bind_some]
      rw [rdG_at L i h1, ← hg, gFetch_is b (by omega) _ _ _ (by omega)]
      simp only [Option.bind_some]
      have j2ok : ∀ (n e : Int) (q : Nat), C + 56000 ≤ q → fairwaylaw17_GroupCommits.j2 (q + 1) b (i : Int) (groupsS b) n e e n B L F g.f0 g.f1 g.f2 = fairwaylaw17_GroupCommits.j3 q b (i : Int) (groupsS b) false B L F g.f0 g.f1 g.f2 := by
        intro n e q hq
        rw [fairwaylaw17_GroupCommits.j2, gCheck_is b (by omega) _ (by omega)]
        simp only [Option.bind_some, fairwaylaw17_num.f, if_true]
        have hk : ((bad1 (groupsS b) == 0) != groupsS b) = false := by cases groupsS b <;> rfl
        rw [hk, if_neg (by decide), show (n != n) = false by simp]
      have j3ok : ∀ q, C + 54000 ≤ q → fairwaylaw17_GroupCommits.j3 (q + 4) b (i : Int) (groupsS b) false B L F g.f0 g.f1 g.f2 = some true := by
        intro q hq
        rw [fairwaylaw17_GroupCommits.j3, if_neg (by decide), CopyG_is b (by omega) _ (by omega)]
        simp only [Option.bind_some]
        rw [gCommit_is b (by omega) g _ (by omega)]
        simp only [Option.bind_some]
        cases hgb : groupsS b with
        | false =>
          rw [if_neg (by decide), fairwaylaw17_GroupCommits.j4, if_neg (by decide), Bool.false_and, if_neg (by decide)]
          exact last [] false 1 q (by simp) (fun h => absurd h (by decide)) (by omega)
        | true =>
          rw [if_pos rfl, rGrp_is _ _ _ (by omega) _ (by omega)]
          simp only [Option.bind_some, Bool.true_and]
          cases hr : grpS g.f0 g.f1 g.f2 with
          | false =>
            rw [fairwaylaw17_GroupCommits.j4, if_neg (by decide), if_neg (by decide)]
            exact last [] false 1 q (by simp) (fun h => absurd h (by decide)) (by omega)
          | true =>
            rw [fairwaylaw17_GroupCommits.j4, if_pos rfl, rCommit_is b (groups_of hgb) g _ (by omega)]
            simp only [Option.bind_some, if_true]
            exact last (commitS b g).1 (commitS b g).2.1 (commitS b g).2.2 q (by omega) (fun _ => ⟨by omega, fun a ha => by
              rcases hcm a ha with h | h
              · exact hs a h
              · rw [h]; exact hgs.1⟩) (by omega)
      cases hgb : groupsS b with
      | false =>
        rw [if_neg (by decide), if_neg (by decide)]
        have := j2ok 0 1 (k + 5) (by omega)
        rw [hgb] at this
        rw [this]
        have := j3ok (k + 1) (by omega)
        rw [hgb] at this
        exact this
      | true =>
        rw [if_pos rfl, if_pos rfl, rFetch_is b (by omega) ⟨g.f0, g.f1, 0⟩ _ (by omega), fetch_at b (groups_of hgb)]
        simp only [Option.bind_some]
        have hle := atG_le b ⟨g.f0, g.f1, 0⟩
        have j3t := j3ok (k + 1) (by omega)
        rw [hgb] at j3t
        cases hf : foundGroup b ⟨g.f0, g.f1, 0⟩ (atG b ⟨g.f0, g.f1, 0⟩) with
        | true =>
          have hlt : atG b ⟨g.f0, g.f1, 0⟩ < b.length := by
            unfold foundGroup at hf
            simp only [Bool.and_eq_true, decide_eq_true_eq] at hf
            exact hf.1
          simp only [if_true]
          rw [if_pos (by omega), if_pos (by omega), if_pos (by omega)]
          have := j2ok (rd_T29 b (atG b ⟨g.f0, g.f1, 0⟩ : Int)).f2 0 (k + 5) (by omega)
          rw [hgb] at this
          rw [this]
          exact j3t
        | false =>
          simp only [Bool.false_eq_true, if_false]
          rw [if_neg (by decide)]
          have := j2ok 0 3 (k + 5) (by omega)
          rw [hgb] at this
          rw [this]
          exact j3t
    · exact stop i b k hi (by omega) (by omega)
set_option maxRecDepth 20000 in
theorem GroupCommits_main (B L : List SG) (F : List ByteArray) (hB : B.length ≤ 3518437208880) (hL : L.length ≤ 3518437208880) (hF : F.length ≤ 8796093022208) (nB : ∀ a ∈ B, NiceG a) (nL : ∀ a ∈ L, NiceG a) (nF : ∀ a ∈ F, a.size ≤ 140737488351232) :
    ∃ k, fairwaylaw17_GroupCommits.f k B L F = some true := by
  refine ⟨20000000, ?_⟩
  unfold fairwaylaw17_GroupCommits.f
  obtain ⟨b, e, h⟩ := heavy17_is B L F hB hL hF nB nL nF 20000000 (by omega)
  rw [e]
  simp only [Option.bind_some]
  cases b with
  | true => rw [if_pos rfl]
  | false =>
    obtain ⟨h1, h2, h3, h4, h5, h6⟩ := h rfl
    rw [if_neg (by decide), CopyG_is B (by omega) _ (by omega)]
    simp only [Option.bind_some]
    have := GroupCommits_loop B L F h2 h5 15 0 B (by omega) (by omega) (by omega) (by omega) (fun a ha => (h4 a ha).1) 20000000 (by omega)
    rw [show ((0 : Nat) : Int) = 0 from rfl] at this
    exact this
theorem GroupCommits_pure (a : List SG × List SG × List ByteArray) (h : O.niceScript a) : ∃ k, fairwaylaw17_GroupCommits.f k a.1 a.2.1 a.2.2 = some true :=
  GroupCommits_main a.1 a.2.1 a.2.2 h.1 h.2.1 h.2.2.1 (fun b hb => ⟨(h.2.2.2.1 b hb).1, (h.2.2.2.1 b hb).2⟩) (fun b hb => ⟨(h.2.2.2.2.1 b hb).1, (h.2.2.2.2.1 b hb).2⟩) h.2.2.2.2.2
end Go.Proofs.YtoflajekfpggbaaDoor.P
