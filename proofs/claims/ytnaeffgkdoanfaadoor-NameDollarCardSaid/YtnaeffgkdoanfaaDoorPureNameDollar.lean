/- Plain law: NameDollar. -/
import Derived.Test.YtnaeffgkdoanfaaDoorP8
import Derived.Test.YtnaeffgkdoanfaaDoorPureNameMatches
import Derived.Test.YtnaeffgkdoanfaaDoorS5
namespace Go.Proofs.YtnaeffgkdoanfaaDoor.P
open Go.RowKit Go.Proofs.YtnaeffgkdoanfaaDoorW.PrintWords Go.Proofs.YtnaeffgkdoanfaaDoorW.PrintLast Go.Proofs.YtnaeffgkdoanfaaDoorW.PrintMore
set_option linter.unusedSimpArgs false
set_option linter.unusedVariables false

theorem dollar_end (k : Nat) (l : List S25) (t : List ByteArray) (n : Nat) (hn : n = t.length) (hk : 200 ≤ k) : fairwaylaw7_NameDollar.l2 k l t (n : Int) = some true := by
  obtain ⟨k, rfl⟩ : ∃ q, k = q + 1 := ⟨k - 1, by omega⟩
  rw [fairwaylaw7_NameDollar.l2, if_neg (by omega), if_pos (by omega), wakes7_is _ (by omega)]
  rfl
theorem dollar_share (k : Nat) (l : List S25) (t : List ByteArray) (i : Nat) (h : i < t.length) (hl : t.length ≤ 100) (hz : t[i].size ≤ 1000) (hk : 20000 ≤ k)
    (h1 : (shareS t[i]).1 = false) (h2 : (shareS t[i]).2.2.2 = 8) : fairwaylaw7_NameDollar.l2 (k + 1) l t (i : Int) = fairwaylaw7_NameDollar.l2 k l t ((i + 1 : Nat) : Int) := by
  rw [fairwaylaw7_NameDollar.l2, if_pos (by omega), if_pos (by omega), rdOf_at t i h, nShare_is _ (by omega) _ (by omega)]
  simp only [Option.bind_some, h1, h2, fairwaylaw7_num.f, Bool.false_eq_true, if_false, if_true]
  rw [wrap_small _ (by omega) (by omega)]
  rfl
theorem dollar_bad (k : Nat) (l : List S25) (t : List ByteArray) (i : Nat) (h : i < t.length) (hl : t.length ≤ 100) (hk : 20000 ≤ k)
    (h1 : filterS t[i] = 8) (h2 : topicS t[i] = 8) : fairwaylaw7_NameDollar.l1 (k + 1) l t (i : Int) = fairwaylaw7_NameDollar.l1 k l t ((i + 1 : Nat) : Int) := by
  rw [fairwaylaw7_NameDollar.l1, if_pos (by omega), if_pos (by omega), rdOf_at t i h, nFilter_is _ _ (by omega), nTopic_is]
  simp only [Option.bind_some, h1, h2, fairwaylaw7_num.f, if_true]
  rw [wrap_small _ (by omega) (by omega)]
  rfl
theorem dollar_name (k : Nat) (l : List S25) (t : List ByteArray) (i : Nat) (h : i < t.length) (hl : t.length ≤ 100) (hz : t[i].size ≤ 1000) (hk : 20000 ≤ k)
    (h1 : matchS (⟨#[35]⟩ : ByteArray) t[i] = false) (h2 : matchS (⟨#[43]⟩ : ByteArray) t[i] = false) (h3 : matchS (⟨#[43, 47, 98]⟩ : ByteArray) t[i] = false) (h4 : matchS (⟨#[43, 47, 35]⟩ : ByteArray) t[i] = false) (h5 : matchS t[i] t[i] = true) (h6 : matchS (t[i] ++ (⟨#[47, 35]⟩ : ByteArray)) t[i] = true) :
    fairwaylaw7_NameDollar.l0 (k + 1) l t (i : Int) = fairwaylaw7_NameDollar.l0 k l t ((i + 1 : Nat) : Int) := by
  rw [fairwaylaw7_NameDollar.l0, if_pos (by omega), if_pos (by omega), rdOf_at t i h, nMatch_is _ _ _ (by omega), nMatch_is _ _ _ (by omega), nMatch_is _ _ _ (by omega), nMatch_is _ _ _ (by omega), nMatch_is _ _ _ (by omega), nMatch_is _ _ _ (by omega)]
  simp only [Option.bind_some, h1, h2, h3, h4, h5, h6, Bool.false_eq_true, if_false, if_true]
  rw [if_pos (by omega), wrap_small _ (by omega) (by omega)]
  rfl

theorem NameDollar_pure (l : List S25) (h : l.length * Tryd.prog.bytesOf 25 ≤ 140737488351232 ∧ l.length ≤ maxLen ∧ ∀ a ∈ l, O.niceAsk a) : ∃ k, fairwaylaw7_NameDollar.f k l = some true := by
  refine ⟨30000 + 20, ?_⟩
  unfold fairwaylaw7_NameDollar.f
  have e0 : (0 : Int) = ((0 : Nat) : Int) := rfl
  rw [e0, dollar_name (30000 + 19) _ _ 0 (by decide) (by decide) (by decide) (by omega) (by decide +kernel) (by decide +kernel) (by decide +kernel) (by decide +kernel) (by decide +kernel) (by decide +kernel)]
  rw [dollar_name (30000 + 18) _ _ 1 (by decide) (by decide) (by decide) (by omega) (by decide +kernel) (by decide +kernel) (by decide +kernel) (by decide +kernel) (by decide +kernel) (by decide +kernel)]
  rw [dollar_name (30000 + 17) _ _ 2 (by decide) (by decide) (by decide) (by omega) (by decide +kernel) (by decide +kernel) (by decide +kernel) (by decide +kernel) (by decide +kernel) (by decide +kernel)]
  rw [fairwaylaw7_NameDollar.l0, if_neg (by decide), e0]
  rw [dollar_bad (30000 + 15) _ _ 0 (by decide) (by decide) (by omega) (by decide +kernel) (by decide +kernel)]
  rw [dollar_bad (30000 + 14) _ _ 1 (by decide) (by decide) (by omega) (by decide +kernel) (by decide +kernel)]
  rw [dollar_bad (30000 + 13) _ _ 2 (by decide) (by decide) (by omega) (by decide +kernel) (by decide +kernel)]
  rw [dollar_bad (30000 + 12) _ _ 3 (by decide) (by decide) (by omega) (by decide +kernel) (by decide +kernel)]
  rw [dollar_bad (30000 + 11) _ _ 4 (by decide) (by decide) (by omega) (by decide +kernel) (by decide +kernel)]
  rw [dollar_bad (30000 + 10) _ _ 5 (by decide) (by decide) (by omega) (by decide +kernel) (by decide +kernel)]
  rw [dollar_bad (30000 + 9) _ _ 6 (by decide) (by decide) (by omega) (by decide +kernel) (by decide +kernel)]
  rw [fairwaylaw7_NameDollar.l1, if_neg (by decide), e0]
  rw [dollar_share (30000 + 7) _ _ 0 (by decide) (by decide) (by decide) (by omega) (by decide +kernel) (by decide +kernel)]
  rw [dollar_share (30000 + 6) _ _ 1 (by decide) (by decide) (by decide) (by omega) (by decide +kernel) (by decide +kernel)]
  rw [dollar_share (30000 + 5) _ _ 2 (by decide) (by decide) (by decide) (by omega) (by decide +kernel) (by decide +kernel)]
  rw [dollar_share (30000 + 4) _ _ 3 (by decide) (by decide) (by decide) (by omega) (by decide +kernel) (by decide +kernel)]
  rw [dollar_share (30000 + 3) _ _ 4 (by decide) (by decide) (by decide) (by omega) (by decide +kernel) (by decide +kernel)]
  exact dollar_end _ l _ 5 rfl (by omega)
end Go.Proofs.YtnaeffgkdoanfaaDoor.P
