/- Plain law: NameMatches. -/
import Derived.Test.YtnaeffgkdoanfaaDoorP5
import Derived.Test.YtnaeffgkdoanfaaDoorP4
import Derived.Test.YtnaeffgkdoanfaaDoorOpens
import Derived.Test.YtnaeffgkdoanfaaDoorS4
namespace Go.Proofs.YtnaeffgkdoanfaaDoor.P
open Go.RowKit Go.Proofs.YtnaeffgkdoanfaaDoorW.PrintWords Go.Proofs.YtnaeffgkdoanfaaDoorW.PrintLast Go.Proofs.YtnaeffgkdoanfaaDoorW.PrintMore
set_option linter.unusedSimpArgs false
set_option linter.unusedVariables false

theorem wakes7_is (k : Nat) (hk : 100 ≤ k) : fairwaylaw7_wakes.f k = some true := by
  unfold fairwaylaw7_wakes.f
  rw [nMatch_is _ _ k hk, nMatch_is _ _ k hk]
  have e1 : matchS (⟨#[97, 47, 35]⟩ : ByteArray) (⟨#[97, 47, 98]⟩ : ByteArray) = true := by decide +kernel
  have e2 : matchS (⟨#[97, 47, 43]⟩ : ByteArray) (⟨#[98, 47, 98]⟩ : ByteArray) = false := by decide +kernel
  simp only [Option.bind_some, e1, e2]
  rfl

theorem rd7_at (l : List S25) (i : Nat) (h : i < l.length) : rd_T25 l (i : Int) = l[i] := by
  simp [rd_T25, List.getElem?_eq_getElem h]
theorem heavy7_is (a b : ByteArray) (ha : a.size ≤ 140737488351232) (hb : b.size ≤ 140737488351232) : fairwaylaw7_heavy.f a b = some (decide (a.size + b.size > 4000)) := by
  unfold fairwaylaw7_heavy.f
  rw [wrap_small _ (by omega) (by omega)]
  congr 1
  rw [Bool.eq_iff_iff]
  simp only [decide_eq_true_eq]
  omega

theorem NameMatches_loops (l : List S25) (hl : l.length ≤ 9223372036854775000) (hn : ∀ a ∈ l, O.niceAsk a) :
    ∀ (m i : Nat), i ≤ l.length → i ≤ 12 → 12 ≤ i + m → ∀ k, 26000 + m * 60 ≤ k → fairwaylaw7_NameMatches.l0 k l (i : Int) = some true := by
  intro m
  have stop : ∀ (i : Nat) (k : Nat), i ≤ l.length → 12 ≤ i ∨ l.length ≤ i → 200 ≤ k → fairwaylaw7_NameMatches.l0 k l (i : Int) = some true := by
    intro i k hi h hk
    obtain ⟨k, rfl⟩ : ∃ q, k = q + 2 := ⟨k - 2, by omega⟩
    have e : fairwaylaw7_NameMatches.j1 (k + 1) l (i : Int) false = some true := by
      rw [fairwaylaw7_NameMatches.j1, if_neg (by decide), wakes7_is _ (by omega)]; rfl
    rw [fairwaylaw7_NameMatches.l0]
    by_cases hlt : i < l.length
    · rw [if_pos (by omega), show decide ((i : Int) < 12) = false by simp; omega, e]
    · rw [if_neg (by omega), e]
  induction m with
  | zero => intro i hi h12 hm k hk; exact stop i k hi (.inl (by omega)) (by omega)
  | succ m ih =>
    intro i hi h12 hm k hk
    by_cases hlt : i < l.length ∧ i < 12
    · obtain ⟨h1, h2⟩ := hlt
      obtain ⟨k, rfl⟩ : ∃ q, k = q + 2 := ⟨k - 2, by omega⟩
      have hni := hn l[i] (List.getElem_mem h1)
      rw [fairwaylaw7_NameMatches.l0, if_pos (by omega), show decide ((i : Int) < 12) = true by simp; omega, fairwaylaw7_NameMatches.j1, if_pos rfl, if_pos (by omega), if_pos (by omega), rd7_at l i h1, heavy7_is _ _ hni.1 hni.2]
      simp only [Option.bind_some]
      by_cases hv : l[i].f0.size + l[i].f1.size > 4000
      · rw [if_pos (by simpa using hv)]
      · rw [if_neg (by simpa using hv)]
        have inner : ∀ (q j k : Nat), j ≤ l.length → j ≤ 12 → 12 ≤ j + q → 26000 + m * 60 + q * 3 + 3 ≤ k → fairwaylaw7_NameMatches.l1 k l (i : Int) (j : Int) = some true := by
          intro q
          have istop : ∀ (j k : Nat), j ≤ l.length → 12 ≤ j ∨ l.length ≤ j → 26000 + m * 60 + 2 ≤ k + 1 → 2 ≤ k → fairwaylaw7_NameMatches.l1 (k + 1) l (i : Int) (j : Int) = some true := by
            intro j k hj h hk hk2
            obtain ⟨k, rfl⟩ : ∃ q, k = q + 1 := ⟨k - 1, by omega⟩
            have e : fairwaylaw7_NameMatches.j3 (k + 1) l (i : Int) (j : Int) false = some true := by
              rw [fairwaylaw7_NameMatches.j3, if_neg (by decide), wrap_small _ (by omega) (by omega)]
              have := ih (i + 1) (by omega) (by omega) (by omega) k (by omega)
              rw [show ((i + 1 : Nat) : Int) = (i : Int) + 1 by omega] at this
              exact this
            rw [fairwaylaw7_NameMatches.l1]
            by_cases hlt : j < l.length
            · rw [if_pos (by omega), show decide ((j : Int) < 12) = false by simp; omega, e]
            · rw [if_neg (by omega), e]
          induction q with
          | zero => intro j k hj h12 hq hk; obtain ⟨k, rfl⟩ : ∃ q, k = q + 1 := ⟨k - 1, by omega⟩; exact istop j k hj (.inl (by omega)) (by omega) (by omega)
          | succ q ihq =>
            intro j k hj hj12 hq hk
            by_cases hjl : j < l.length ∧ j < 12
            · obtain ⟨j1, j2⟩ := hjl
              obtain ⟨k, rfl⟩ : ∃ q, k = q + 2 := ⟨k - 2, by omega⟩
              have hnj := hn l[j] (List.getElem_mem j1)
              rw [fairwaylaw7_NameMatches.l1, if_pos (by omega), show decide ((j : Int) < 12) = true by simp; omega, fairwaylaw7_NameMatches.j3, if_pos rfl, if_pos (by omega), if_pos (by omega), rd7_at l j j1, heavy7_is _ _ hnj.1 hnj.2]
              simp only [Option.bind_some]
              by_cases hw : l[j].f0.size + l[j].f1.size > 4000
              · rw [if_pos (by simpa using hw)]
              · rw [if_neg (by simpa using hw), if_pos (by omega), if_pos (by omega), rd7_at l i h1, nMatch_is _ _ _ (by omega), Match_is _ _ _ (by omega)]
                simp only [Option.bind_some, bne_self_eq_false, Bool.false_eq_true, if_false]
                rw [wrap_small _ (by omega) (by omega)]
                have := ihq (j + 1) k (by omega) (by omega) (by omega) (by omega)
                rw [show ((j + 1 : Nat) : Int) = (j : Int) + 1 by omega] at this
                exact this
            · obtain ⟨k, rfl⟩ : ∃ q, k = q + 1 := ⟨k - 1, by omega⟩
              exact istop j k hj (by omega) (by omega) (by omega)
        have := inner 12 0 k (by omega) (by omega) (by omega) (by omega)
        rw [show ((0 : Nat) : Int) = 0 from rfl] at this
        exact this
    · exact stop i k hi (by omega) (by omega)

theorem NameMatches_pure (l : List S25) (h : l.length * Tryd.prog.bytesOf 25 ≤ 140737488351232 ∧ l.length ≤ maxLen ∧ ∀ a ∈ l, O.niceAsk a) : ∃ k, fairwaylaw7_NameMatches.f k l = some true := by
  have hb : Tryd.prog.bytesOf 25 = 32 := by kernel_rfl
  rw [hb] at h
  refine ⟨26000 + 12 * 60, ?_⟩
  unfold fairwaylaw7_NameMatches.f
  have := NameMatches_loops l (by omega) h.2.2 12 0 (by omega) (by omega) (by omega) (26000 + 12 * 60) (by omega)
  rw [show ((0 : Nat) : Int) = 0 from rfl] at this
  exact this
end Go.Proofs.YtnaeffgkdoanfaaDoor.P
