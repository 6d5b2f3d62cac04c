/- Plain law: NameTells. -/
import Derived.Test.YtnaeffgkdoanfaaDoorP6
import Derived.Test.YtnaeffgkdoanfaaDoorP2
import Derived.Test.YtnaeffgkdoanfaaDoorPureNameMatches
import Derived.Test.YtnaeffgkdoanfaaDoorS5
namespace Go.Proofs.YtnaeffgkdoanfaaDoor.P
open Go.RowKit Go.Proofs.YtnaeffgkdoanfaaDoorW.PrintWords Go.Proofs.YtnaeffgkdoanfaaDoorW.PrintLast Go.Proofs.YtnaeffgkdoanfaaDoorW.PrintMore
set_option linter.unusedSimpArgs false
set_option linter.unusedVariables false

theorem NameTells_loops (l : List S25) (hl : l.length ≤ 9223372036854775000) (hn : ∀ a ∈ l, O.niceAsk a) :
    ∀ (m i : Nat), i ≤ l.length → i ≤ 12 → 12 ≤ i + m → ∀ k, 100000 + m * 40 ≤ k → fairwaylaw7_NameTells.l0 k l (i : Int) = some true := by
  intro m
  have stop : ∀ (i : Nat) (k : Nat), i ≤ l.length → 12 ≤ i ∨ l.length ≤ i → 200 ≤ k → fairwaylaw7_NameTells.l0 k l (i : Int) = some true := by
    intro i k hi h hk
    obtain ⟨k, rfl⟩ : ∃ q, k = q + 2 := ⟨k - 2, by omega⟩
    have e : fairwaylaw7_NameTells.j1 (k + 1) l (i : Int) false = some true := by
      rw [fairwaylaw7_NameTells.j1, if_neg (by decide), wakes7_is _ (by omega)]; rfl
    rw [fairwaylaw7_NameTells.l0]
    by_cases hlt : i < l.length
    · rw [if_pos (by omega), show decide ((i : Int) < 12) = false by simp; omega, e]
    · rw [if_neg (by omega), e]
  induction m with
  | zero => intro i hi h12 hm k hk; exact stop i k hi (.inl (by omega)) (by omega)
  | succ m ih =>
    intro i hi h12 hm k hk
    by_cases hlt : i < l.length ∧ i < 12
    · obtain ⟨h1, h2⟩ := hlt
      obtain ⟨k, rfl⟩ : ∃ q, k = q + 2 := ⟨k - 2, by omega⟩
      have hni := hn l[i] (List.getElem_mem h1)
      rw [fairwaylaw7_NameTells.l0, if_pos (by omega), show decide ((i : Int) < 12) = true by simp; omega, fairwaylaw7_NameTells.j1, if_pos rfl, if_pos (by omega), if_pos (by omega), rd7_at l i h1, heavy7_is _ _ hni.1 hni.2]
      simp only [Option.bind_some]
      by_cases hv : l[i].f0.size + l[i].f1.size > 4000
      · rw [if_pos (by simpa using hv)]
      · rw [if_neg (by simpa using hv), if_pos (by omega), if_pos (by omega)]
        have inner : ∀ (t : List ByteArray), t.length = 4 → (∀ a ∈ t, a.size ≤ 4100) → ∀ (q j k : Nat), j ≤ 4 → 4 ≤ j + q → 100000 + m * 40 + q * 3 + 1 ≤ k → fairwaylaw7_NameTells.l1 k l (i : Int) t (j : Int) = some true := by
          intro t ht hs q
          have istop : ∀ (j k : Nat), 4 ≤ j → 100000 + m * 40 + 1 ≤ k → fairwaylaw7_NameTells.l1 k l (i : Int) t (j : Int) = some true := by
            intro j k hj hk
            obtain ⟨k, rfl⟩ : ∃ q, k = q + 1 := ⟨k - 1, by omega⟩
            rw [fairwaylaw7_NameTells.l1, if_neg (by omega), wrap_small _ (by omega) (by omega)]
            have := ih (i + 1) (by omega) (by omega) (by omega) k (by omega)
            rw [show ((i + 1 : Nat) : Int) = (i : Int) + 1 by omega] at this
            exact this
          induction q with
          | zero => intro j k hj hq hk; exact istop j k (by omega) (by omega)
          | succ q ihq =>
            intro j k hj hq hk
            by_cases hjl : j < 4
            · obtain ⟨k, rfl⟩ : ∃ q, k = q + 1 := ⟨k - 1, by omega⟩
              have hjt : j < t.length := by omega
              have hsj := hs t[j] (List.getElem_mem hjt)
              rw [fairwaylaw7_NameTells.l1, if_pos (by omega), if_pos (by omega), rdOf_at t j hjt]
              rw [nShare_is _ (by omega) _ (by omega), Share_is _ (by omega) _ (by omega), nLevels_is _ (by omega), nTopic_is, Topic_is _ _ (by omega), nFilter_is _ _ (by omega), Filter_is _ _ (by omega), Levels_is _ (by omega) _ (by omega)]
              simp only [Option.bind_some, fairwaylaw7_num.f, if_true]
              have hll := levels_len t[j]
              rw [EqStrings_is _ (by omega) _ (by omega), Strings_is _ (by omega) _ (by omega)]
              simp only [Option.bind_some, if_true, bne_self_eq_false, Bool.false_eq_true, if_false]
              rw [wrap_small _ (by omega) (by omega)]
              have := ihq (j + 1) k (by omega) (by omega) (by omega)
              rw [show ((j + 1 : Nat) : Int) = (j : Int) + 1 by omega] at this
              exact this
            · exact istop j k (by omega) (by omega)
        have := inner [l[i].f0, l[i].f1, (⟨#[36, 115, 104, 97, 114, 101, 47, 103, 47]⟩ : ByteArray) ++ l[i].f0, (⟨#[36, 115, 104, 97, 114, 101, 47]⟩ : ByteArray) ++ l[i].f1] rfl (by
          intro a ha
          simp only [List.mem_cons, List.not_mem_nil, or_false] at ha
          rcases ha with rfl | rfl | rfl | rfl
          · omega
          · omega
          · rw [ByteArray.size_append, show (⟨#[36, 115, 104, 97, 114, 101, 47, 103, 47]⟩ : ByteArray).size = 9 from rfl]; omega
          · rw [ByteArray.size_append, show (⟨#[36, 115, 104, 97, 114, 101, 47]⟩ : ByteArray).size = 7 from rfl]; omega) 4 0 k (by omega) (by omega) (by omega)
        rw [show ((0 : Nat) : Int) = 0 from rfl] at this
        exact this
    · exact stop i k hi (by omega) (by omega)

theorem NameTells_pure (l : List S25) (h : l.length * Tryd.prog.bytesOf 25 ≤ 140737488351232 ∧ l.length ≤ maxLen ∧ ∀ a ∈ l, O.niceAsk a) : ∃ k, fairwaylaw7_NameTells.f k l = some true := by
  have hb : Tryd.prog.bytesOf 25 = 32 := by kernel_rfl
  rw [hb] at h
  refine ⟨100000 + 12 * 40, ?_⟩
  unfold fairwaylaw7_NameTells.f
  have := NameTells_loops l (by omega) h.2.2 12 0 (by omega) (by omega) (by omega) (100000 + 12 * 40) (by omega)
  rw [show ((0 : Nat) : Int) = 0 from rfl] at this
  exact this
end Go.Proofs.YtnaeffgkdoanfaaDoor.P
