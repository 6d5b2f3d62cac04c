/- Plain laws: levels, Topic, Filter, Match: the reference's and the program's are the same plain functions. -/
import Derived.Test.YtnaeffgkdoanfaaDoorP3
import Derived.Test.YtnaeffgkdoanfaaDoorP7
import Derived.Test.YtnaeffgkdoanfaaDoorS3
namespace Go.Proofs.YtnaeffgkdoanfaaDoor.P
open Go.RowKit Go.Proofs.YtnaeffgkdoanfaaDoorW.PrintWords Go.Proofs.YtnaeffgkdoanfaaDoorW.PrintLast Go.Proofs.YtnaeffgkdoanfaaDoorW.PrintMore
open Go.Proofs.YtnaeffgkdoanfaaDoor
set_option linter.unusedSimpArgs false
set_option linter.unusedVariables false


/-- May these be a filter's levels? -/
def lvOk : List ByteArray → Bool
  | [] => true
  | [a] => H.noneOf wild a || a.toList == [43] || a.toList == [35]
  | a :: b :: l => (H.noneOf wild a || a.toList == [43]) && lvOk (b :: l)
def filterS (s : ByteArray) : Int := if checkS s = 0 then (if s.toList = [] then 8 else if (H.levels s).length > 16 then 8 else if lvOk (H.levels s) = true then 0 else 8) else checkS s
theorem lvOk_cons (a : ByteArray) (l : List ByteArray) : lvOk (a :: l) = ((H.noneOf wild a || a.toList == [43] || (l.isEmpty && a.toList == [35])) && lvOk l) := by
  cases l with
  | nil => simp [lvOk]
  | cons b l => simp [lvOk]
theorem rdOf_at (l : List ByteArray) (i : Nat) (h : i < l.length) : rdOf ByteArray.empty l (i : Int) = l[i] := by
  simp [rdOf, List.getElem?_eq_getElem h]
theorem nFilter_l0 (l : List ByteArray) (hl : l.length ≤ 100000) : ∀ (m i k : Nat), i ≤ l.length → l.length ≤ i + m → m + 1 ≤ k →
    name_Filter.l0 k l l (l.length : Int) (i : Int) = some (if lvOk (l.drop i) = true then 0 else 8) := by
  intro m
  induction m with
  | zero =>
    intro i k hi hm hk
    obtain ⟨k, rfl⟩ : ∃ q, k = q + 1 := ⟨k - 1, by omega⟩
    rw [name_Filter.l0, if_neg (by omega), List.drop_eq_nil_of_le (by omega)]; rfl
  | succ m ih =>
    intro i k hi hm hk
    obtain ⟨k, rfl⟩ : ∃ q, k = q + 1 := ⟨k - 1, by omega⟩
    by_cases hlt : i < l.length
    · rw [name_Filter.l0, if_pos (by omega), if_pos (by omega), if_pos (by omega), List.drop_eq_getElem_cons hlt, lvOk_cons, rdOf_at l i hlt]
      have ih' := ih (i + 1) k (by omega) (by omega) (by omega)
      rw [show ((i + 1 : Nat) : Int) = (i : Int) + 1 by omega] at ih'
      simp only [name_plain.f, Option.bind_some]
      rw [wrap_small ((i : Int) + 1) (by omega) (by omega), wrap_small ((l.length : Int) - 1) (by omega) (by omega), ih']
      generalize l[i] = a
      by_cases h1 : H.noneOf wild a = true
      · rw [if_pos h1, h1]; simp
      · rw [if_neg h1, Bool.eq_false_iff.2 h1]
        by_cases h2 : a.toList = [43]
        · rw [if_pos h2, h2]; simp
        · rw [if_neg h2]
          have b2 : (a.toList == [43]) = false := beq_eq_false_iff_ne.2 h2
          by_cases h3 : a.toList = [35]
          · rw [if_pos h3]
            have b3 : (a.toList == [35]) = true := beq_iff_eq.2 h3
            by_cases h4 : i + 1 = l.length
            · rw [if_pos (by omega), List.drop_eq_nil_of_le (by omega), b2, b3]; rfl
            · rw [if_neg (by omega), b2, b3]
              have : (l.drop (i + 1)).isEmpty = false := by
                cases h5 : l.drop (i + 1) with
                | nil => have := congrArg List.length h5; rw [List.length_drop] at this; simp at this; omega
                | cons _ _ => rfl
              rw [this]; rfl
          · rw [if_neg h3]
            have b3 : (a.toList == [35]) = false := beq_eq_false_iff_ne.2 h3
            rw [b2, b3]; simp
    · rw [name_Filter.l0, if_neg (by omega), List.drop_eq_nil_of_le (by omega)]; rfl
theorem nFilter_is (s : ByteArray) (k : Nat) (hk : 30 ≤ k) : name_Filter.f k s = some (filterS s) := by
  unfold name_Filter.f filterS
  rw [Check_is]
  simp only [Option.bind_some]
  by_cases h : checkS s = 0
  · have := checkS_small h
    rw [if_pos h, if_pos h, nLevels_is s (by omega)]
    simp only [Option.bind_some]
    obtain ⟨k, rfl⟩ : ∃ q, k = q + 1 := ⟨k - 1, by omega⟩
    by_cases h2 : s.toList = []
    · rw [if_pos h2, if_pos h2, name_Filter.j0, if_pos rfl]
    · rw [if_neg h2, if_neg h2, name_Filter.j0]
      by_cases h4 : (H.levels s).length > 16
      · rw [if_pos h4, if_pos (by simp; omega)]
      · rw [if_neg h4, if_neg (by simp; omega)]
        have := nFilter_l0 (H.levels s) (by omega) (H.levels s).length 0 k (by omega) (by omega) (by omega)
        rw [show ((0 : Nat) : Int) = 0 from rfl, List.drop_zero] at this
        rw [this]
  · rw [if_neg h, if_neg h]
theorem Filter_l0 (l : List ByteArray) (hl : l.length ≤ 16) (hs : ∀ a ∈ l, a.size ≤ 1024) : ∀ (m i k : Nat), i ≤ l.length → l.length ≤ i + m → m + 13000 ≤ k →
    fairwayref7_Filter.l0 k l (i : Int) = some (if lvOk (l.drop i) = true then 0 else 8) := by
  intro m
  induction m with
  | zero =>
    intro i k hi hm hk
    obtain ⟨k, rfl⟩ : ∃ q, k = q + 1 := ⟨k - 1, by omega⟩
    rw [fairwayref7_Filter.l0, if_neg (by omega), List.drop_eq_nil_of_le (by omega)]; rfl
  | succ m ih =>
    intro i k hi hm hk
    obtain ⟨k, rfl⟩ : ∃ q, k = q + 1 := ⟨k - 1, by omega⟩
    by_cases hlt : i < l.length
    · rw [fairwayref7_Filter.l0, if_pos (by omega), if_pos (by omega), List.drop_eq_getElem_cons hlt, lvOk_cons, rdOf_at l i hlt]
      have ih' := ih (i + 1) k (by omega) (by omega) (by omega)
      have hsz := hs l[i] (List.getElem_mem hlt)
      rw [show ((i + 1 : Nat) : Int) = (i : Int) + 1 by omega] at ih'
      rw [has_is l[i] _ (by omega) (by decide) k (by omega), hasS_wild]
      simp only [Option.bind_some]
      rw [wrap_small ((i : Int) + 1) (by omega) (by omega), wrap_small ((l.length : Int) - 1) (by omega) (by omega), ih']
      generalize l[i] = a
      by_cases h1 : H.noneOf wild a = true
      · rw [h1]; simp
      · rw [Bool.eq_false_iff.2 h1]
        simp only [Bool.not_false, if_true]
        by_cases h2 : a.toList = [43]
        · rw [if_pos h2, h2]; simp
        · rw [if_neg h2]
          have b2 : (a.toList == [43]) = false := beq_eq_false_iff_ne.2 h2
          by_cases h3 : a.toList = [35]
          · rw [if_pos h3]
            have b3 : (a.toList == [35]) = true := beq_iff_eq.2 h3
            by_cases h4 : i + 1 = l.length
            · rw [if_neg (by omega), List.drop_eq_nil_of_le (by omega), b2, b3]; rfl
            · rw [if_pos (by omega), b2, b3]
              have : (l.drop (i + 1)).isEmpty = false := by
                cases h5 : l.drop (i + 1) with
                | nil => have := congrArg List.length h5; rw [List.length_drop] at this; simp at this; omega
                | cons _ _ => rfl
              rw [this]; rfl
          · rw [if_neg h3]
            have b3 : (a.toList == [35]) = false := beq_eq_false_iff_ne.2 h3
            rw [b2, b3]; simp
    · rw [fairwayref7_Filter.l0, if_neg (by omega), List.drop_eq_nil_of_le (by omega)]; rfl
theorem Filter_is (s : ByteArray) (k : Nat) (hk : 20000 ≤ k) : fairwayref7_Filter.f k s = some (filterS s) := by
  unfold fairwayref7_Filter.f filterS
  rw [Text_is s k (by omega)]
  simp only [Option.bind_some]
  by_cases h : checkS s = 0
  · have hsm := checkS_small h
    rw [if_pos h, if_pos h, Levels_is s (by omega) k (by omega)]
    simp only [Option.bind_some]
    obtain ⟨k, rfl⟩ : ∃ q, k = q + 1 := ⟨k - 1, by omega⟩
    by_cases h2 : s.toList = []
    · rw [if_pos h2, if_pos h2, fairwayref7_Filter.j0, if_pos rfl]
    · rw [if_neg h2, if_neg h2, fairwayref7_Filter.j0]
      by_cases h4 : (H.levels s).length > 16
      · rw [if_pos h4, if_pos (by simp; omega)]
      · rw [if_neg h4, if_neg (by simp; omega)]
        have := Filter_l0 (H.levels s) (by omega) (fun a ha => Nat.le_trans (levels_small s a ha) hsm) (H.levels s).length 0 k (by omega) (by omega) (by omega)
        rw [show ((0 : Nat) : Int) = 0 from rfl, List.drop_zero] at this
        rw [this]
  · rw [if_neg h, if_neg h]
end Go.Proofs.YtnaeffgkdoanfaaDoor.P
