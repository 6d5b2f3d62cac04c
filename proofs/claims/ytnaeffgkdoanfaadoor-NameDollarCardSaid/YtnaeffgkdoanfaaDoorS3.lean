/- Plain laws: levels, Topic, Filter, Match: the reference's and the program's are the same plain functions. -/
import Derived.Test.YtnaeffgkdoanfaaDoorP2
import Derived.Test.YtnaeffgkdoanfaaDoorP4
import Derived.Test.YtnaeffgkdoanfaaDoorS2
namespace Go.Proofs.YtnaeffgkdoanfaaDoor.P
open Go.RowKit Go.Proofs.YtnaeffgkdoanfaaDoorW.PrintWords Go.Proofs.YtnaeffgkdoanfaaDoorW.PrintLast Go.Proofs.YtnaeffgkdoanfaaDoorW.PrintMore
open Go.Proofs.YtnaeffgkdoanfaaDoor
set_option linter.unusedSimpArgs false
set_option linter.unusedVariables false

theorem levB_step (s : ByteArray) (k fr i : Nat) (h : i < s.size) : H.levB s (k + 1) fr i = if (s.get! i).toNat = 47 then s.extract fr i :: H.levB s k (i + 1) (i + 1) else H.levB s k fr (i + 1) := by
  conv => lhs; unfold H.levB
  rw [if_pos h]
theorem levels_l0 (s : ByteArray) (hz : s.size ≤ 1000000) : ∀ (m fr i : Nat) (acc : List ByteArray) (k : Nat), fr ≤ i → i ≤ s.size → s.size ≤ i + m → acc.length ≤ i → m + 3 ≤ k →
    fairwayref7_Levels.l0 k s acc (fr : Int) (i : Int) = some (acc ++ H.levB s m fr i) := by
  intro m
  have fin : ∀ (fr i : Nat) (acc : List ByteArray) (k : Nat), fr ≤ i → i = s.size → acc.length ≤ i → 3 ≤ k → fairwayref7_Levels.l0 k s acc (fr : Int) (i : Int) = some (acc ++ [s.extract fr s.size]) := by
    intro fr i acc k hf hi hl hk
    obtain ⟨k, rfl⟩ : ∃ q, k = q + 2 := ⟨k - 2, by omega⟩
    rw [fairwayref7_Levels.l0, if_pos (by omega), if_pos (by omega), if_pos (by omega), if_pos (by omega), if_pos (by omega), wrap_small _ (by omega) (by omega)]
    rw [fairwayref7_Levels.l0, if_neg (by omega), Int.toNat_natCast, Int.toNat_natCast, hi]
  induction m with
  | zero =>
    intro fr i acc k hf hi hm hl hk
    exact fin fr i acc k hf (by omega) hl (by omega)
  | succ m ih =>
    intro fr i acc k hf hi hm hl hk
    by_cases hlt : i < s.size
    · obtain ⟨k, rfl⟩ : ∃ q, k = q + 1 := ⟨k - 1, by omega⟩
      rw [fairwayref7_Levels.l0, if_pos (by omega), if_neg (by omega), if_pos (by omega), if_pos (by omega), bt_nat s i hlt, levB_step s m fr i hlt]
      by_cases h47 : (s.get! i).toNat = 47
      · rw [if_pos (by omega), if_pos h47, if_pos (by omega), if_pos (by omega), if_pos (by omega), wrap_small _ (by omega) (by omega), Int.toNat_natCast, Int.toNat_natCast]
        have := ih (i + 1) (i + 1) (acc ++ [s.extract fr i]) k (by omega) (by omega) (by omega) (by simp; omega) (by omega)
        rw [show ((i + 1 : Nat) : Int) = (i : Int) + 1 by omega] at this
        rw [this, List.append_assoc]; rfl
      · rw [if_neg (by omega), if_neg h47, wrap_small _ (by omega) (by omega)]
        have := ih fr (i + 1) acc k (by omega) (by omega) (by omega) (by omega) (by omega)
        rw [show ((i + 1 : Nat) : Int) = (i : Int) + 1 by omega] at this
        rw [this]
    · rw [fin fr i acc k hf (by omega) hl (by omega), H.levB_end s _ _ _ hlt]
theorem Levels_is (s : ByteArray) (hz : s.size ≤ 1000000) (k : Nat) (hk : s.size + 3 ≤ k) : fairwayref7_Levels.f k s = some (H.levels s) := by
  unfold fairwayref7_Levels.f H.levels
  have := levels_l0 s hz s.size 0 0 [] k (by omega) (by omega) (by omega) (by simp) hk
  rw [show (0 : Int) = ((0 : Nat) : Int) from rfl, this]; rfl
theorem nLevels_is (s : ByteArray) (hz : s.size ≤ 1000000) : name_Levels.f s = some (H.levels s) := by
  unfold name_Levels.f
  rw [if_pos (by omega)]
theorem levB_ne (s : ByteArray) : ∀ (m fr i : Nat), H.levB s m fr i ≠ [] := by
  intro m
  induction m with
  | zero => intro fr i; simp [H.levB]
  | succ m ih =>
    intro fr i
    unfold H.levB
    split
    · split
      · simp
      · exact ih _ _
    · simp
theorem levels_ne (s : ByteArray) : H.levels s ≠ [] := levB_ne s _ _ _
theorem levels_pos (s : ByteArray) : 0 < (H.levels s).length := List.length_pos_iff.2 (levels_ne s)
theorem levB_small (s : ByteArray) : ∀ (m fr i : Nat), ∀ a ∈ H.levB s m fr i, a.size ≤ s.size := by
  intro m
  induction m with
  | zero => intro fr i a ha; simp [H.levB] at ha; rw [ha, ByteArray.size_extract]; omega
  | succ m ih =>
    intro fr i a ha
    unfold H.levB at ha
    split at ha
    · split at ha
      · rcases List.mem_cons.1 ha with rfl | ha
        · rw [ByteArray.size_extract]; omega
        · exact ih _ _ a ha
      · exact ih _ _ a ha
    · simp at ha; rw [ha, ByteArray.size_extract]; omega
theorem levels_small (s : ByteArray) : ∀ a ∈ H.levels s, a.size ≤ s.size := levB_small s _ _ _

def topicS (s : ByteArray) : Int := if checkS s = 0 then (if s.toList = [] then 8 else if H.noneOf wild s = true then (if (H.levels s).length > 16 then 8 else 0) else 8) else checkS s
theorem nTopic_is (s : ByteArray) : name_Topic.f s = some (topicS s) := by
  unfold name_Topic.f topicS
  rw [Check_is]
  simp only [Option.bind_some]
  by_cases h : checkS s = 0
  · have := checkS_small h
    rw [if_pos h, if_pos h]
    by_cases h2 : s.toList = []
    · rw [if_pos h2, if_pos h2]
    · rw [if_neg h2, if_neg h2, nLevels_is s (by omega)]
      simp only [name_plain.f, Option.bind_some]
      by_cases h3 : H.noneOf wild s = true
      · rw [if_pos h3, if_pos h3]
        by_cases h4 : (H.levels s).length > 16
        · rw [if_pos (by omega), if_pos h4]
        · rw [if_neg (by omega), if_neg h4]
      · rw [if_neg h3, if_neg h3]
  · rw [if_neg h, if_neg h]
theorem Topic_is (s : ByteArray) (k : Nat) (hk : 20000 ≤ k) : fairwayref7_Topic.f k s = some (topicS s) := by
  unfold fairwayref7_Topic.f topicS
  rw [Text_is s k (by omega)]
  simp only [Option.bind_some]
  by_cases h : checkS s = 0
  · have := checkS_small h
    rw [if_pos h, if_pos h]
    by_cases h2 : s.toList = []
    · rw [if_pos h2, if_pos h2]
    · rw [if_neg h2, if_neg h2, has_is s _ (by omega) (by decide) k (by omega), hasS_wild, Levels_is s (by omega) k (by omega)]
      simp only [Option.bind_some]
      cases h3 : H.noneOf wild s with
      | true =>
        simp only [Bool.not_true, Bool.false_eq_true, if_false, if_true]
        by_cases h4 : (H.levels s).length > 16
        · rw [if_pos (by omega), if_pos h4]
        · rw [if_neg (by omega), if_neg h4]
      | false => simp
  · rw [if_neg h, if_neg h]

/-- May these be a filter's levels? -/
def lvOk : List ByteArray → Bool
  | [] => true
  | [a] => H.noneOf wild a || a.toList == [43] || a.toList == [35]
  | a :: b :: l => (H.noneOf wild a || a.toList == [43]) && lvOk (b :: l)
def filterS (s : ByteArray) : Int := if checkS s = 0 then (if s.toList = [] then 8 else if (H.levels s).length > 16 then 8 else if lvOk (H.levels s) = true then 0 else 8) else checkS s
theorem lvOk_cons (a : ByteArray) (l : List ByteArray) : lvOk (a :: l) = ((H.noneOf wild a || a.toList == [43] || (l.isEmpty && a.toList == [35])) && lvOk l) := by
  cases l with
  | nil => simp [lvOk]
  | cons b l => simp [lvOk]
theorem rdOf_at (l : List ByteArray) (i : Nat) (h : i < l.length) : rdOf ByteArray.empty l (i : Int) = l[i] := by
  simp [rdOf, List.getElem?_eq_getElem h]
theorem nFilter_l0 (l : List ByteArray) (hl : l.length ≤ 100000) : ∀ (m i k : Nat), i ≤ l.length → l.length ≤ i + m → m + 1 ≤ k →
    name_Filter.l0 k l l (l.length : Int) (i : Int) = some (if lvOk (l.drop i) = true then 0 else 8) := by
  intro m
  induction m with
  | zero =>
    intro i k hi hm hk
    obtain ⟨k, rfl⟩ : ∃ q, k = q + 1 := ⟨k - 1, by omega⟩
    rw [name_Filter.l0, if_neg (by omega), List.drop_eq_nil_of_le (by omega)]; rfl
  | succ m ih =>
    intro i k hi hm hk
    obtain ⟨k, rfl⟩ : ∃ q, k = q + 1 := ⟨k - 1, by omega⟩
    by_cases hlt : i < l.length
    · rw [name_Filter.l0, if_pos (by omega), if_pos (by omega), if_pos (by omega), List.drop_eq_getElem_cons hlt, lvOk_cons, rdOf_at l i hlt]
      have ih' := ih (i + 1) k (by omega) (by omega) (by omega)
      rw [show ((i + 1 : Nat) : Int) = (i : Int) + 1 by omega] at ih'
      simp only [name_plain.f, Option.bind_some]
      rw [wrap_small ((i : Int) + 1) (by omega) (by omega), wrap_small ((l.length : Int) - 1) (by omega) (by omega), ih']
      generalize l[i] = a
      by_cases h1 : H.noneOf wild a = true
      · rw [if_pos h1, h1]; simp
      · rw [if_neg h1, Bool.eq_false_iff.2 h1]
        by_cases h2 : a.toList = [43]
        · rw [if_pos h2, h2]; simp
        · rw [if_neg h2]
          have b2 : (a.toList == [43]) = false := beq_eq_false_iff_ne.2 h2
          by_cases h3 : a.toList = [35]
          · rw [if_pos h3]
            have b3 : (a.toList == [35]) = true := beq_iff_eq.2 h3
            by_cases h4 : i + 1 = l.length
            · rw [if_pos (by omega), List.drop_eq_nil_of_le (by omega), b2, b3]; rfl
            · rw [if_neg (by omega), b2, b3]
              have : (l.drop (i + 1)).isEmpty = false := by
                cases h5 : l.drop (i + 1) with
                | nil => have := congrArg List.length h5; rw [List.length_drop] at this; simp at this; omega
                | cons _ _ => rfl
              rw [this]; rfl
          · rw [if_neg h3]
            have b3 : (a.toList == [35]) = false := beq_eq_false_iff_ne.2 h3
            rw [b2, b3]; simp
    · rw [name_Filter.l0, if_neg (by omega), List.drop_eq_nil_of_le (by omega)]; rfl
theorem nFilter_is (s : ByteArray) (k : Nat) (hk : 30 ≤ k) : name_Filter.f k s = some (filterS s) := by
  unfold name_Filter.f filterS
  rw [Check_is]
  simp only [Option.bind_some]
  by_cases h : checkS s = 0
  · have := checkS_small h
    rw [if_pos h, if_pos h, nLevels_is s (by omega)]
    simp only [Option.bind_some]
    obtain ⟨k, rfl⟩ : ∃ q, k = q + 1 := ⟨k - 1, by omega⟩
    by_cases h2 : s.toList = []
    · rw [if_pos h2, if_pos h2, name_Filter.j0, if_pos rfl]
    · rw [if_neg h2, if_neg h2, name_Filter.j0]
      by_cases h4 : (H.levels s).length > 16
      · rw [if_pos h4, if_pos (by simp; omega)]
      · rw [if_neg h4, if_neg (by simp; omega)]
        have := nFilter_l0 (H.levels s) (by omega) (H.levels s).length 0 k (by omega) (by omega) (by omega)
        rw [show ((0 : Nat) : Int) = 0 from rfl, List.drop_zero] at this
        rw [this]
  · rw [if_neg h, if_neg h]
theorem Filter_l0 (l : List ByteArray) (hl : l.length ≤ 16) (hs : ∀ a ∈ l, a.size ≤ 1024) : ∀ (m i k : Nat), i ≤ l.length → l.length ≤ i + m → m + 13000 ≤ k →
    fairwayref7_Filter.l0 k l (i : Int) = some (if lvOk (l.drop i) = true then 0 else 8) := by
  intro m
  induction m with
  | zero =>
    intro i k hi hm hk
    obtain ⟨k, rfl⟩ : ∃ q, k = q + 1 := ⟨k - 1, by omega⟩
    rw [fairwayref7_Filter.l0, if_neg (by omega), List.drop_eq_nil_of_le (by omega)]; rfl
  | succ m ih =>
    intro i k hi hm hk
    obtain ⟨k, rfl⟩ : ∃ q, k = q + 1 := ⟨k - 1, by omega⟩
    by_cases hlt : i < l.length
    · rw [fairwayref7_Filter.l0, if_pos (by omega), if_pos (by omega), List.drop_eq_getElem_cons hlt, lvOk_cons, rdOf_at l i hlt]
      have ih' := ih (i + 1) k (by omega) (by omega) (by omega)
      have hsz := hs l[i] (List.getElem_mem hlt)
      rw [show ((i + 1 : Nat) : Int) = (i : Int) + 1 by omega] at ih'
      rw [has_is l[i] _ (by omega) (by decide) k (by omega), hasS_wild]
      simp only [Option.bind_some]
      rw [wrap_small ((i : Int) + 1) (by omega) (by omega), wrap_small ((l.length : Int) - 1) (by omega) (by omega), ih']
      generalize l[i] = a
      by_cases h1 : H.noneOf wild a = true
      · rw [h1]; simp
      · rw [Bool.eq_false_iff.2 h1]
        simp only [Bool.not_false, if_true]
        by_cases h2 : a.toList = [43]
        · rw [if_pos h2, h2]; simp
        · rw [if_neg h2]
          have b2 : (a.toList == [43]) = false := beq_eq_false_iff_ne.2 h2
          by_cases h3 : a.toList = [35]
          · rw [if_pos h3]
            have b3 : (a.toList == [35]) = true := beq_iff_eq.2 h3
            by_cases h4 : i + 1 = l.length
            · rw [if_neg (by omega), List.drop_eq_nil_of_le (by omega), b2, b3]; rfl
            · rw [if_pos (by omega), b2, b3]
              have : (l.drop (i + 1)).isEmpty = false := by
                cases h5 : l.drop (i + 1) with
                | nil => have := congrArg List.length h5; rw [List.length_drop] at this; simp at this; omega
                | cons _ _ => rfl
              rw [this]; rfl
          · rw [if_neg h3]
            have b3 : (a.toList == [35]) = false := beq_eq_false_iff_ne.2 h3
            rw [b2, b3]; simp
    · rw [fairwayref7_Filter.l0, if_neg (by omega), List.drop_eq_nil_of_le (by omega)]; rfl
theorem Filter_is (s : ByteArray) (k : Nat) (hk : 20000 ≤ k) : fairwayref7_Filter.f k s = some (filterS s) := by
  unfold fairwayref7_Filter.f filterS
  rw [Text_is s k (by omega)]
  simp only [Option.bind_some]
  by_cases h : checkS s = 0
  · have hsm := checkS_small h
    rw [if_pos h, if_pos h, Levels_is s (by omega) k (by omega)]
    simp only [Option.bind_some]
    obtain ⟨k, rfl⟩ : ∃ q, k = q + 1 := ⟨k - 1, by omega⟩
    by_cases h2 : s.toList = []
    · rw [if_pos h2, if_pos h2, fairwayref7_Filter.j0, if_pos rfl]
    · rw [if_neg h2, if_neg h2, fairwayref7_Filter.j0]
      by_cases h4 : (H.levels s).length > 16
      · rw [if_pos h4, if_pos (by simp; omega)]
      · rw [if_neg h4, if_neg (by simp; omega)]
        have := Filter_l0 (H.levels s) (by omega) (fun a ha => Nat.le_trans (levels_small s a ha) hsm) (H.levels s).length 0 k (by omega) (by omega) (by omega)
        rw [show ((0 : Nat) : Int) = 0 from rfl, List.drop_zero] at this
        rw [this]
  · rw [if_neg h, if_neg h]
theorem topicS_cases (s : ByteArray) : topicS s = 0 ∨ topicS s = 2 ∨ topicS s = 8 := by
  unfold topicS
  have := checkS_cases s
  repeat' split
  all_goals simp_all
end Go.Proofs.YtnaeffgkdoanfaaDoor.P
