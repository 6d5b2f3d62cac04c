/- Plain laws: levels, Topic, Filter, Match: the reference's and the program's are the same plain functions. -/
import Derived.Test.YtoflajekfpggbaaDoorP3
import Derived.Test.YtoflajekfpggbaaDoorP7
import Derived.Test.YtoflajekfpggbaaDoorS2
namespace Go.Proofs.YtoflajekfpggbaaDoor.P
open Go.RowKit Go.Proofs.YtoflajekfpggbaaDoorW.PrintWords Go.Proofs.YtoflajekfpggbaaDoorW.PrintLast Go.Proofs.YtoflajekfpggbaaDoorW.PrintMore
open Go.Proofs.YtoflajekfpggbaaDoor
set_option linter.unusedSimpArgs false
set_option linter.unusedVariables false

theorem levB_step (s : ByteArray) (k fr i : Nat) (h : i < s.size) : H.levB s (k + 1) fr i = if (s.get! i).toNat = 47 then s.extract fr i :: H.levB s k (i + 1) (i + 1) else H.levB s k fr (i + 1) := by
  conv => lhs; unfold H.levB
  rw [if_pos h]
theorem levels_l0 (s : ByteArray) (hz : s.size ≤ 1000000) : ∀ (m fr i : Nat) (acc : List ByteArray) (k : Nat), fr ≤ i → i ≤ s.size → s.size ≤ i + m → acc.length ≤ i → m + 3 ≤ k →
    fairwayref7_Levels.l0 k s acc (fr : Int) (i : Int) = some (acc ++ H.levB s m fr i) := by
  intro m
  have fin : ∀ (fr i : Nat) (acc : List ByteArray) (k : Nat), fr ≤ i → i = s.size → acc.length ≤ i → 3 ≤ k → fairwayref7_Levels.l0 k s acc (fr : Int) (i : Int) = some (acc ++ [s.extract fr s.size]) := by
    intro fr i acc k hf hi hl hk
    obtain ⟨k, rfl⟩ : ∃ q, k = q + 2 := ⟨k - 2, by omega⟩
    rw [fairwayref7_Levels.l0, if_pos (by omega), if_pos (by omega), if_pos (by omega), if_pos (by omega), if_pos (by omega), wrap_small _ (by omega) (by omega)]
    rw [fairwayref7_Levels.l0, if_neg (by omega), Int.toNat_natCast, Int.toNat_natCast, hi]
  induction m with
  | zero =>
    intro fr i acc k hf hi hm hl hk
    exact fin fr i acc k hf (by omega) hl (by omega)
  | succ m ih =>
    intro fr i acc k hf hi hm hl hk
    by_cases hlt : i < s.size
    · obtain ⟨k, rfl⟩ : ∃ q, k = q + 1 := ⟨k - 1, by omega⟩
      rw [fairwayref7_Levels.l0, if_pos (by omega), if_neg (by omega), if_pos (by omega), if_pos (by omega), bt_nat s i hlt, levB_step s m fr i hlt]
      by_cases h47 : (s.get! i).toNat = 47
      · rw [if_pos (by omega), if_pos h47, if_pos (by omega), if_pos (by omega), if_pos (by omega), wrap_small _ (by omega) (by omega), Int.toNat_natCast, Int.toNat_natCast]
        have := ih (i + 1) (i + 1) (acc ++ [s.extract fr i]) k (by omega) (by omega) (by omega) (by simp; omega) (by omega)
        rw [show ((i + 1 : Nat) : Int) = (i : Int) + 1 by omega] at this
        rw [this, List.append_assoc]; rfl
      · rw [if_neg (by omega), if_neg h47, wrap_small _ (by omega) (by omega)]
        have := ih fr (i + 1) acc k (by omega) (by omega) (by omega) (by omega) (by omega)
        rw [show ((i + 1 : Nat) : Int) = (i : Int) + 1 by omega] at this
        rw [this]
    · rw [fin fr i acc k hf (by omega) hl (by omega), H.levB_end s _ _ _ hlt]
theorem Levels_is (s : ByteArray) (hz : s.size ≤ 1000000) (k : Nat) (hk : s.size + 3 ≤ k) : fairwayref7_Levels.f k s = some (H.levels s) := by
  unfold fairwayref7_Levels.f H.levels
  have := levels_l0 s hz s.size 0 0 [] k (by omega) (by omega) (by omega) (by simp) hk
  rw [show (0 : Int) = ((0 : Nat) : Int) from rfl, this]; rfl
theorem nLevels_is (s : ByteArray) (hz : s.size ≤ 1000000) : name_Levels.f s = some (H.levels s) := by
  unfold name_Levels.f
  rw [if_pos (by omega)]
theorem levB_ne (s : ByteArray) : ∀ (m fr i : Nat), H.levB s m fr i ≠ [] := by
  intro m
  induction m with
  | zero => intro fr i; simp [H.levB]
  | succ m ih =>
    intro fr i
    unfold H.levB
    split
    · split
      · simp
      · exact ih _ _
    · simp
theorem levels_ne (s : ByteArray) : H.levels s ≠ [] := levB_ne s _ _ _
theorem levels_pos (s : ByteArray) : 0 < (H.levels s).length := List.length_pos_iff.2 (levels_ne s)
theorem levB_small (s : ByteArray) : ∀ (m fr i : Nat), ∀ a ∈ H.levB s m fr i, a.size ≤ s.size := by
  intro m
  induction m with
  | zero => intro fr i a ha; simp [H.levB] at ha; rw [ha, ByteArray.size_extract]; omega
  | succ m ih =>
    intro fr i a ha
    unfold H.levB at ha
    split at ha
    · split at ha
      · rcases List.mem_cons.1 ha with rfl | ha
        · rw [ByteArray.size_extract]; omega
        · exact ih _ _ a ha
      · exact ih _ _ a ha
    · simp at ha; rw [ha, ByteArray.size_extract]; omega
theorem levels_small (s : ByteArray) : ∀ a ∈ H.levels s, a.size ≤ s.size := levB_small s _ _ _

def topicS (s : ByteArray) : Int := if checkS s = 0 then (if s.toList = [] then 8 else if H.noneOf wild s = true then (if (H.levels s).length > 16 then 8 else 0) else 8) else checkS s
theorem nTopic_is (s : ByteArray) : name_Topic.f s = some (topicS s) := by
  unfold name_Topic.f topicS
  rw [Check_is]
  simp only [Option.bind_some]
  by_cases h : checkS s = 0
  · have := checkS_small h
    rw [if_pos h, if_pos h]
    by_cases h2 : s.toList = []
    · rw [if_pos h2, if_pos h2]
    · rw [if_neg h2, if_neg h2, nLevels_is s (by omega)]
      simp only [name_plain.f, Option.bind_some]
      by_cases h3 : H.noneOf wild s = true
      · rw [if_pos h3, if_pos h3]
        by_cases h4 : (H.levels s).length > 16
        · rw [if_pos (by omega), if_pos h4]
        · rw [if_neg (by omega), if_neg h4]
      · rw [if_neg h3, if_neg h3]
  · rw [if_neg h, if_neg h]
theorem Topic_is (s : ByteArray) (k : Nat) (hk : 20000 ≤ k) : fairwayref7_Topic.f k s = some (topicS s) := by
  unfold fairwayref7_Topic.f topicS
  rw [Text_is s k (by omega)]
  simp only [Option.bind_some]
  by_cases h : checkS s = 0
  · have := checkS_small h
    rw [if_pos h, if_pos h]
    by_cases h2 : s.toList = []
    · rw [if_pos h2, if_pos h2]
    · rw [if_neg h2, if_neg h2, has_is s _ (by omega) (by decide) k (by omega), hasS_wild, Levels_is s (by omega) k (by omega)]
      simp only [Option.bind_some]
      cases h3 : H.noneOf wild s with
      | true =>
        simp only [Bool.not_true, Bool.false_eq_true, if_false, if_true]
        by_cases h4 : (H.levels s).length > 16
        · rw [if_pos (by omega), if_pos h4]
        · rw [if_neg (by omega), if_neg h4]
      | false => simp
  · rw [if_neg h, if_neg h]

theorem topicS_cases (s : ByteArray) : topicS s = 0 ∨ topicS s = 2 ∨ topicS s = 8 := by
  unfold topicS
  have := checkS_cases s
  repeat' split
  all_goals simp_all

end Go.Proofs.YtoflajekfpggbaaDoor.P
