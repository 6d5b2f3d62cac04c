/- Plain laws: the reference's Text, has, Levels, Topic, Filter; the program's Topic, Filter: both are the same plain functions. -/
import Derived.Test.YtoflajekfpggbaaDoorP2
import Derived.Test.YtoflajekfpggbaaDoorP3
import Derived.Test.YtoflajekfpggbaaDoorP7
import Derived.Test.YtoflajekfpggbaaDoorS1
import Derived.Test.YtoflajekfpggbaaDoorHText
import Derived.Test.YtoflajekfpggbaaDoorHLevels
namespace Go.Proofs.YtoflajekfpggbaaDoor.P
open Go.RowKit Go.Proofs.YtoflajekfpggbaaDoorW.PrintWords Go.Proofs.YtoflajekfpggbaaDoorW.PrintLast Go.Proofs.YtoflajekfpggbaaDoorW.PrintMore
open Go.Proofs.YtoflajekfpggbaaDoor
set_option linter.unusedSimpArgs false
set_option linter.unusedVariables false

theorem extract_extract (s : ByteArray) (i n : Nat) (hi : i ≤ s.size) : (s.extract i s.size).extract n (s.extract i s.size).size = s.extract (i + n) s.size := by
  have hz : (s.extract i s.size).size = s.size - i := by rw [ByteArray.size_extract]; omega
  apply ByteArray.ext
  apply Array.ext'
  rw [Lib.extract_data, hz, Lib.extract_data, Lib.extract_data]
  have hl : s.data.toList.length = s.size := (H.size_data s).symm
  rw [List.take_of_length_le (by rw [List.length_drop, List.length_take, List.length_drop]; omega), List.take_of_length_le (by rw [List.length_drop]; omega), List.take_of_length_le (by rw [List.length_drop]; omega), List.drop_drop]
theorem decode_tail (s : ByteArray) (i : Nat) (hi : i < s.size) : Utf8.decode (s.extract i s.size) 0 = Utf8.decode s i := by
  have h := decodeGo_tail s i hi
  unfold Lib.decodeGo at h
  rwa [if_neg (by rw [ByteArray.size_extract]; omega)] at h

theorem text_l0 (s : ByteArray) (hz : s.size ≤ 1000000) : ∀ (m i k : Nat), i ≤ s.size → s.size ≤ i + m → m + 14 ≤ k → fairwayref1_Text.l0 k (s.extract i s.size) = some (H.checkR s m i) := by
  intro m
  induction m with
  | zero =>
    intro i k hi hm hk
    obtain ⟨k, rfl⟩ : ∃ q, k = q + 1 := ⟨k - 1, by omega⟩
    rw [fairwayref1_Text.l0, if_neg (by rw [ByteArray.size_extract]; omega)]
    rfl
  | succ m ih =>
    intro i k hi hm hk
    obtain ⟨k, rfl⟩ : ∃ q, k = q + 1 := ⟨k - 1, by omega⟩
    by_cases hlt : i < s.size
    · have hsz : (s.extract i s.size).size = s.size - i := by rw [ByteArray.size_extract]; omega
      obtain ⟨q, rfl⟩ : ∃ q, k = q + 12 := ⟨k - 12, by omega⟩
      have h1 := H.decode_wid s i hlt
      have h2 := H.decode_end s i hlt
      rw [fairwayref1_Text.l0, if_pos (by omega), point_is _ (by omega) q, checkR_step s m i hlt]
      simp only [Option.bind_some]
      unfold pointS
      rw [decode_tail s i hlt]
      generalize Utf8.decode s i = d at *
      obtain ⟨c, n⟩ := d
      simp only [] at *
      cases hb : H.goodC (c : Int) && !(c == 65533 && n == 1) with
      | false => simp
      | true =>
        simp only [if_true]
        rw [if_neg (by omega), if_pos (by omega), if_pos (by omega), Int.toNat_natCast, extract_extract s i n (by omega)]
        exact ih (i + n) _ (by omega) (by omega) (by omega)
    · rw [fairwayref1_Text.l0, if_neg (by rw [ByteArray.size_extract]; omega), H.checkR_end _ _ _ hlt]

def checkS (s : ByteArray) : Int := if s.size > 1024 then 2 else H.checkR s s.size 0
theorem checkS_cases (s : ByteArray) : checkS s = 0 ∨ checkS s = 2 ∨ checkS s = 8 := by
  have : ∀ (k i : Nat), H.checkR s k i = 0 ∨ H.checkR s k i = 8 := by
    intro k
    induction k with
    | zero => intro i; exact .inl rfl
    | succ k ih =>
      intro i
      unfold H.checkR
      split
      · split
        · exact ih _
        · exact .inr rfl
      · exact .inl rfl
  unfold checkS
  split
  · exact .inr (.inl rfl)
  · rcases this s.size 0 with h | h
    · exact .inl h
    · exact .inr (.inr h)
theorem checkS_small {s : ByteArray} (h : checkS s = 0) : s.size ≤ 1024 := by
  unfold checkS at h
  split at h
  · cases h
  · omega
theorem Check_is (s : ByteArray) : text_Check.f s = some (checkS s) := rfl
theorem extract_all (s : ByteArray) : s.extract 0 s.size = s := by
  apply ByteArray.ext
  apply Array.ext'
  rw [Lib.extract_data, List.drop_zero, List.take_of_length_le (by rw [← H.size_data]; omega)]
theorem Text_is (s : ByteArray) (k : Nat) (hk : 1100 ≤ k) : fairwayref1_Text.f k s = some (checkS s) := by
  unfold fairwayref1_Text.f checkS
  by_cases h : s.size > 1024
  · rw [if_pos (by omega), if_pos h]
  · rw [if_neg (by omega), if_neg h]
    have := text_l0 s (by omega) s.size 0 k (by omega) (by omega) (by omega)
    rwa [extract_all] at this

/-- One of these signs? -/
def hasS (s g : ByteArray) : Bool := s.data.toList.any fun b => g.data.toList.any fun c => b == c
theorem bt_eq (s g : ByteArray) (i j : Nat) (hi : i < s.size) (hj : j < g.size) : (bt s (i : Int) = bt g (j : Int)) ↔ s.get! i = g.get! j := by
  rw [bt_nat s i hi, bt_nat g j hj]
  constructor
  · intro h; exact UInt8.toNat_inj.1 (by omega)
  · intro h; rw [h]
theorem has_loops (s g : ByteArray) (hz : s.size ≤ 1000000) (hg : g.size ≤ 10) : ∀ (m i : Nat), i ≤ s.size → s.size ≤ i + m →
    (∀ k, m * (g.size + 2) + 1 ≤ k → fairwayref7_has.l0 k s g (i : Int) = some ((s.data.toList.drop i).any fun b => g.data.toList.any fun c => b == c)) := by
  intro m
  induction m with
  | zero =>
    intro i hi hm k hk
    obtain ⟨k, rfl⟩ : ∃ q, k = q + 1 := ⟨k - 1, by omega⟩
    rw [fairwayref7_has.l0, if_neg (by omega), List.drop_eq_nil_of_le (by rw [← H.size_data]; omega)]; rfl
  | succ m ih =>
    intro i hi hm k hk
    obtain ⟨k, rfl⟩ : ∃ q, k = q + 1 := ⟨k - 1, by omega⟩
    by_cases hlt : i < s.size
    · rw [fairwayref7_has.l0, if_pos (by omega), H.drop_step s i hlt, List.any_cons]
      have inner : ∀ (q j k : Nat), j ≤ g.size → g.size ≤ j + q → m * (g.size + 2) + 1 + q + 1 ≤ k → fairwayref7_has.l1 k s g (i : Int) (j : Int) = some (((g.data.toList.drop j).any fun c => s.get! i == c) || (s.data.toList.drop (i + 1)).any fun b => g.data.toList.any fun c => b == c) := by
        intro q
        induction q with
        | zero =>
          intro j k hj hq hk
          obtain ⟨k, rfl⟩ : ∃ q, k = q + 1 := ⟨k - 1, by omega⟩
          rw [fairwayref7_has.l1, if_neg (by omega), wrap_small _ (by omega) (by omega), List.drop_eq_nil_of_le (by rw [← H.size_data]; omega)]
          have := ih (i + 1) (by omega) (by omega) k (by omega)
          rw [show ((i : Int) + 1) = ((i + 1 : Nat) : Int) by omega, this]; simp
        | succ q ihq =>
          intro j k hj hq hk
          obtain ⟨k, rfl⟩ : ∃ q, k = q + 1 := ⟨k - 1, by omega⟩
          by_cases hjl : j < g.size
          · rw [fairwayref7_has.l1, if_pos (by omega), if_pos (by omega), if_pos (by omega), if_pos (by omega), H.drop_step g j hjl, List.any_cons]
            by_cases he : s.get! i = g.get! j
            · rw [if_pos ((bt_eq s g i j hlt hjl).2 he)]
              rw [he]; simp
            · rw [if_neg (fun h => he ((bt_eq s g i j hlt hjl).1 h)), wrap_small _ (by omega) (by omega)]
              rw [show ((j : Int) + 1) = ((j + 1 : Nat) : Int) by omega, ihq (j + 1) k (by omega) (by omega) (by omega)]
              rw [show (s.get! i == g.get! j) = false from beq_eq_false_iff_ne.2 he, Bool.false_or]
          · rw [fairwayref7_has.l1, if_neg (by omega), wrap_small _ (by omega) (by omega), List.drop_eq_nil_of_le (by rw [← H.size_data]; omega)]
            have := ih (i + 1) (by omega) (by omega) k (by omega)
            rw [show ((i : Int) + 1) = ((i + 1 : Nat) : Int) by omega, this]; simp
      have hmul : (m + 1) * (g.size + 2) = m * (g.size + 2) + (g.size + 2) := by rw [Nat.add_mul, Nat.one_mul]
      have := inner g.size 0 k (by omega) (by omega) (by omega)
      rw [show (0 : Int) = ((0 : Nat) : Int) from rfl, this, List.drop_zero]
    · rw [fairwayref7_has.l0, if_neg (by omega), List.drop_eq_nil_of_le (by rw [← H.size_data]; omega)]; rfl
theorem has_is (s g : ByteArray) (hz : s.size ≤ 1000000) (hg : g.size ≤ 10) (k : Nat) (hk : s.size * 12 + 1 ≤ k) : fairwayref7_has.f k s g = some (hasS s g) := by
  unfold fairwayref7_has.f hasS
  have := has_loops s g hz hg s.size 0 (by omega) (by omega) k (by
    have : s.size * (g.size + 2) ≤ s.size * 12 := Nat.mul_le_mul_left _ (by omega)
    omega)
  rw [show (0 : Int) = ((0 : Nat) : Int) from rfl, this, List.drop_zero]
theorem hasS_wild (s : ByteArray) : hasS s ⟨#[43, 35]⟩ = !H.noneOf wild s := by
  unfold hasS H.noneOf
  rw [List.not_all_eq_any_not]
  congr 1
  funext b
  have e1 : (b == 43) = (b.toNat == 43) := by rw [Bool.eq_iff_iff, beq_iff_eq, beq_iff_eq]; exact ⟨fun h => by rw [h]; rfl, fun h => UInt8.toNat_inj.1 h⟩
  have e2 : (b == 35) = (b.toNat == 35) := by rw [Bool.eq_iff_iff, beq_iff_eq, beq_iff_eq]; exact ⟨fun h => by rw [h]; rfl, fun h => UInt8.toNat_inj.1 h⟩
  simp [wild, e1, e2]
end Go.Proofs.YtoflajekfpggbaaDoor.P
