/- Plain laws: Share: the reference's and the program's are the same plain function; lists of texts. -/
import Derived.Test.YtnaeffgkdoanfaaDoorP3
import Derived.Test.YtnaeffgkdoanfaaDoorP5
import Derived.Test.YtnaeffgkdoanfaaDoorP2
import Derived.Test.YtnaeffgkdoanfaaDoorS4
import Derived.Test.YtnaeffgkdoanfaaDoorHCut
namespace Go.Proofs.YtnaeffgkdoanfaaDoor.P
open Go.RowKit Go.Proofs.YtnaeffgkdoanfaaDoorW.PrintWords Go.Proofs.YtnaeffgkdoanfaaDoorW.PrintLast Go.Proofs.YtnaeffgkdoanfaaDoorW.PrintMore
open Go.Proofs.YtnaeffgkdoanfaaDoor
set_option linter.unusedSimpArgs false
set_option linter.unusedVariables false

def shareB : ByteArray := ⟨#[36, 115, 104, 97, 114, 101, 47]⟩
def beginsS (s : ByteArray) : Bool := decide (7 ≤ s.size) && ((s.extract 0 7).toList == shareB.toList)
theorem Begins_is (s : ByteArray) : fairwayref0_Begins.f s (⟨#[36, 115, 104, 97, 114, 101, 47]⟩ : ByteArray) = some (beginsS s) := by
  unfold fairwayref0_Begins.f beginsS
  have e : ((⟨#[36, 115, 104, 97, 114, 101, 47]⟩ : ByteArray).size : Int) = 7 := rfl
  rw [e]
  by_cases h : 7 ≤ s.size
  · rw [if_pos (by omega), if_pos (by omega), if_pos (by omega)]
    rw [show decide (7 ≤ s.size) = true by simp [h], Bool.true_and]; rfl
  · rw [if_neg (by omega)]; simp [h]
theorem CutPrefix_is (s : ByteArray) : strings_CutPrefix.f s (⟨#[36, 115, 104, 97, 114, 101, 47]⟩ : ByteArray) = some (if beginsS s = true then (s.extract 7 s.size, true) else (s, false)) := by
  unfold strings_CutPrefix.f stringslite_CutPrefix.f
  have hb := Begins_is s
  have hb2 : stringslite_HasPrefix.f s (⟨#[36, 115, 104, 97, 114, 101, 47]⟩ : ByteArray) = some (beginsS s) := hb
  rw [hb2]
  simp only [Option.bind_some]
  have e : ((⟨#[36, 115, 104, 97, 114, 101, 47]⟩ : ByteArray).size : Int) = 7 := rfl
  rw [e]
  by_cases h : beginsS s = true
  · have h7 : 7 ≤ s.size := by unfold beginsS at h; simp only [Bool.and_eq_true, decide_eq_true_eq] at h; exact h.1
    rw [if_pos h, if_pos h, if_pos (by omega), if_pos (by omega)]; rfl
  · rw [if_neg h, if_neg h]; rfl

def badS : Bool × ByteArray × ByteArray × Int := (false, ⟨#[]⟩, ⟨#[]⟩, 8)
/-- What is behind '$share/': a group, a filter. -/
def restS (s : ByteArray) : Bool × ByteArray × ByteArray × Int :=
  if (cutAt s 47).2.2 = true then (if (cutAt s 47).1.toList = [] then badS else if H.noneOf wild (cutAt s 47).1 = true then (if checkS (cutAt s 47).1 = 0 then (if filterS (cutAt s 47).2.1 = 0 then (true, (cutAt s 47).1, (cutAt s 47).2.1, 0) else badS) else badS) else badS) else badS
def shareS (s : ByteArray) : Bool × ByteArray × ByteArray × Int :=
  if beginsS s = true then restS (s.extract 7 s.size) else if filterS s = 0 then (false, ⟨#[]⟩, s, 0) else (false, ⟨#[]⟩, ⟨#[]⟩, filterS s)

theorem nShare_is (s : ByteArray) (hz : s.size ≤ 1000000) (k : Nat) (hk : 30 ≤ k) : name_Share.f k s = some (shareS s) := by
  unfold name_Share.f shareS
  rw [CutPrefix_is]
  simp only [Option.bind_some]
  by_cases h : beginsS s = true
  · rw [if_pos h]
    simp only [if_true]
    have hc : strings_Cut.f (s.extract 7 s.size) (⟨#[47]⟩ : ByteArray) = some (cutAt (s.extract 7 s.size) 47) := by
      unfold strings_Cut.f
      simp only []
      rw [if_pos (by rw [ByteArray.size_extract]; omega)]
    rw [hc, if_pos h]
    simp only [Option.bind_some]
    unfold restS
    by_cases h1 : (cutAt (s.extract 7 s.size) 47).2.2 = true
    · rw [if_pos h1, if_pos h1]
      by_cases h2 : (cutAt (s.extract 7 s.size) 47).1.toList = []
      · rw [if_pos h2, if_pos h2]; rfl
      · rw [if_neg h2, if_neg h2]
        simp only [name_plain.f, Option.bind_some]
        by_cases h3 : H.noneOf wild (cutAt (s.extract 7 s.size) 47).1 = true
        · rw [if_pos h3, if_pos h3, Check_is]
          simp only [Option.bind_some]
          by_cases h4 : checkS (cutAt (s.extract 7 s.size) 47).1 = 0
          · rw [if_pos h4, if_pos h4, nFilter_is _ k hk]
            simp only [Option.bind_some]
            by_cases h5 : filterS (cutAt (s.extract 7 s.size) 47).2.1 = 0
            · rw [if_pos h5, if_pos h5]
            · rw [if_neg h5, if_neg h5]; rfl
          · rw [if_neg h4, if_neg h4]; rfl
        · rw [if_neg h3, if_neg h3]; rfl
    · rw [if_neg h1, if_neg h1]; rfl
  · rw [if_neg h, if_neg h, nFilter_is s k hk]
    simp only [Bool.false_eq_true, if_false, Option.bind_some]
    by_cases h5 : filterS s = 0
    · rw [if_pos h5, if_pos h5]
    · rw [if_neg h5, if_neg h5]

theorem indexByte_none (l : List UInt8) (c : UInt8) (h : Lib.indexByte l c < 0) : c ∉ l := by
  induction l with
  | nil => simp
  | cons b l ih =>
    have hb := indexByte_lt l c
    unfold Lib.indexByte at h
    split at h
    · omega
    · rename_i hne
      split at h
      · rename_i h1
        have := ih (by simp at h1; omega)
        simp only [List.mem_cons, not_or]
        exact ⟨fun e => hne (by rw [e]; simp), this⟩
      · omega
theorem indexByte_some (l : List UInt8) (c : UInt8) (i : Nat) (h : Lib.indexByte l c = (i : Int)) : (∀ j, j < i → ∀ x, l[j]? = some x → x ≠ c) ∧ l[i]? = some c := by
  induction l generalizing i with
  | nil => simp [Lib.indexByte] at h
  | cons b l ih =>
    have hb := indexByte_lt l c
    unfold Lib.indexByte at h
    split at h
    · rename_i hbc
      obtain rfl : i = 0 := by omega
      exact ⟨fun j hj => by omega, by simp at hbc; simp [hbc]⟩
    · rename_i hne
      split at h
      · omega
      · rename_i h1
        obtain ⟨i', rfl⟩ : ∃ q, i = q + 1 := ⟨i - 1, by simp at h1; omega⟩
        obtain ⟨a1, a2⟩ := ih i' (by omega)
        refine ⟨?_, by simpa using a2⟩
        intro j hj x hx
        cases j with
        | zero => simp at hx; intro e; apply hne; rw [hx, e]; simp
        | succ j => exact a1 j (by omega) x (by simpa using hx)

theorem hasS_group (g : ByteArray) (h : (47 : UInt8) ∉ g.data.toList) : hasS g ⟨#[47, 43, 35]⟩ = !H.noneOf wild g := by
  rw [← hasS_wild]
  unfold hasS
  rw [Bool.eq_iff_iff, List.any_eq_true, List.any_eq_true]
  constructor
  · rintro ⟨x, hx, hc⟩
    refine ⟨x, hx, ?_⟩
    have : x ≠ 47 := fun e => h (e ▸ hx)
    simp at hc ⊢
    rcases hc with hc | hc | hc
    · exact absurd hc this
    · exact .inl hc
    · exact .inr hc
  · rintro ⟨x, hx, hc⟩
    refine ⟨x, hx, ?_⟩
    simp at hc ⊢
    exact .inr hc
theorem checkS_big {s : ByteArray} (h : 1024 < s.size) : checkS s ≠ 0 := fun e => by have := checkS_small e; omega

theorem Group_is (g : ByteArray) (hz : g.size ≤ 5000) (k : Nat) (hk : 70000 ≤ k) : fairwayref7_Group.f k g = some (if g.toList = [] then false else if hasS g ⟨#[47, 43, 35]⟩ = true then false else (checkS g == 0)) := by
  unfold fairwayref7_Group.f
  by_cases h : g.toList = []
  · rw [if_pos h, if_pos h]
  · rw [if_neg h, if_neg h, has_is g _ (by omega) (by decide) k (by omega), Text_is g k (by omega)]
    simp only [Option.bind_some]
    by_cases h2 : hasS g ⟨#[47, 43, 35]⟩ = true
    · rw [if_pos h2, if_pos h2]
    · rw [if_neg h2, if_neg h2]

theorem Share_l0 (s : ByteArray) (hz : s.size ≤ 5000) : ∀ (m i k : Nat), i ≤ s.size → s.size ≤ i + m → m + 80000 ≤ k → (∀ j, j < i → (s.get! j).toNat ≠ 47) → fairwayref7_Share.l0 k s (i : Int) = some (restS s) := by
  intro m
  induction m with
  | zero =>
    intro i k hi hm hk hno
    obtain ⟨k, rfl⟩ : ∃ q, k = q + 1 := ⟨k - 1, by omega⟩
    rw [fairwayref7_Share.l0, if_neg (by omega)]
    have : (cutAt s 47).2.2 = false := by
      unfold cutAt
      by_cases hx : 0 ≤ Lib.indexByte s.data.toList 47
      · exfalso
        obtain ⟨j, hj⟩ := Int.eq_ofNat_of_zero_le hx
        obtain ⟨_, h2⟩ := indexByte_some _ _ j hj
        have hlt := indexByte_lt s.data.toList 47
        rw [← H.size_data] at hlt
        have hjl : j < s.size := by omega
        apply hno j (by omega)
        rw [H.get_data s j hjl]
        rw [List.getElem?_eq_getElem (by rw [← H.size_data]; exact hjl)] at h2
        rw [Option.some.inj h2]; rfl
      · rw [if_neg hx]
    unfold restS
    rw [this, if_neg (by decide)]; rfl
  | succ m ih =>
    intro i k hi hm hk hno
    obtain ⟨k, rfl⟩ : ∃ q, k = q + 1 := ⟨k - 1, by omega⟩
    by_cases hlt : i < s.size
    · rw [fairwayref7_Share.l0, if_pos (by omega), if_pos (by omega), bt_nat s i hlt]
      by_cases h47 : (s.get! i).toNat = 47
      · rw [if_pos (by omega), if_pos (by omega), wrap_small _ (by omega) (by omega)]
        have hidx : Lib.indexByte s.data.toList 47 = (i : Int) := by
          have hb := indexByte_lt s.data.toList 47
          rw [← H.size_data] at hb
          have hmem : s.data.toList[i]? = some 47 := by
            rw [List.getElem?_eq_getElem (by rw [← H.size_data]; exact hlt), ← H.get_data s i hlt]
            exact congrArg some (UInt8.toNat_inj.1 h47)
          by_cases hx : 0 ≤ Lib.indexByte s.data.toList 47
          · obtain ⟨j, hj⟩ := Int.eq_ofNat_of_zero_le hx
            obtain ⟨h1, h2⟩ := indexByte_some _ _ j hj
            rcases Nat.lt_trichotomy j i with hji | hji | hji
            · exfalso
              apply hno j hji
              have hjl : j < s.size := by omega
              rw [H.get_data s j hjl]
              rw [List.getElem?_eq_getElem (by rw [← H.size_data]; exact hjl)] at h2
              rw [Option.some.inj h2]; rfl
            · rw [hj, hji]
            · exact absurd rfl (h1 i hji _ hmem)
          · exact absurd (List.mem_of_getElem? hmem) (indexByte_none _ _ (by omega))
        have hcut : cutAt s 47 = (s.extract 0 i, s.extract (i + 1) s.size, true) := by
          unfold cutAt
          rw [hidx, if_pos (by omega), Int.toNat_natCast]
        have hgz : (s.extract 0 i).size ≤ 5000 := by rw [ByteArray.size_extract]; omega
        rw [Int.toNat_natCast, Group_is _ hgz k (by omega)]
        simp only [Option.bind_some]
        have hng : (47 : UInt8) ∉ (s.extract 0 i).data.toList := by
          rw [Lib.extract_data, List.drop_zero, Nat.sub_zero]
          intro hm
          obtain ⟨j, hj, he⟩ := List.mem_iff_getElem.1 hm
          rw [List.length_take] at hj
          rw [List.getElem_take] at he
          apply hno j (by omega)
          rw [H.get_data s j (by omega), he]; rfl
        rw [hasS_group _ hng]
        unfold restS
        rw [hcut]
        simp only [if_true]
        by_cases g1 : (s.extract 0 i).toList = []
        · rw [if_pos g1, if_pos g1, if_neg (by decide)]; rfl
        · rw [if_neg g1, if_neg g1]
          by_cases g2 : H.noneOf wild (s.extract 0 i) = true
          · rw [if_pos g2, g2]
            simp only [Bool.not_true, Bool.false_eq_true, if_false]
            by_cases g3 : checkS (s.extract 0 i) = 0
            · rw [if_pos g3, if_pos (by simp [g3]), if_pos (by omega), if_pos (by omega), show ((i : Int) + 1).toNat = i + 1 by omega, Filter_is _ k (by omega)]
              simp only [Option.bind_some]
              by_cases g4 : filterS (s.extract (i + 1) s.size) = 0
              · rw [if_pos g4, if_pos g4]
              · rw [if_neg g4, if_neg g4]; rfl
            · rw [if_neg g3, if_neg (by simp [g3])]; rfl
          · rw [if_neg g2, Bool.eq_false_iff.2 g2]; rfl
      · rw [if_neg (by omega), wrap_small _ (by omega) (by omega)]
        have := ih (i + 1) k (by omega) (by omega) (by omega) (fun j hj => by
          by_cases hji : j = i
          · rw [hji]; exact h47
          · exact hno j (by omega))
        rw [show ((i + 1 : Nat) : Int) = (i : Int) + 1 by omega] at this
        exact this
    · rw [show restS s = badS from ?_, fairwayref7_Share.l0, if_neg (by omega)]
      · rfl
      · have h0 := ih i (80000 + m + 1) (by omega) (by omega) (by omega) hno
        rw [show 80000 + m + 1 = (80000 + m) + 1 from rfl, fairwayref7_Share.l0, if_neg (by omega)] at h0
        exact (Option.some.inj h0).symm
theorem Share_is (s : ByteArray) (hz : s.size ≤ 5000) (k : Nat) (hk : 90000 ≤ k) : fairwayref7_Share.f k s = some (shareS s) := by
  unfold fairwayref7_Share.f shareS
  rw [Begins_is]
  simp only [Option.bind_some]
  by_cases h : beginsS s = true
  · have h7 : 7 ≤ s.size := by unfold beginsS at h; simp only [Bool.and_eq_true, decide_eq_true_eq] at h; exact h.1
    rw [if_pos h, if_pos h, if_pos (by omega)]
    have := Share_l0 (s.extract 7 s.size) (by rw [ByteArray.size_extract]; omega) (s.extract 7 s.size).size 0 k (by omega) (by omega) (by rw [ByteArray.size_extract]; omega) (fun j hj => by omega)
    rw [show ((0 : Nat) : Int) = 0 from rfl] at this
    exact this
  · rw [if_neg h, if_neg h, Filter_is s k (by omega)]
    simp only [Option.bind_some]
    by_cases h5 : filterS s = 0
    · rw [if_pos h5, if_pos h5]
    · rw [if_neg h5, if_neg h5]

theorem EqStrings_l0 (l : List ByteArray) (hl : l.length ≤ 100000) : ∀ (m i k : Nat), i ≤ l.length → l.length ≤ i + m → m + 1 ≤ k → fairwayref0_EqStrings.l0 k l l (i : Int) = some true := by
  intro m
  induction m with
  | zero =>
    intro i k hi hm hk
    obtain ⟨k, rfl⟩ : ∃ q, k = q + 1 := ⟨k - 1, by omega⟩
    rw [fairwayref0_EqStrings.l0, if_neg (by omega)]
  | succ m ih =>
    intro i k hi hm hk
    obtain ⟨k, rfl⟩ : ∃ q, k = q + 1 := ⟨k - 1, by omega⟩
    by_cases hlt : i < l.length
    · rw [fairwayref0_EqStrings.l0, if_pos (by omega), if_pos (by omega), if_pos (by omega), if_pos rfl, wrap_small _ (by omega) (by omega)]
      have := ih (i + 1) k (by omega) (by omega) (by omega)
      rw [show ((i + 1 : Nat) : Int) = (i : Int) + 1 by omega] at this
      exact this
    · rw [fairwayref0_EqStrings.l0, if_neg (by omega)]
theorem EqStrings_is (l : List ByteArray) (hl : l.length ≤ 100000) (k : Nat) (hk : l.length + 1 ≤ k) : fairwayref0_EqStrings.f k l l = some true := by
  unfold fairwayref0_EqStrings.f
  rw [if_pos rfl]
  have := EqStrings_l0 l hl l.length 0 k (by omega) (by omega) (by omega)
  rw [show ((0 : Nat) : Int) = 0 from rfl] at this
  exact this
theorem Strings_l0 : ∀ (m : Nat) (l : List ByteArray) (i k : Nat), l.length ≤ 100000 → i ≤ l.length → l.length ≤ i + m → m + 1 ≤ k → fairwaylaw0_Strings.l0 k l (i : Int) = some () := by
  intro m
  induction m with
  | zero =>
    intro l i k hl hi hm hk
    obtain ⟨k, rfl⟩ : ∃ q, k = q + 1 := ⟨k - 1, by omega⟩
    rw [fairwaylaw0_Strings.l0, if_neg (by omega), if_pos (by omega)]
  | succ m ih =>
    intro l i k hl hi hm hk
    obtain ⟨k, rfl⟩ : ∃ q, k = q + 1 := ⟨k - 1, by omega⟩
    by_cases hlt : i < l.length
    · rw [fairwaylaw0_Strings.l0, if_pos (by omega), if_pos (by omega), wrap_small _ (by omega) (by omega)]
      have := ih (l.set i (⟨#[63]⟩ : ByteArray)) (i + 1) k (by simpa using hl) (by simp; omega) (by simp; omega) (by omega)
      rw [show ((i + 1 : Nat) : Int) = (i : Int) + 1 by omega] at this
      exact this
    · rw [fairwaylaw0_Strings.l0, if_neg (by omega), if_pos (by omega)]
theorem Strings_is (l : List ByteArray) (hl : l.length ≤ 100000) (k : Nat) (hk : l.length + 1 ≤ k) : fairwaylaw0_Strings.f k l = some () := by
  unfold fairwaylaw0_Strings.f
  have := Strings_l0 l.length l 0 k hl (by omega) (by omega) (by omega)
  rw [show ((0 : Nat) : Int) = 0 from rfl] at this
  exact this
theorem levB_len (s : ByteArray) : ∀ (m fr i : Nat), i ≤ s.size → (H.levB s m fr i).length ≤ s.size - i + 1 := by
  intro m
  induction m with
  | zero => intro fr i hi; simp [H.levB]
  | succ m ih =>
    intro fr i hi
    unfold H.levB
    split
    · split
      · have := ih (i + 1) (i + 1) (by omega); simp; omega
      · have := ih fr (i + 1) (by omega); omega
    · simp
theorem levels_len (s : ByteArray) : (H.levels s).length ≤ s.size + 1 := by unfold H.levels; have := levB_len s s.size 0 0 (by omega); simpa using this
end Go.Proofs.YtnaeffgkdoanfaaDoor.P
