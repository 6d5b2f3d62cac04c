/- Plain facts on the model's decoding of a string's code points (no program): what the hand-made contracts speak of. -/
import Derived.Lib.DecodeN
import Derived.Lib.Strings
import Derived.Laws.RangeAny
namespace Go.Proofs.Ytknljmljlgcfbaa.H
open Go

theorem size_data (s : ByteArray) : s.size = s.data.toList.length := Lib.size_eq s
theorem get_get (s : ByteArray) (j : Nat) (h : j < s.size) : s.get! j = s[j]'h := by
  show s.data[j]! = _
  rw [getElem!_pos s.data j h]; rfl
theorem get_at_data (s : ByteArray) (j : Nat) (h : j < s.size) : (s[j]'h) = s.data.toList[j]'(by rw [← size_data]; exact h) := by
  rw [Array.getElem_toList]; rfl
theorem get_data (s : ByteArray) (j : Nat) (h : j < s.size) : (s.get! j) = s.data.toList[j]'(by rw [← size_data]; exact h) := by
  rw [get_get s j h, get_at_data]

/-- A code point at a place: an ASCII byte, or bytes that are none. -/
theorem decode_spec (s : ByteArray) (i : Nat) (hi : i < s.size) :
    1 ≤ (Utf8.decode s i).2 ∧ i + (Utf8.decode s i).2 ≤ s.size ∧
    (((s.get! i).toNat < 128 ∧ Utf8.decode s i = ((s.get! i).toNat, 1)) ∨
     (128 ≤ (Utf8.decode s i).1 ∧ ∀ j, i ≤ j → j < i + (Utf8.decode s i).2 → 128 ≤ (s.get! j).toNat)) := by
  have b0 := (s.get! i).toNat_lt; have b1 := (s.get! (i + 1)).toNat_lt; have b2 := (s.get! (i + 2)).toNat_lt; have b3 := (s.get! (i + 3)).toNat_lt
  rw [Lib.decode_at]
  obtain ⟨x0, h0⟩ : ∃ x, x = (s.get! i).toNat := ⟨_, rfl⟩
  obtain ⟨x1, h1⟩ : ∃ x, x = (s.get! (i + 1)).toNat := ⟨_, rfl⟩
  obtain ⟨x2, h2⟩ : ∃ x, x = (s.get! (i + 2)).toNat := ⟨_, rfl⟩
  obtain ⟨x3, h3⟩ : ∃ x, x = (s.get! (i + 3)).toNat := ⟨_, rfl⟩
  have key : ∀ m, 128 ≤ x0 → (1 < m → 128 ≤ x1) → (2 < m → 128 ≤ x2) → (3 < m → 128 ≤ x3) → m ≤ 4 → ∀ j, i ≤ j → j < i + m → 128 ≤ (s.get! j).toNat := by
    intro m k0 k1 k2 k3 hm j hj1 hj2
    have : j = i ∨ j = i + 1 ∨ j = i + 2 ∨ j = i + 3 := by omega
    rcases this with rfl | rfl | rfl | rfl
    · rw [← h0]; exact k0
    · rw [← h1]; exact k1 (by omega)
    · rw [← h2]; exact k2 (by omega)
    · rw [← h3]; exact k3 (by omega)
  rw [← h0, ← h1, ← h2, ← h3]
  rw [← h0] at b0; rw [← h1] at b1; rw [← h2] at b2; rw [← h3] at b3
  unfold Lib.decodeN
  split
  · exact ⟨by simp, by simp; omega, .inl ⟨by omega, rfl⟩⟩
  · split
    · split
      · exact ⟨by simp, by simp; omega, .inr ⟨by simp; omega, key 2 (by omega) (fun _ => by omega) (fun h => by omega) (fun h => by omega) (by omega)⟩⟩
      · exact ⟨by simp, by simp; omega, .inr ⟨by simp, key 1 (by omega) (fun h => by omega) (fun h => by omega) (fun h => by omega) (by omega)⟩⟩
    · split
      · split
        · exact ⟨by simp, by simp; omega, .inr ⟨by simp; omega, key 3 (by omega) (fun _ => by omega) (fun h => by omega) (fun h => by omega) (by omega)⟩⟩
        · exact ⟨by simp, by simp; omega, .inr ⟨by simp, key 1 (by omega) (fun h => by omega) (fun h => by omega) (fun h => by omega) (by omega)⟩⟩
      · split
        · split
          · exact ⟨by simp, by simp; omega, .inr ⟨by simp; omega, key 4 (by omega) (fun _ => by omega) (fun h => by omega) (fun h => by omega) (by omega)⟩⟩
          · exact ⟨by simp, by simp; omega, .inr ⟨by simp, key 1 (by omega) (fun h => by omega) (fun h => by omega) (fun h => by omega) (by omega)⟩⟩
        · exact ⟨by simp, by simp; omega, .inr ⟨by simp, key 1 (by omega) (fun h => by omega) (fun h => by omega) (fun h => by omega) (by omega)⟩⟩

theorem decode_lt (s : ByteArray) (i : Nat) : (Utf8.decode s i).1 < 2147483648 := by have := decode_le s i; omega
theorem decode_wid (s : ByteArray) (i : Nat) (hi : i < s.size) : 1 ≤ (Utf8.decode s i).2 := (decode_spec s i hi).1
theorem decode_end (s : ByteArray) (i : Nat) (hi : i < s.size) : i + (Utf8.decode s i).2 ≤ s.size := (decode_spec s i hi).2.1

/-- Bytes of a string that are none of some ASCII signs. -/
def noneOf (p : Nat → Bool) (s : ByteArray) : Bool := s.data.toList.all fun b => !p b.toNat

/-- The same, code point by code point. -/
def noneR (p : Nat → Bool) (s : ByteArray) : Nat → Nat → Bool
  | 0, _ => true
  | k + 1, i => if i < s.size then (if p (Utf8.decode s i).1 then false else noneR p s k (i + (Utf8.decode s i).2)) else true

theorem drop_step (s : ByteArray) (i : Nat) (hi : i < s.size) : s.data.toList.drop i = (s.get! i) :: s.data.toList.drop (i + 1) := by
  rw [get_data s i hi]
  exact List.drop_eq_getElem_cons (by rw [← size_data]; exact hi)
theorem drop_high (p : Nat → Bool) (hp : ∀ c, 128 ≤ c → p c = false) (s : ByteArray) : ∀ (m i : Nat), i + m ≤ s.size → (∀ j, i ≤ j → j < i + m → 128 ≤ (s.get! j).toNat) →
    (s.data.toList.drop i).all (fun b => !p b.toNat) = (s.data.toList.drop (i + m)).all (fun b => !p b.toNat) := by
  intro m
  induction m with
  | zero => intro i _ _; rfl
  | succ m ih =>
    intro i hi hh
    rw [drop_step s i (by omega), List.all_cons, hp _ (hh i (by omega) (by omega)), ih (i + 1) (by omega) (fun j h1 h2 => hh j (by omega) (by omega))]
    simp [Nat.add_assoc, Nat.add_comm 1 m]
theorem noneR_eq (p : Nat → Bool) (hp : ∀ c, 128 ≤ c → p c = false) (s : ByteArray) : ∀ (k i : Nat), s.size ≤ i + k →
    noneR p s k i = (s.data.toList.drop i).all (fun b => !p b.toNat) := by
  intro k
  induction k with
  | zero =>
    intro i h
    rw [List.drop_eq_nil_of_le (by rw [← size_data]; omega)]; rfl
  | succ k ih =>
    intro i h
    unfold noneR
    by_cases hi : i < s.size
    · rw [if_pos hi]
      obtain ⟨h1, h2, h3⟩ := decode_spec s i hi
      rcases h3 with ⟨ha, hd⟩ | ⟨hr, hb⟩
      · rw [ih _ (by omega), hd]
        simp only []
        rw [drop_step s i hi, List.all_cons]
        cases p (s.get! i).toNat <;> simp
      · rw [hp _ hr, ih _ (by omega), drop_high p hp s _ i h2 hb]; rfl
    · rw [if_neg hi, List.drop_eq_nil_of_le (by rw [← size_data]; omega)]; rfl
theorem noneR_all (p : Nat → Bool) (hp : ∀ c, 128 ≤ c → p c = false) (s : ByteArray) : noneR p s s.size 0 = noneOf p s := noneR_eq p hp s s.size 0 (by omega)

/-- What a text check comes to, code point by code point. -/
def goodC (r : Int) : Bool := !(decide (r < 32) || (decide (127 ≤ r) && decide (r ≤ 159)) || decide (1114111 < r) || (decide (55296 ≤ r) && decide (r ≤ 57343)) || (decide (64976 ≤ r) && decide (r ≤ 65007))) && decide (r % 65536 < 65534)
def checkR (s : ByteArray) : Nat → Nat → Int
  | 0, _ => 0
  | k + 1, i => if i < s.size then (if goodC (Utf8.decode s i).1 && !((Utf8.decode s i).1 == 65533 && (Utf8.decode s i).2 == 1) then checkR s k (i + (Utf8.decode s i).2) else 8) else 0
theorem checkR_end (s : ByteArray) (k i : Nat) (h : ¬ i < s.size) : checkR s k i = 0 := by
  cases k with
  | zero => rfl
  | succ k => unfold checkR; rw [if_neg h]

/-- The levels of a text, byte by byte; and code point by code point. -/
def levB (s : ByteArray) : Nat → Nat → Nat → List ByteArray
  | 0, fr, _ => [s.extract fr s.size]
  | k + 1, fr, i => if i < s.size then (if (s.get! i).toNat = 47 then s.extract fr i :: levB s k (i + 1) (i + 1) else levB s k fr (i + 1)) else [s.extract fr s.size]
def levR (s : ByteArray) : Nat → Nat → Nat → List ByteArray
  | 0, fr, _ => [s.extract fr s.size]
  | k + 1, fr, i => if i < s.size then (if (Utf8.decode s i).1 = 47 then s.extract fr i :: levR s k (i + 1) (i + (Utf8.decode s i).2) else levR s k fr (i + (Utf8.decode s i).2)) else [s.extract fr s.size]
theorem levB_end (s : ByteArray) (k fr i : Nat) (h : ¬ i < s.size) : levB s k fr i = [s.extract fr s.size] := by
  cases k with
  | zero => rfl
  | succ k => unfold levB; rw [if_neg h]
theorem levR_end (s : ByteArray) (k fr i : Nat) (h : ¬ i < s.size) : levR s k fr i = [s.extract fr s.size] := by
  cases k with
  | zero => rfl
  | succ k => unfold levR; rw [if_neg h]
theorem levB_high (s : ByteArray) : ∀ (m k fr i : Nat), i + m ≤ s.size → (∀ j, i ≤ j → j < i + m → 128 ≤ (s.get! j).toNat) → levB s (k + m) fr i = levB s k fr (i + m) := by
  intro m
  induction m with
  | zero => intro k fr i _ _; rfl
  | succ m ih =>
    intro k fr i hi hh
    have h0 := hh i (by omega) (by omega)
    rw [show k + (m + 1) = (k + m) + 1 by omega]
    conv => lhs; unfold levB
    rw [if_pos (by omega), if_neg (by omega), ih k fr (i + 1) (by omega) (fun j h1 h2 => hh j (by omega) (by omega))]
    congr 1; omega
theorem levB_fuel (s : ByteArray) : ∀ (k m fr i : Nat), s.size ≤ i + k → levB s (k + m) fr i = levB s k fr i := by
  intro k
  induction k with
  | zero => intro m fr i h; rw [levB_end s _ _ _ (by omega), levB_end s _ _ _ (by omega)]
  | succ k ih =>
    intro m fr i h
    rw [show k + 1 + m = (k + m) + 1 by omega]
    unfold levB
    by_cases hi : i < s.size
    · rw [if_pos hi, if_pos hi, ih m _ _ (by omega), ih m _ _ (by omega)]
    · rw [if_neg hi, if_neg hi]
theorem levR_eq (s : ByteArray) : ∀ (k fr i : Nat), s.size ≤ i + k → levR s k fr i = levB s k fr i := by
  intro k
  induction k using Nat.strongRecOn with
  | _ k ih =>
    intro fr i h
    cases k with
    | zero => rfl
    | succ k =>
      by_cases hi : i < s.size
      · obtain ⟨h1, h2, h3⟩ := decode_spec s i hi
        unfold levR
        rw [if_pos hi]
        rcases h3 with ⟨ha, hd⟩ | ⟨hr, hb⟩
        · rw [hd]
          simp only []
          rw [ih k (by omega) _ _ (by omega), ih k (by omega) _ _ (by omega)]
          conv => rhs; unfold levB
          rw [if_pos hi]
        · rw [if_neg (by omega)]
          rw [ih k (by omega) _ _ (by omega)]
          by_cases hk : (Utf8.decode s i).2 ≤ k + 1
          · obtain ⟨q, hq⟩ : ∃ q, k + 1 = q + (Utf8.decode s i).2 := ⟨k + 1 - (Utf8.decode s i).2, by omega⟩
            rw [hq, levB_high s _ q fr i h2 hb, ← levB_fuel s q ((Utf8.decode s i).2 - 1) _ _ (by omega)]
            congr 1; omega
          · omega
      · rw [levR_end s _ _ _ hi, levB_end s _ _ _ hi]
def levels (s : ByteArray) : List ByteArray := levB s s.size 0 0
theorem levR_all (s : ByteArray) : levR s s.size 0 0 = levels s := levR_eq s s.size 0 0 (by omega)
end Go.Proofs.Ytknljmljlgcfbaa.H
