/- Plain: the page's names are the disk's. -/
import Derived.Test.YtknljmljlgcfbaaDisk1
import Derived.Test.YtknljmljlgcfbaaP1
namespace Go.Proofs.Ytknljmljlgcfbaa.P
open Go.RowKit Go.Proofs.YtknljmljlgcfbaaW.PrintWords Go.Proofs.YtknljmljlgcfbaaW.PrintLast Go.Proofs.YtknljmljlgcfbaaW.PrintMore
open Go.Proofs.Ytknljmljlgcfbaa
set_option linter.unusedSimpArgs false
set_option linter.unusedVariables false
def allB (s : ByteArray) : Nat → Nat → Bool
  | 0, _ => true
  | m + 1, i => !badD (s.get! i).toNat && allB s m (i + 1)
theorem okD_all (s : ByteArray) : ∀ (k m i : Nat), i + m = s.size → m ≤ k → okD s k i = allB s m i
  | k, 0, i, h, _ => okD_end s k i (by omega)
  | 0, m + 1, i, h, hk => by omega
  | k + 1, m + 1, i, h, hk => by
    rw [okD_step s k i (by omega)]
    obtain ⟨_, _, h3⟩ := H.decode_spec s i (by omega)
    unfold allB
    rcases h3 with ⟨_, h4⟩ | ⟨h4, h5⟩
    · rw [h4]
      show (if badD (s.get! i).toNat = true then false else okD s k (i + 1)) = _
      rw [okD_all s k m (i + 1) (by omega) (by omega)]
      cases badD (s.get! i).toNat <;> rfl
    · rw [if_pos (badD_high _ h4), badD_high _ (h5 i (Nat.le_refl _) (by have := H.decode_wid s i (by omega); omega))]
      rfl
theorem refName_l0 (s : ByteArray) (hs : s.size ≤ 4000000000000000000) : ∀ (m k i : Nat), i + m = s.size → m + 1 ≤ k → fairwayref9_Name.l0 k s (i : Int) = some (allB s m i && (decide (1 ≤ s.size) && decide (s.size ≤ 64)))
  | 0, k, i, h, hk => by
    obtain ⟨k, rfl⟩ : ∃ q, k = q + 1 := ⟨k - 1, by omega⟩
    rw [fairwayref9_Name.l0, if_neg (by omega)]
    unfold allB
    by_cases h1 : 1 ≤ s.size
    · rw [if_pos (by omega)]; simp [h1]; omega
    · rw [if_neg (by omega)]; simp [h1]
  | m + 1, k, i, h, hk => by
    obtain ⟨k, rfl⟩ : ∃ q, k = q + 1 := ⟨k - 1, by omega⟩
    have e1 : wrap64 ((i : Int) + 1) = ((i + 1 : Nat) : Int) := by unfold wrap64; omega
    have eb : bt s (i : Int) = ((s.get! i).toNat : Int) := by rw [← bt_at s (i : Int) (by show i < s.size; omega), H.get_get s i (by omega)]; rfl
    rw [fairwayref9_Name.l0, if_pos (by omega), if_pos (by omega), eb, e1]
    unfold allB badD
    have hb := (s.get! i).toNat_lt
    by_cases h1 : (s.get! i).toNat < 33
    · rw [if_pos (by omega)]; simp [h1]
    · rw [if_neg (by omega)]
      by_cases h2 : 126 < (s.get! i).toNat
      · rw [if_pos (by omega)]; simp [h2]
      · rw [if_neg (by omega), refName_l0 s hs m k (i + 1) (by omega) (by omega)]
        simp [h1, h2]
theorem refName_eq (s : ByteArray) (hs : s.size ≤ 4000000000000000000) : fairwayref9_Name.f (s.size + 1) s = some (namedD s) := by
  unfold fairwayref9_Name.f
  have := refName_l0 s hs s.size (s.size + 1) 0 (by omega) (by omega)
  rw [show ((0 : Nat) : Int) = 0 from rfl] at this
  rw [this, ← okD_all s s.size s.size 0 (by omega) (Nat.le_refl _)]
  unfold namedD
  have hl : (s.toList = []) ↔ s.size = 0 := by
    rw [Go.ByteArray.toList_eq, ← List.length_eq_zero_iff]
    exact Iff.rfl
  by_cases h0 : s.size = 0
  · rw [if_pos (hl.2 h0), h0]; simp
  · rw [if_neg (fun e => h0 (hl.1 e))]
    by_cases h64 : s.size > 64
    · rw [if_pos h64]; simp; omega
    · rw [if_neg h64]
      have a1 : decide (1 ≤ s.size) = true := decide_eq_true (by omega)
      have a2 : decide (s.size ≤ 64) = true := decide_eq_true (by omega)
      rw [a1, a2]; simp
theorem refName.named (s : ByteArray) (hs : s.size ≤ 4000000000000000000) (w : World) : Calls Try.prog 56 #[.string s] w fun e w' => e = .returned (.bool (namedD s)) ∧ Drawn0 w w' := fairwayref9_Name.calls _ s _ w (refName_eq s hs)
end Go.Proofs.Ytknljmljlgcfbaa.P
