/- Plain law: DiskRenames: whatever is called, the answers are the page's. -/
import Derived.Test.YtknljmljlgcfbaaP2
import Derived.Test.YtknljmljlgcfbaaOpensDisk
namespace Go.Proofs.Ytknljmljlgcfbaa.P
open Go.RowKit Go.Proofs.YtknljmljlgcfbaaW.PrintWords Go.Proofs.YtknljmljlgcfbaaW.PrintLast Go.Proofs.YtknljmljlgcfbaaW.PrintMore
open Go.Proofs.Ytknljmljlgcfbaa
set_option linter.unusedVariables false
set_option linter.unusedSimpArgs false
theorem actOk_made (x : Int) (hx : x = 3 ∨ x = 9) (a : S64) (h : O.niceAct a) : actOk ⟨x, a.f1, a.f2, a.f3, a.f4, a.f5⟩ = true := by
  obtain ⟨h1, h2, h3, h4⟩ := h
  unfold actOk
  have e1 : decide (a.f2.size ≤ 140737488351232) = true := decide_eq_true h1
  have e2 : decide (a.f4.size ≤ 140737488351232) = true := decide_eq_true h3
  have e3 : decide (a.f5.length ≤ 17592186043904) = true := decide_eq_true (by omega)
  have e4 : decide (a.f3.size ≤ 140737488351232) = true := decide_eq_true h2
  simp only [e1, e2, e3, e4]
  rcases hx with rfl | rfl <;> simp
theorem exact_made (N T : List ByteArray) (L : List S64) (hN : N.length ≤ 8796093022208) (hT : T.length ≤ 8796093022208) (hn : ∀ a ∈ N, a.size ≤ 140737488351232) (ht : ∀ a ∈ T, a.size ≤ 140737488351232) (hL : L.length ≤ 200) (ha : ∀ a ∈ L, actOk a = true) : fairwaylaw9_DiskExact.f N T L = some true := by
  unfold fairwaylaw9_DiskExact.f
  rw [if_pos]
  unfold exactOk
  simp only [Bool.and_eq_true, decide_eq_true_eq, List.all_eq_true]
  exact ⟨hN, hT, hL, hn, ht, ha⟩
theorem calls_l0 (N T : List ByteArray) (L : List S64) (hN : N.length ≤ 8796093022208) (hT : T.length ≤ 8796093022208) (hn : ∀ a ∈ N, a.size ≤ 140737488351232) (ht : ∀ a ∈ T, a.size ≤ 140737488351232) (hL : L.length ≤ 200) (ha : ∀ a ∈ L, O.niceAct a) : ∀ (m k i : Nat) (acc : List S64), i + m = L.length → m + 1 ≤ k → acc.length = i → (∀ a ∈ acc, actOk a = true) → fairwaylaw9_calls.l0 k 9 (i : Int) N T L N T acc = some true
  | 0, k, i, acc, h, hk, hl, hacc => by
    obtain ⟨k, rfl⟩ : ∃ q, k = q + 1 := ⟨k - 1, by omega⟩
    rw [fairwaylaw9_calls.l0, if_neg (by omega), exact_made N T acc hN hT hn ht (by omega) hacc]
    rfl
  | m + 1, k, i, acc, h, hk, hl, hacc => by
    obtain ⟨k, rfl⟩ : ∃ q, k = q + 1 := ⟨k - 1, by omega⟩
    have hi : i < L.length := by omega
    have e1 : wrap64 ((i : Int) + 1) = ((i + 1 : Nat) : Int) := by unfold wrap64; omega
    have er : rd_T64 L (i : Int) = L[i] := by unfold rd_T64; simp [List.getElem?_eq_getElem hi]
    have hnice := ha L[i] (List.getElem_mem hi)
    rw [fairwaylaw9_calls.l0, if_pos (by omega), if_pos (by omega), e1, er]
    split
    · rw [if_pos (by omega)]
      refine calls_l0 N T L hN hT hn ht hL ha m k (i + 1) _ (by omega) (by omega) (by simp; omega) ?_
      intro a hm
      rcases List.mem_append.1 hm with hm | hm
      · exact hacc a hm
      · rw [List.mem_singleton.1 hm]; exact actOk_made _ (.inr rfl) _ hnice
    · rw [if_pos (by omega)]
      refine calls_l0 N T L hN hT hn ht hL ha m k (i + 1) _ (by omega) (by omega) (by simp; omega) ?_
      intro a hm
      rcases List.mem_append.1 hm with hm | hm
      · exact hacc a hm
      · rw [List.mem_singleton.1 hm]; exact actOk_made _ (.inl rfl) _ hnice
theorem DiskRenames_pure (a : List ByteArray × List ByteArray × List S64) (h : O.niceScript a) : ∃ k, fairwaylaw9_DiskRenames.f k a.1 a.2.1 a.2.2 = some true := by
  obtain ⟨N, T, L⟩ := a
  obtain ⟨hN, hT, hL, hn, ht, ha⟩ := h
  simp only at hN hT hL hn ht ha
  refine ⟨N.length + T.length + L.length + 10, ?_⟩
  show fairwaylaw9_DiskRenames.f (N.length + T.length + L.length + 10) N T L = some true
  obtain ⟨r, hr, h200⟩ := heavy_total N T L (by omega) (by omega) (by omega) (N.length + T.length + L.length + 10) (by omega) (by omega) (by omega)
  unfold fairwaylaw9_DiskRenames.f fairwaylaw9_calls.f
  rw [hr]
  cases r with
  | true => rfl
  | false =>
    have := calls_l0 N T L hN hT hn ht (h200 rfl) ha L.length (N.length + T.length + L.length + 10) 0 [] (by omega) (by omega) rfl (fun a hm => nomatch hm)
    show (fairwaylaw9_calls.l0 (N.length + T.length + L.length + 10) 9 0 N T L N T []).bind (fun t => some t) = some true
    rw [show ((0 : Nat) : Int) = 0 from rfl] at this
    rw [this]
    rfl
end Go.Proofs.Ytknljmljlgcfbaa.P
