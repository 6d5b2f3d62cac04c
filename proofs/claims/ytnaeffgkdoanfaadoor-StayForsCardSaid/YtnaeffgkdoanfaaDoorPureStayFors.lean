/- Plain law: StayFors. -/
import Derived.Test.YtnaeffgkdoanfaaDoorP8
import Derived.Test.YtnaeffgkdoanfaaDoorP5
import Derived.Test.YtnaeffgkdoanfaaDoorP4
import Derived.Test.YtnaeffgkdoanfaaDoorS4
import Derived.Test.YtnaeffgkdoanfaaDoorS7
import Derived.Test.YtnaeffgkdoanfaaDoorS9
import Derived.Test.YtnaeffgkdoanfaaDoorHFor
import Derived.Test.YtnaeffgkdoanfaaDoorOpensStay
namespace Go.Proofs.YtnaeffgkdoanfaaDoor.P
open Go.RowKit Go.Proofs.YtnaeffgkdoanfaaDoorW.PrintWords Go.Proofs.YtnaeffgkdoanfaaDoorW.PrintLast Go.Proofs.YtnaeffgkdoanfaaDoorW.PrintMore
set_option linter.unusedSimpArgs false
set_option linter.unusedVariables false

theorem For_loop (l : List S50) (f : ByteArray) (hl : l.length ≤ 100000) : ∀ (n i k : Nat) (m : List S50), i + n = l.length → m = (l.take i).filter (fun x => matchS f x.f0) → 25001 + n ≤ k → fairwayref17_For.l0 k l f m (i : Int) = some (l.filter (fun x => matchS f x.f0)) := by
  intro n
  induction n with
  | zero =>
    intro i k m h hm hk
    obtain ⟨k, rfl⟩ : ∃ q, k = q + 1 := ⟨k - 1, by omega⟩
    rw [fairwayref17_For.l0, if_neg (by omega), hm, List.take_of_length_le (by omega)]
  | succ n ih =>
    intro i k m h hm hk
    obtain ⟨k, rfl⟩ : ∃ q, k = q + 1 := ⟨k - 1, by omega⟩
    have hi : i < l.length := by omega
    have e1 : wrap64 ((i : Int) + 1) = ((i + 1 : Nat) : Int) := by rw [wrap_small _ (by omega) (by omega)]; omega
    have hml : m.length ≤ l.length := by rw [hm]; exact Nat.le_trans (List.length_filter_le _ _) (by rw [List.length_take]; omega)
    have ht : (l.take (i + 1)).filter (fun x => matchS f x.f0) = m ++ (if matchS f l[i].f0 = true then [l[i]] else []) := by
      rw [List.take_succ_eq_append_getElem hi, List.filter_append, ← hm]
      congr 1
      by_cases hb : matchS f l[i].f0 = true
      · rw [if_pos hb, List.filter_cons_of_pos (by simpa using hb)]; rfl
      · rw [if_neg hb, List.filter_cons_of_neg (by simpa using hb)]; rfl
    rw [fairwayref17_For.l0, if_pos (by omega), if_pos (by omega), rd50_at l i hi, Match_is _ _ _ (by omega), e1]
    simp only [Option.bind_some]
    by_cases hb : matchS f l[i].f0 = true
    · rw [if_pos hb] at ht ⊢
      rw [if_pos (by omega)]
      exact ih (i + 1) k _ (by omega) ht.symm (by omega)
    · rw [if_neg hb] at ht ⊢
      rw [List.append_nil] at ht
      exact ih (i + 1) k _ (by omega) ht.symm (by omega)
theorem For_is (l : List S50) (f : ByteArray) (hl : l.length ≤ 100000) (k : Nat) (hk : 25001 + l.length ≤ k) : fairwayref17_For.f k l f = some (l.filter (fun x => matchS f x.f0)) := by
  unfold fairwayref17_For.f
  have := For_loop l f hl l.length 0 k [] (by omega) rfl hk
  exact this
def forS (l : List S50) (f : ByteArray) : List S50 × Int := if (keptS l && decide (filterS f = 0)) = true then (l.filter (fun x => matchS f x.f0), 0) else ([], 1)
theorem sFor_is (l : List S50) (hl : l.length ≤ 1000000) (f : ByteArray) : stay_For.f l f = some (forS l f) := by
  unfold stay_For.f forS
  rw [if_pos hl, sCheck_is l hl 20 (by omega)]
  simp only [Option.bind_some]
  cases hk : keptS l with
  | false =>
    rw [if_neg (by decide), if_neg (by simp)]
  | true =>
    rw [if_pos (show bad1 true = 0 from rfl), nFilter_is f 30 (by omega)]
    simp only [Option.bind_some, Bool.true_and]
    by_cases hf : filterS f = 0
    · rw [if_pos hf, decide_eq_true hf, if_pos rfl]
    · rw [if_neg hf, decide_eq_false hf, if_neg (by decide)]
set_option maxRecDepth 20000 in
theorem StayFors_loop (B L : List S50) (F : List ByteArray) (hB : B.length ≤ 8000) (hF : F.length ≤ 8000) : ∀ (m i : Nat), i ≤ F.length → i ≤ 15 → 15 ≤ i + m → ∀ k, 100000 + m * 10 ≤ k → fairwaylaw18_StayFors.l0 k (i : Int) B L F = some true := by
  intro m
  have stop : ∀ (i : Nat) (k : Nat), i ≤ F.length → 15 ≤ i ∨ F.length ≤ i → 200 ≤ k → fairwaylaw18_StayFors.l0 k (i : Int) B L F = some true := by
    intro i k hi h hk
    obtain ⟨k, rfl⟩ : ∃ q, k = q + 2 := ⟨k - 2, by omega⟩
    have e : fairwaylaw18_StayFors.j1 (k + 1) (i : Int) false B L F = some true := by
      rw [fairwaylaw18_StayFors.j1, if_neg (by decide), wakes18_is]; rfl
    rw [fairwaylaw18_StayFors.l0]
    by_cases hlt : i < F.length
    · rw [if_pos (by omega), show decide ((i : Int) < 15) = false by simp; omega, e]
    · rw [if_neg (by omega), e]
  induction m with
  | zero => intro i hi h15 hm k hk; exact stop i k hi (.inl (by omega)) (by omega)
  | succ m ih =>
    intro i hi h15 hm k hk
    by_cases hlt : i < F.length ∧ i < 15
    · obtain ⟨h1, h2⟩ := hlt
      obtain ⟨k, rfl⟩ : ∃ q, k = q + 6 := ⟨k - 6, by omega⟩
      obtain ⟨C, hC⟩ : ∃ C, C = 100000 + m * 10 := ⟨_, rfl⟩
      have ih : ∀ (i : Nat), i ≤ F.length → i ≤ 15 → 15 ≤ i + m → ∀ k, C ≤ k → fairwaylaw18_StayFors.l0 k (i : Int) B L F = some true := by rw [hC]; exact ih
      have hk : C + 10 ≤ k + 6 := by omega
      have hC0 : 100000 ≤ C := by omega
      clear hC
      have e1 : wrap64 ((i : Int) + 1) = ((i + 1 : Nat) : Int) := by rw [wrap_small _ (by omega) (by omega)]; omega
      have hlen : ∀ f, (B.filter (fun x => matchS f x.f0)).length ≤ 8000 := fun f => Nat.le_trans (List.length_filter_le _ _) hB
      have last : ∀ (x : List S50) (bad : Int) (q : Nat), x.length ≤ 8000 → C ≤ q → fairwaylaw18_StayFors.j3 (q + 1) (i : Int) x bad bad x B L F = some true := by
        intro x bad q hx hq
        rw [fairwaylaw18_StayFors.j3]
        simp only [fairwaylaw18_num.f, Option.bind_some]
        rw [if_pos trivial, EqKept_is x (by omega) _ (by omega)]
        simp only [Option.bind_some, if_true]
        rw [e1]
        exact ih (i + 1) (by omega) (by omega) (by omega) q hq
      rw [fairwaylaw18_StayFors.l0, if_pos (by omega), show decide ((i : Int) < 15) = true by simp; omega, fairwaylaw18_StayFors.j1, if_pos rfl, Copy_is B (by omega) _ (by omega)]
      simp only [Option.bind_some]
      rw [if_pos (by omega), if_pos (by omega), rdOf_at F i h1, sFor_is B (by omega), Kept_is B (by omega) _ (by omega)]
      simp only [Option.bind_some, forS]
      cases hkb : keptS B with
      | false =>
        rw [if_neg (by decide), fairwaylaw18_StayFors.j2, if_neg (by decide)]
        exact last [] 1 (k + 2) (by simp) (by omega)
      | true =>
        rw [if_pos rfl, Filter_is _ _ (by omega)]
        simp only [Option.bind_some, Bool.true_and]
        by_cases hf : filterS F[i] = 0
        · rw [decide_eq_true hf, show (filterS F[i] == 0) = true from beq_iff_eq.mpr hf, fairwaylaw18_StayFors.j2, if_pos rfl, if_pos (by omega), if_pos (by omega), rdOf_at F i h1, For_is B _ (by omega) _ (by omega)]
          simp only [Option.bind_some, if_true]
          exact last _ 0 (k + 2) (hlen _) (by omega)
        · rw [decide_eq_false hf, show (filterS F[i] == 0) = false from beq_eq_false_iff_ne.mpr hf, fairwaylaw18_StayFors.j2, if_neg (by decide)]
          exact last [] 1 (k + 2) (by simp) (by omega)
    · exact stop i k hi (by omega) (by omega)
theorem StayFors_pure (a : List S50 × List S50 × List ByteArray) (h : O.niceScript a) : ∃ k, fairwaylaw18_StayFors.f k a.1 a.2.1 a.2.2 = some true := by
  refine ⟨2000000, ?_⟩
  unfold fairwaylaw18_StayFors.f
  obtain ⟨b, e, h'⟩ := heavy18_is a.1 a.2.1 a.2.2 h.1 h.2.1 h.2.2.1 (fun b hb => ⟨(h.2.2.2.1 b hb).1, (h.2.2.2.1 b hb).2⟩) (fun b hb => ⟨(h.2.2.2.2.1 b hb).1, (h.2.2.2.2.1 b hb).2⟩) h.2.2.2.2.2 2000000 (by omega)
  rw [e]
  simp only [Option.bind_some]
  cases b with
  | true => rw [if_pos rfl]
  | false =>
    obtain ⟨h1, h2, h3⟩ := h' rfl
    rw [if_neg (by decide)]
    have := StayFors_loop a.1 a.2.1 a.2.2 h1 h3 15 0 (by omega) (by omega) (by omega) 2000000 (by omega)
    rw [show ((0 : Nat) : Int) = 0 from rfl] at this
    exact this
end Go.Proofs.YtnaeffgkdoanfaaDoor.P
