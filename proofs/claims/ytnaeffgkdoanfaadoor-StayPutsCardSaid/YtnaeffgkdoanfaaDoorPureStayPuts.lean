/- Plain law: StayPuts. -/
import Derived.Test.YtnaeffgkdoanfaaDoorP7
import Derived.Test.YtnaeffgkdoanfaaDoorP2
import Derived.Test.YtnaeffgkdoanfaaDoorS8
import Derived.Test.YtnaeffgkdoanfaaDoorOpensStay
namespace Go.Proofs.YtnaeffgkdoanfaaDoor.P
open Go.RowKit Go.Proofs.YtnaeffgkdoanfaaDoorW.PrintWords Go.Proofs.YtnaeffgkdoanfaaDoorW.PrintLast Go.Proofs.YtnaeffgkdoanfaaDoorW.PrintMore
set_option linter.unusedSimpArgs false
set_option linter.unusedVariables false

theorem wakes18_is : fairwaylaw18_wakes.f = some true := by decide +kernel
/-- What the row's niceness gives of one that is kept. -/
structure Nice50 (r : S50) : Prop where
  h0 : r.f0.size ≤ 140737488351232
  h1 : r.f1.size ≤ 140737488351232
theorem KeptWeight_loop (l : List S50) (hl : l.length ≤ 9223372036854775000) (hn : ∀ a ∈ l, Nice50 a) : ∀ (m i : Nat) (v : Int) (k : Nat), (l.length : Int) ≤ v → v ≤ 9223372036854775807 → i ≤ l.length → (v < 1048576 → l.length ≤ i + m) → m + 1 ≤ k →
    ∃ u, fairwaylaw0_KeptWeight.l0 k l v (i : Int) = some u ∧ (l.length : Int) ≤ u ∧ (u < 1048576 ∨ v < 1048576 ∨ u = v) ∧ (v < 1048576 → u ≤ 1048576 + 281474976710656) := by
  intro m
  induction m with
  | zero =>
    intro i v k hv hv2 hi hm hk
    obtain ⟨k, rfl⟩ : ∃ q, k = q + 1 := ⟨k - 1, by omega⟩
    rw [fairwaylaw0_KeptWeight.l0]
    by_cases h1 : (i : Int) < (l.length : Int)
    · have : ¬ v < 1048576 := fun h => by have := hm h; omega
      rw [if_pos h1, if_neg this]
      exact ⟨v, rfl, hv, by omega, by omega⟩
    · rw [if_neg h1]
      exact ⟨v, rfl, hv, by omega, by omega⟩
  | succ m ih =>
    intro i v k hv hv2 hi hm hk
    obtain ⟨k, rfl⟩ : ∃ q, k = q + 1 := ⟨k - 1, by omega⟩
    rw [fairwaylaw0_KeptWeight.l0]
    by_cases h1 : (i : Int) < (l.length : Int)
    · rw [if_pos h1]
      by_cases h2 : v < 1048576
      · have hx := hn l[i] (List.getElem_mem (by omega))
        have a0 := hx.h0
        have a1 := hx.h1
        rw [if_pos h2, if_pos (by omega), rd50_at l i (by omega), wrap_small (v + _) (by omega) (by omega), wrap_small _ (by omega) (by omega), wrap_small _ (by omega) (by omega)]
        obtain ⟨u, e, h3, h4, h5⟩ := ih (i + 1) (v + (l[i].f0.size : Int) + (l[i].f1.size : Int)) k (by omega) (by omega) (by omega) (fun h => by have := hm h2; omega) (by omega)
        rw [show ((i + 1 : Nat) : Int) = (i : Int) + 1 by omega] at e
        refine ⟨u, e, h3, by omega, fun _ => ?_⟩
        by_cases h6 : v + (l[i].f0.size : Int) + (l[i].f1.size : Int) < 1048576
        · exact h5 h6
        · rcases h4 with h | h | h <;> omega
      · rw [if_neg h2]
        exact ⟨v, rfl, hv, by omega, by omega⟩
    · rw [if_neg h1]
      exact ⟨v, rfl, hv, by omega, by omega⟩
theorem KeptWeight_is (l : List S50) (hl : l.length ≤ 2932031007402) (hn : ∀ a ∈ l, Nice50 a) (k : Nat) (hk : 1048578 ≤ k) : ∃ u, fairwaylaw0_KeptWeight.f k l = some u ∧ (l.length : Int) ≤ u ∧ u ≤ 300000000000000 := by
  unfold fairwaylaw0_KeptWeight.f
  obtain ⟨u, e, h1, h2, h3⟩ := KeptWeight_loop l (by omega) hn 1048577 0 (l.length : Int) k (Int.le_refl _) (by omega) (by omega) (fun h => by omega) (by omega)
  refine ⟨u, e, h1, ?_⟩
  by_cases h : (l.length : Int) < 1048576
  · have := h3 h; omega
  · rcases h2 with h | h | h <;> omega
theorem TextWeight_loop (l : List ByteArray) (hl : l.length ≤ 9223372036854775000) (hn : ∀ a ∈ l, a.size ≤ 140737488351232) : ∀ (m i : Nat) (v : Int) (k : Nat), (l.length : Int) ≤ v → v ≤ 9223372036854775807 → i ≤ l.length → (v < 1048576 → l.length ≤ i + m) → m + 1 ≤ k →
    ∃ u, fairwaylaw0_TextWeight.l0 k l v (i : Int) = some u ∧ (l.length : Int) ≤ u ∧ (u < 1048576 ∨ v < 1048576 ∨ u = v) ∧ (v < 1048576 → u ≤ 1048576 + 281474976710656) := by
  intro m
  induction m with
  | zero =>
    intro i v k hv hv2 hi hm hk
    obtain ⟨k, rfl⟩ : ∃ q, k = q + 1 := ⟨k - 1, by omega⟩
    rw [fairwaylaw0_TextWeight.l0]
    by_cases h1 : (i : Int) < (l.length : Int)
    · have : ¬ v < 1048576 := fun h => by have := hm h; omega
      rw [if_pos h1, if_neg this]
      exact ⟨v, rfl, hv, by omega, by omega⟩
    · rw [if_neg h1]
      exact ⟨v, rfl, hv, by omega, by omega⟩
  | succ m ih =>
    intro i v k hv hv2 hi hm hk
    obtain ⟨k, rfl⟩ : ∃ q, k = q + 1 := ⟨k - 1, by omega⟩
    rw [fairwaylaw0_TextWeight.l0]
    by_cases h1 : (i : Int) < (l.length : Int)
    · rw [if_pos h1]
      by_cases h2 : v < 1048576
      · have a0 := hn l[i] (List.getElem_mem (by omega))
        have er : rdOf ByteArray.empty l (i : Int) = l[i] := by unfold rdOf; simp [List.getElem?_eq_getElem (show i < l.length by omega)]
        rw [if_pos h2, if_pos (by omega), er, wrap_small (v + _) (by omega) (by omega), wrap_small _ (by omega) (by omega)]
        obtain ⟨u, e, h3, h4, h5⟩ := ih (i + 1) (v + (l[i].size : Int)) k (by omega) (by omega) (by omega) (fun h => by have := hm h2; omega) (by omega)
        rw [show ((i + 1 : Nat) : Int) = (i : Int) + 1 by omega] at e
        refine ⟨u, e, h3, by omega, fun _ => ?_⟩
        by_cases h6 : v + (l[i].size : Int) < 1048576
        · exact h5 h6
        · rcases h4 with h | h | h <;> omega
      · rw [if_neg h2]
        exact ⟨v, rfl, hv, by omega, by omega⟩
    · rw [if_neg h1]
      exact ⟨v, rfl, hv, by omega, by omega⟩
theorem TextWeight_is (l : List ByteArray) (hl : l.length ≤ 8796093022208) (hn : ∀ a ∈ l, a.size ≤ 140737488351232) (k : Nat) (hk : 1048578 ≤ k) : ∃ u, fairwaylaw0_TextWeight.f k l = some u ∧ (l.length : Int) ≤ u ∧ u ≤ 300000000000000 := by
  unfold fairwaylaw0_TextWeight.f
  obtain ⟨u, e, h1, h2, h3⟩ := TextWeight_loop l (by omega) hn 1048577 0 (l.length : Int) k (Int.le_refl _) (by omega) (by omega) (fun h => by omega) (by omega)
  refine ⟨u, e, h1, ?_⟩
  by_cases h : (l.length : Int) < 1048576
  · have := h3 h; omega
  · rcases h2 with h | h | h <;> omega
theorem heavy18_is (B L : List S50) (F : List ByteArray) (hB : B.length ≤ 2932031007402) (hL : L.length ≤ 2932031007402) (hF : F.length ≤ 8796093022208) (nB : ∀ a ∈ B, Nice50 a) (nL : ∀ a ∈ L, Nice50 a) (nF : ∀ a ∈ F, a.size ≤ 140737488351232) (k : Nat) (hk : 1048578 ≤ k) :
    ∃ b, fairwaylaw18_heavy.f k B L F = some b ∧ (b = false → B.length ≤ 8000 ∧ L.length ≤ 8000 ∧ F.length ≤ 8000) := by
  obtain ⟨u1, e1, a1, b1⟩ := KeptWeight_is B hB nB k hk
  obtain ⟨u2, e2, a2, b2⟩ := KeptWeight_is L hL nL k hk
  obtain ⟨u3, e3, a3, b3⟩ := TextWeight_is F hF nF k hk
  unfold fairwaylaw18_heavy.f
  rw [e1, e2, e3]
  simp only [Option.bind_some]
  rw [wrap_small (u1 + u2) (by omega) (by omega), wrap_small _ (by omega) (by omega)]
  refine ⟨_, rfl, fun h => ?_⟩
  have := of_decide_eq_false h
  omega

/-- What came of a call is written over, here and there: the list that went in is as it was. -/
theorem over_loop (b : List S50) (hb : b.length ≤ 100000) (i : Int) (bad : Int) (want : List S50) (B L : List S50) (F : List ByteArray) (c : Nat)
    (next : ∀ k, c ≤ k → (if bad = 0 then (fairwayref0_CopyKept.f k want).bind fun t => fairwaylaw18_StayPuts.l0 k t (wrap64 (i + 1)) B L F else fairwaylaw18_StayPuts.l0 k b (wrap64 (i + 1)) B L F) = some true) :
    ∀ (m j : Nat) (x : List S50), j + m = x.length → x.length ≤ 200000 → ∀ k, c + m + 1 ≤ k → b.length + m + 3 ≤ k → fairwaylaw18_StayPuts.l1 k b i b x bad want (j : Int) B L F = some true := by
  intro m
  induction m with
  | zero =>
    intro j x hj hx k hk hk2
    obtain ⟨k, rfl⟩ : ∃ q, k = q + 1 := ⟨k - 1, by omega⟩
    rw [fairwaylaw18_StayPuts.l1, if_neg (by omega), EqKept_is b (by omega) k (by omega)]
    simp only [Option.bind_some, if_true]
    exact next k (by omega)
  | succ m ih =>
    intro j x hj hx k hk hk2
    obtain ⟨k, rfl⟩ : ∃ q, k = q + 1 := ⟨k - 1, by omega⟩
    have e1 : wrap64 ((j : Int) + 1) = ((j + 1 : Nat) : Int) := by rw [wrap_small _ (by omega) (by omega)]; omega
    rw [fairwaylaw18_StayPuts.l1, if_pos (by omega), if_pos (by omega), e1]
    exact ih (j + 1) _ (by simp; omega) (by simp; omega) k (by omega) (by omega)
theorem stayL_length (r : S50) : ∀ (l m : List S50) (a b : Bool), (stayL r l m a b).1.length ≤ m.length + 2 * l.length := by
  intro l
  induction l with
  | nil => intro m a b; simp [stayL]
  | cons x l ih =>
    intro m a b
    rw [stayL]
    split
    · refine Nat.le_trans (ih _ _ _) ?_
      split <;> simp <;> omega
    · refine Nat.le_trans (ih _ _ _) ?_
      split <;> simp <;> omega
theorem putS_length (l : List S50) (r : S50) : (putS l r).1.length ≤ l.length + 1 := by
  unfold putS
  split
  · split
    · exact Nat.le_trans (List.length_eraseIdx_le _ _) (by omega)
    · simp
  · split
    · simp
    · split
      · simp
      · simp only [List.length_append, List.length_cons, List.length_take, List.length_drop]; omega
set_option maxRecDepth 20000 in
theorem StayPuts_loop (B L : List S50) (F : List ByteArray) (hL : L.length ≤ 8000) : ∀ (m i : Nat) (b : List S50), i ≤ L.length → i ≤ 15 → 15 ≤ i + m → b.length ≤ 9000 + i → ∀ k, 100000 + m * 40000 ≤ k → fairwaylaw18_StayPuts.l0 k b (i : Int) B L F = some true := by
  intro m
  have stop : ∀ (i : Nat) (b : List S50) (k : Nat), i ≤ L.length → 15 ≤ i ∨ L.length ≤ i → 200 ≤ k → fairwaylaw18_StayPuts.l0 k b (i : Int) B L F = some true := by
    intro i b k hi h hk
    obtain ⟨k, rfl⟩ : ∃ q, k = q + 2 := ⟨k - 2, by omega⟩
    have e : fairwaylaw18_StayPuts.j1 (k + 1) b (i : Int) false B L F = some true := by
      rw [fairwaylaw18_StayPuts.j1, if_neg (by decide), wakes18_is]; rfl
    rw [fairwaylaw18_StayPuts.l0]
    by_cases hlt : i < L.length
    · rw [if_pos (by omega), show decide ((i : Int) < 15) = false by simp; omega, e]
    · rw [if_neg (by omega), e]
  induction m with
  | zero => intro i b hi h15 hm hb k hk; exact stop i b k hi (.inl (by omega)) (by omega)
  | succ m ih =>
    intro i b hi h15 hm hb k hk
    by_cases hlt : i < L.length ∧ i < 15
    · obtain ⟨h1, h2⟩ := hlt
      obtain ⟨k, rfl⟩ : ∃ q, k = q + 6 := ⟨k - 6, by omega⟩
      obtain ⟨C, hC⟩ : ∃ C, C = 100000 + m * 40000 := ⟨_, rfl⟩
      have ih : ∀ (i : Nat) (b : List S50), i ≤ L.length → i ≤ 15 → 15 ≤ i + m → b.length ≤ 9000 + i → ∀ k, C ≤ k → fairwaylaw18_StayPuts.l0 k b (i : Int) B L F = some true := by rw [hC]; exact ih
      have hk : C + 40000 ≤ k + 6 := by omega
      have hC0 : 100000 ≤ C := by omega
      clear hC
      have e1 : wrap64 ((i : Int) + 1) = ((i + 1 : Nat) : Int) := by rw [wrap_small _ (by omega) (by omega)]; omega
      have hp := putS_length b L[i]
      have last : ∀ (x : List S50) (bad : Int) (want : List S50) (q : Nat), x.length ≤ 20000 → (bad = 0 → want.length ≤ 9000 + (i + 1)) → C + 35000 ≤ q → fairwaylaw18_StayPuts.j4 (q + 1) b (i : Int) b x bad want false B L F = some true := by
        intro x bad want q hx hw hq
        rw [fairwaylaw18_StayPuts.j4, if_neg (by decide)]
        have := over_loop b (by omega) (i : Int) bad want B L F (C + 10000) (fun k hk => by
          by_cases h0 : bad = 0
          · have := hw h0
            rw [if_pos h0, Copy_is want (by omega) k (by omega)]
            simp only [Option.bind_some]
            rw [e1]
            exact ih (i + 1) want (by omega) (by omega) (by omega) this k (by omega)
          · rw [if_neg h0, e1]
            exact ih (i + 1) b (by omega) (by omega) (by omega) (by omega) k (by omega)) x.length 0 x (by omega) (by omega) q (by omega) (by omega)
        exact this
      have third : ∀ (x : List S50) (bad : Int) (q : Nat), x.length ≤ 20000 → (bad = 0 → x.length ≤ 9000 + (i + 1)) → C + 36000 ≤ q → 30000 ≤ q → fairwaylaw18_StayPuts.j3 (q + 1) b (i : Int) (keptS b) b x bad bad x B L F = some true := by
        intro x bad q hx hw hq hq2
        obtain ⟨q, rfl⟩ : ∃ p, q = p + 1 := ⟨q - 1, by omega⟩
        rw [fairwaylaw18_StayPuts.j3, sCheck_is b (by omega) _ (by omega)]
        simp only [Option.bind_some, fairwaylaw18_num.f]
        have hk : ((bad1 (keptS b) == 0) != keptS b) = false := by cases keptS b <;> rfl
        rw [hk, if_neg (by decide), if_pos trivial, EqKept_is x (by omega) _ (by omega)]
        simp only [Option.bind_some, if_true]
        rw [EqKept_is b (by omega) _ (by omega)]
        simp only [Option.bind_some, Bool.not_true]
        exact last x bad x q hx hw (by omega)
      rw [fairwaylaw18_StayPuts.l0, if_pos (by omega), show decide ((i : Int) < 15) = true by simp; omega, fairwaylaw18_StayPuts.j1, if_pos rfl, Kept_is b (by omega) _ (by omega)]
      simp only [Option.bind_some]
      rw [Copy_is b (by omega) _ (by omega)]
      simp only [Option.bind_some]
      rw [if_pos (by omega), if_pos (by omega), rd50_at L i h1, Put_is b (by omega)]
      simp only [Option.bind_some]
      cases hkb : keptS b with
      | false =>
        rw [if_neg (by decide), fairwaylaw18_StayPuts.j2, if_neg (by decide)]
        have := third [] 1 (k + 2) (by simp) (fun h => absurd h (by decide)) (by omega) (by omega)
        rw [hkb] at this
        simpa using this
      | true =>
        rw [if_pos rfl, Ret_is _ _ _ _ _ (by omega)]
        simp only [Option.bind_some, Bool.true_and]
        cases hr : retS L[i].f0 L[i].f1 L[i].f2 L[i].f3 with
        | false =>
          rw [fairwaylaw18_StayPuts.j2, if_neg (by decide)]
          have := third [] 1 (k + 2) (by simp) (fun h => absurd h (by decide)) (by omega) (by omega)
          rw [hkb] at this
          simpa using this
        | true =>
          have hK := kept_of hkb
          have h12 := hK.small
          rw [fairwaylaw18_StayPuts.j2, if_pos rfl, if_pos (by omega), if_pos (by omega), rd50_at L i h1, Stay_is b (by omega) L[i] _ (by omega), ← put_stay b hK L[i]]
          simp only [Option.bind_some, if_true]
          have := third (putS b L[i]).1 (putS b L[i]).2 (k + 2) (by omega) (fun _ => by omega) (by omega) (by omega)
          rw [hkb] at this
          exact this
    · exact stop i b k hi (by omega) (by omega)
set_option maxRecDepth 20000 in
theorem StayPuts_main (B L : List S50) (F : List ByteArray) (hB : B.length ≤ 2932031007402) (hL : L.length ≤ 2932031007402) (hF : F.length ≤ 8796093022208) (nB : ∀ a ∈ B, Nice50 a) (nL : ∀ a ∈ L, Nice50 a) (nF : ∀ a ∈ F, a.size ≤ 140737488351232) :
    ∃ k, fairwaylaw18_StayPuts.f k B L F = some true := by
  refine ⟨2000000, ?_⟩
  unfold fairwaylaw18_StayPuts.f
  obtain ⟨b, e, h⟩ := heavy18_is B L F hB hL hF nB nL nF 2000000 (by omega)
  rw [e]
  simp only [Option.bind_some]
  cases b with
  | true => rw [if_pos rfl]
  | false =>
    obtain ⟨h1, h2, h3⟩ := h rfl
    rw [if_neg (by decide), Copy_is B (by omega) _ (by omega)]
    simp only [Option.bind_some]
    have := StayPuts_loop B L F h2 15 0 B (by omega) (by omega) (by omega) (by omega) 2000000 (by omega)
    rw [show ((0 : Nat) : Int) = 0 from rfl] at this
    exact this
theorem StayPuts_pure (a : List S50 × List S50 × List ByteArray) (h : O.niceScript a) : ∃ k, fairwaylaw18_StayPuts.f k a.1 a.2.1 a.2.2 = some true :=
  StayPuts_main a.1 a.2.1 a.2.2 h.1 h.2.1 h.2.2.1 (fun b hb => ⟨(h.2.2.2.1 b hb).1, (h.2.2.2.1 b hb).2⟩) (fun b hb => ⟨(h.2.2.2.2.1 b hb).1, (h.2.2.2.2.1 b hb).2⟩) h.2.2.2.2.2
end Go.Proofs.YtnaeffgkdoanfaaDoor.P
