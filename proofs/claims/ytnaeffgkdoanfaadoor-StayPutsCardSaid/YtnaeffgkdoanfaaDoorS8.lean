/- What stay.Put does to a kept list is what the page's Stay does. -/
import Derived.Test.YtnaeffgkdoanfaaDoorS7
import Derived.Test.YtnaeffgkdoanfaaDoorP5
import Derived.Test.YtnaeffgkdoanfaaDoorP2
namespace Go.Proofs.YtnaeffgkdoanfaaDoor.P
open Go.RowKit Go.Proofs.YtnaeffgkdoanfaaDoorW.PrintWords Go.Proofs.YtnaeffgkdoanfaaDoorW.PrintLast Go.Proofs.YtnaeffgkdoanfaaDoorW.PrintMore
set_option linter.unusedSimpArgs false
set_option linter.unusedVariables false

def stayL (r : S50) : List S50 → List S50 → Bool → Bool → List S50 × Bool × Bool
  | [], m, inn, was => (m, inn, was)
  | x :: xs, m, inn, was =>
    if x.f0.toList = r.f0.toList then stayL r xs (if (!inn && !lessS x.f0 r.f0) = true then m ++ [r] else m) (inn || !lessS x.f0 r.f0) true
    else stayL r xs ((if (!inn && !lessS x.f0 r.f0) = true then m ++ [r] else m) ++ [x]) (inn || !lessS x.f0 r.f0) was
def stayEnd (r : S50) (n : Nat) (s : List S50 × Bool × Bool) : List S50 × Int :=
  cond s.2.2 (cond s.2.1 s.1 (s.1 ++ [r]), 0) (if r.f1.toList = [] then (cond s.2.1 s.1 (s.1 ++ [r]), 0) else if 12 ≤ n then ([], 5) else (cond s.2.1 s.1 (s.1 ++ [r]), 0))
theorem Stay_loop (l : List S50) (hl : l.length ≤ 1000000) (r : S50) : ∀ (n i k : Nat) (m : List S50) (inn was : Bool), i + n = l.length → m.length + 2 * n ≤ 3000000 → 2 * n + 2 ≤ k →
    fairwayref17_Stay.l0 k l m inn was (i : Int) r.f0 r.f1 r.f2 r.f3 = some (stayEnd r l.length (stayL r (l.drop i) m inn was)) := by
  intro n
  induction n with
  | zero =>
    intro i k m inn was h hm hk
    obtain ⟨k, rfl⟩ : ∃ q, k = q + 1 := ⟨k - 1, by omega⟩
    rw [fairwayref17_Stay.l0, if_neg (by omega), List.drop_eq_nil_of_le (by omega)]
    have e12 : ((l.length : Int) ≥ 12) ↔ 12 ≤ l.length := by omega
    cases inn with
    | true =>
      cases was with
      | true => rfl
      | false =>
        simp only [stayL, stayEnd, cond_true, cond_false]
        rw [if_pos trivial, if_neg (by decide)]
        by_cases hb : r.f1.toList = []
        · rw [if_pos hb, if_pos hb]
        · rw [if_neg hb, if_neg hb]
          by_cases h12 : 12 ≤ l.length
          · rw [if_pos h12, if_pos (e12.2 h12)]
          · rw [if_neg h12, if_neg (fun x => h12 (e12.1 x))]
    | false =>
      rw [if_neg (by decide), if_pos (by omega)]
      simp only [Option.bind_some, stayL, stayEnd, cond_true, cond_false]
      cases was with
      | true => rfl
      | false =>
        simp only [cond_false]
        rw [if_neg (by decide)]
        by_cases hb : r.f1.toList = []
        · rw [if_pos hb, if_pos hb]
        · rw [if_neg hb, if_neg hb]
          by_cases h12 : 12 ≤ l.length
          · rw [if_pos h12, if_pos (e12.2 h12)]
          · rw [if_neg h12, if_neg (fun x => h12 (e12.1 x))]
  | succ n ih =>
    intro i k m inn was h hm hk
    obtain ⟨k, rfl⟩ : ∃ q, k = q + 2 := ⟨k - 2, by omega⟩
    have e1 : wrap64 ((i : Int) + 1) = ((i + 1 : Nat) : Int) := by rw [wrap_small _ (by omega) (by omega)]; omega
    have hi : i < l.length := by omega
    have hd : l.drop i = l[i] :: l.drop (i + 1) := List.drop_eq_getElem_cons hi
    have hr := rd50_at l i hi
    have key : ∀ (b : Bool), fairwayref17_Stay.j1 (k + 1) l m inn was (i : Int) b r.f0 r.f1 r.f2 r.f3 =
        some (stayEnd r l.length (if l[i].f0.toList = r.f0.toList then stayL r (l.drop (i + 1)) (if b = true then m ++ [r] else m) (b || inn) true else stayL r (l.drop (i + 1)) ((if b = true then m ++ [r] else m) ++ [l[i]]) (b || inn) was)) := by
      intro b
      rw [fairwayref17_Stay.j1]
      cases b with
      | true =>
        rw [if_pos rfl, if_pos (by omega)]
        simp only [Option.bind_some, if_true, Bool.true_or]
        rw [if_pos (by omega), if_pos (by omega), hr, e1]
        have hl2 : (m ++ [r]).length = m.length + 1 := by simp
        by_cases he : l[i].f0.toList = r.f0.toList
        · rw [if_pos he, if_pos he]
          exact ih (i + 1) k (m ++ [r]) true true (by omega) (by omega) (by omega)
        · rw [if_neg he, if_neg he]
          change (if (m ++ [r]).length < _ then fairwayref17_Stay.l0 k l ((m ++ [r]) ++ [l[i]]) true was _ _ _ _ _ else none) = _
          rw [if_pos (by omega)]
          exact ih (i + 1) k (m ++ [r] ++ [l[i]]) true was (by omega) (by rw [List.length_append, hl2]; simp; omega) (by omega)
      | false =>
        rw [if_neg (by decide), if_pos (by omega), if_pos (by omega), hr, e1]
        simp only [Bool.false_eq_true, if_false, Bool.false_or]
        by_cases he : l[i].f0.toList = r.f0.toList
        · rw [if_pos he, if_pos he]
          exact ih (i + 1) k m inn true (by omega) (by omega) (by omega)
        · rw [if_neg he, if_neg he, if_pos (by omega)]
          exact ih (i + 1) k (m ++ [l[i]]) inn was (by omega) (by simp; omega) (by omega)
    rw [fairwayref17_Stay.l0, if_pos (by omega), hd]
    simp only [stayL]
    cases inn with
    | true =>
      rw [if_pos rfl, key false]
      simp
    | false =>
      rw [if_neg (by decide), if_pos (by omega), hr]
      change fairwayref17_Stay.j1 (k + 1) l m false was (i : Int) (!lessS l[i].f0 r.f0) r.f0 r.f1 r.f2 r.f3 = _
      rw [key]
      simp
theorem Stay_is (l : List S50) (hl : l.length ≤ 1000000) (r : S50) (k : Nat) (hk : 2 * l.length + 2 ≤ k) :
    fairwayref17_Stay.f k l r.f0 r.f1 r.f2 r.f3 = some (stayEnd r l.length (stayL r l [] (r.f1.toList == []) false)) := by
  unfold fairwayref17_Stay.f
  have := Stay_loop l hl r l.length 0 k [] (r.f1.toList == []) false (by omega) (by simp; omega) (by omega)
  rw [List.drop_zero] at this
  exact this
theorem stayL_low (r : S50) : ∀ (A B m : List S50) (inn was : Bool), (∀ x ∈ A, lessS x.f0 r.f0 = true) → stayL r (A ++ B) m inn was = stayL r B (m ++ A) inn was := by
  intro A
  induction A with
  | nil => intro B m inn was _; simp
  | cons x A ih =>
    intro B m inn was h
    have hx := h x (by simp)
    rw [List.cons_append, stayL, if_neg (less_ne hx), hx]
    simp only [Bool.not_true, Bool.and_false, Bool.false_eq_true, if_false, Bool.or_false]
    rw [ih B (m ++ [x]) inn was (fun y hy => h y (by simp [hy]))]
    simp
theorem stayL_high (r : S50) : ∀ (C m : List S50) (was : Bool), (∀ x ∈ C, lessS x.f0 r.f0 = false ∧ x.f0.toList ≠ r.f0.toList) → stayL r C m true was = (m ++ C, true, was) := by
  intro C
  induction C with
  | nil => intro m was _; simp [stayL]
  | cons x C ih =>
    intro m was h
    obtain ⟨hx, hn⟩ := h x (by simp)
    rw [stayL, if_neg hn]
    simp only [Bool.not_true, Bool.false_and, Bool.false_eq_true, if_false, Bool.true_or]
    rw [ih (m ++ [x]) was (fun y hy => h y (by simp [hy]))]
    simp
theorem cmp_zero {x t : ByteArray} (h : lessS x t = false) : (cmpS x t == 0) = decide (x.toList = t.toList) := by
  unfold cmpS
  rw [if_neg (by rw [h]; decide)]
  by_cases e : x.toList = t.toList
  · rw [if_pos e, decide_eq_true e]; rfl
  · rw [if_neg e, decide_eq_false e]; rfl
theorem put_stay (l : List S50) (h : Kept l) (r : S50) : putS l r = stayEnd r l.length (stayL r l [] (r.f1.toList == []) false) := by
  obtain ⟨s1, s2⟩ := search_spec l r.f0 h l.length 0 l.length (Nat.zero_le _) (Nat.le_refl _) (by omega) (fun q _ hq => absurd hq (by omega)) (fun q hq hl => absurd hl (by omega))
  have hle := (searchR_le l r.f0 l.length 0 l.length (Nat.zero_le _)).2
  unfold putS
  generalize searchR l r.f0 l.length 0 l.length = i at *
  have hA : ∀ x ∈ l.take i, lessS x.f0 r.f0 = true := by
    intro x hx
    obtain ⟨q, hq, rfl⟩ := List.mem_iff_getElem.1 hx
    rw [List.length_take] at hq
    rw [List.getElem_take]
    exact s1 q (by omega) (by omega)
  have hsplit : stayL r l [] (r.f1.toList == []) false = stayL r (l.drop i) (l.take i) (r.f1.toList == []) false := by
    conv => lhs; rw [← List.take_append_drop i l]
    rw [stayL_low r _ _ _ _ _ hA, List.nil_append]
  rw [hsplit]
  by_cases hi : i < l.length
  · have hx := s2 i hi (Nat.le_refl _)
    have hd : l.drop i = l[i] :: l.drop (i + 1) := List.drop_eq_getElem_cons hi
    have hC : ∀ x ∈ l.drop (i + 1), lessS x.f0 r.f0 = false ∧ x.f0.toList ≠ r.f0.toList := by
      intro x hx'
      obtain ⟨q, hq, rfl⟩ := List.mem_iff_getElem.1 hx'
      rw [List.length_drop] at hq
      rw [List.getElem_drop]
      have hn := s2 (i + 1 + q) (by omega) (by omega)
      refine ⟨hn, fun e => ?_⟩
      have hlt := h.lt i (i + 1 + q) (by omega) (by omega)
      unfold lessS at hlt hx
      rw [e, hx] at hlt
      cases hlt
    have hf : foundS l r.f0 i = decide (l[i].f0.toList = r.f0.toList) := by
      unfold foundS
      rw [decide_eq_true hi, Bool.true_and, rd50_at l i hi, cmp_zero hx]
    rw [hf, hd]
    simp only [stayL]
    have hset : l.set i r = l.take i ++ r :: l.drop (i + 1) := by rw [List.set_eq_take_append_cons_drop, if_pos hi]
    by_cases hb : r.f1.toList = []
    · have b1 : (r.f1.toList == ([] : List UInt8)) = true := beq_iff_eq.mpr hb
      rw [if_pos hb, b1]
      simp only [Bool.not_true, Bool.false_and, Bool.false_eq_true, if_false, Bool.true_or]
      by_cases he : l[i].f0.toList = r.f0.toList
      · rw [decide_eq_true he, if_pos rfl, if_pos he, stayL_high r _ _ _ hC, List.eraseIdx_eq_take_drop_succ]
        rfl
      · rw [decide_eq_false he, if_neg (by decide), if_neg he, stayL_high r _ _ _ hC]
        simp only [stayEnd, cond_true, cond_false]
        rw [if_pos hb, List.append_assoc, List.singleton_append, ← hd, List.take_append_drop]
    · have b1 : (r.f1.toList == ([] : List UInt8)) = false := beq_eq_false_iff_ne.mpr hb
      rw [if_neg hb, b1, hx]
      simp only [Bool.not_false, Bool.and_self, if_true, Bool.false_or]
      by_cases he : l[i].f0.toList = r.f0.toList
      · rw [decide_eq_true he, if_pos rfl, if_pos he, stayL_high r _ _ _ hC, hset]
        simp [stayEnd]
      · rw [decide_eq_false he, if_neg (by decide), if_neg he, stayL_high r _ _ _ hC]
        simp only [stayEnd, cond_true, cond_false]
        rw [if_neg hb]
        by_cases h12 : 12 ≤ l.length
        · rw [if_pos h12, if_pos h12]
        · rw [if_neg h12, if_neg h12]
          simp
  · obtain rfl : i = l.length := by omega
    have hf : foundS l r.f0 l.length = false := by
      unfold foundS
      rw [decide_eq_false hi, Bool.false_and]
    rw [hf, List.drop_length, List.take_length]
    simp only [stayL]
    by_cases hb : r.f1.toList = []
    · have b1 : (r.f1.toList == ([] : List UInt8)) = true := beq_iff_eq.mpr hb
      rw [if_pos hb, b1, if_neg (by decide)]
      simp [stayEnd, hb]
    · have b1 : (r.f1.toList == ([] : List UInt8)) = false := beq_eq_false_iff_ne.mpr hb
      rw [if_neg hb, b1, if_neg (by decide)]
      simp only [stayEnd, cond_true, cond_false]
      rw [if_neg hb]

theorem Copy_loop (l : List S50) (hl : l.length ≤ 1000000) : ∀ (n i k : Nat) (m : List S50), i + n = l.length → m = l.take i → n + 1 ≤ k → fairwayref0_CopyKept.l0 k l m (i : Int) = some l := by
  intro n
  induction n with
  | zero =>
    intro i k m h hm hk
    obtain ⟨k, rfl⟩ : ∃ q, k = q + 1 := ⟨k - 1, by omega⟩
    rw [fairwayref0_CopyKept.l0, if_neg (by omega), hm, List.take_of_length_le (by omega)]
  | succ n ih =>
    intro i k m h hm hk
    obtain ⟨k, rfl⟩ : ∃ q, k = q + 1 := ⟨k - 1, by omega⟩
    have hml : m.length = i := by rw [hm, List.length_take]; omega
    have e1 : wrap64 ((i : Int) + 1) = ((i + 1 : Nat) : Int) := by rw [wrap_small _ (by omega) (by omega)]; omega
    rw [fairwayref0_CopyKept.l0, if_pos (by omega), if_pos (by omega), if_pos (by omega), rd50_at l i (by omega), e1]
    exact ih (i + 1) k _ (by omega) (by rw [hm, List.take_succ_eq_append_getElem (by omega)]) (by omega)
theorem Copy_is (l : List S50) (hl : l.length ≤ 1000000) (k : Nat) (hk : l.length + 1 ≤ k) : fairwayref0_CopyKept.f k l = some l := by
  unfold fairwayref0_CopyKept.f
  have := Copy_loop l hl l.length 0 k [] (by omega) (by simp) hk
  exact this
theorem EqKept_loop (l : List S50) (hl : l.length ≤ 3000000) : ∀ (n i k : Nat), i + n = l.length → n + 1 ≤ k → fairwayref0_EqKept.l0 k l l (i : Int) = some true := by
  intro n
  induction n with
  | zero =>
    intro i k h hk
    obtain ⟨k, rfl⟩ : ∃ q, k = q + 1 := ⟨k - 1, by omega⟩
    rw [fairwayref0_EqKept.l0, if_neg (by omega)]
  | succ n ih =>
    intro i k h hk
    obtain ⟨k, rfl⟩ : ∃ q, k = q + 1 := ⟨k - 1, by omega⟩
    have e1 : wrap64 ((i : Int) + 1) = ((i + 1 : Nat) : Int) := by rw [wrap_small _ (by omega) (by omega)]; omega
    rw [fairwayref0_EqKept.l0, if_pos (by omega), if_pos (by omega), if_pos (by omega), e1]
    simp only [beq_self_eq_true, Bool.not_true, Bool.or_self, Bool.false_eq_true, if_false]
    exact ih (i + 1) k (by omega) (by omega)
theorem EqKept_is (l : List S50) (hl : l.length ≤ 3000000) (k : Nat) (hk : l.length + 1 ≤ k) : fairwayref0_EqKept.f k l l = some true := by
  unfold fairwayref0_EqKept.f
  rw [if_pos rfl]
  exact EqKept_loop l hl l.length 0 k (by omega) hk
theorem Put_is (l : List S50) (hl : l.length ≤ 1000000) (r : S50) : stay_Put.f l r.f0 r.f1 r.f2 r.f3 = some (if (keptS l && retS r.f0 r.f1 r.f2 r.f3) = true then putS l r else ([], 1)) := by
  unfold stay_Put.f
  rw [if_pos hl, sCheck_is l hl 20 (by omega)]
  simp only [Option.bind_some]
  cases hk : keptS l with
  | false =>
    rw [if_neg (by decide), if_neg (by simp)]
  | true =>
    rw [if_pos (show bad1 true = 0 from rfl), may_is]
    simp only [Option.bind_some, Bool.true_and]
    cases hr : retS r.f0 r.f1 r.f2 r.f3 with
    | false => rw [if_neg (by decide), if_neg (by decide)]
    | true => rw [if_pos rfl, if_pos rfl]
end Go.Proofs.YtnaeffgkdoanfaaDoor.P
