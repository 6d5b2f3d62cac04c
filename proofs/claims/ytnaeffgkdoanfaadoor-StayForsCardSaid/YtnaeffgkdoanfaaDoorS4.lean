/- Plain laws: Match: the reference's and the program's are the same plain function. -/
import Derived.Test.YtnaeffgkdoanfaaDoorP5
import Derived.Test.YtnaeffgkdoanfaaDoorP7
import Derived.Test.YtnaeffgkdoanfaaDoorS3f
namespace Go.Proofs.YtnaeffgkdoanfaaDoor.P
open Go.RowKit Go.Proofs.YtnaeffgkdoanfaaDoorW.PrintWords Go.Proofs.YtnaeffgkdoanfaaDoorW.PrintLast Go.Proofs.YtnaeffgkdoanfaaDoorW.PrintMore
open Go.Proofs.YtnaeffgkdoanfaaDoor
set_option linter.unusedSimpArgs false
set_option linter.unusedVariables false

/-- Do a filter's levels match a name's? -/
def refM : List ByteArray → List ByteArray → Bool
  | [], t => t.isEmpty
  | a :: f, t => if a.toList = [35] then true else match t with
    | [] => false
    | b :: t => if a.toList = [43] then refM f t else if a.toList = b.toList then refM f t else false
theorem Match_l0 (f t : List ByteArray) (hf : f.length ≤ 100000) (ht : t.length ≤ 100000) : ∀ (m i k : Nat), i ≤ f.length → i ≤ t.length → f.length ≤ i + m → m + 1 ≤ k →
    fairwayref7_Match.l0 k f t (i : Int) = some (refM (f.drop i) (t.drop i)) := by
  intro m
  induction m with
  | zero =>
    intro i k hi hj hm hk
    obtain ⟨k, rfl⟩ : ∃ q, k = q + 1 := ⟨k - 1, by omega⟩
    rw [fairwayref7_Match.l0, if_neg (by omega), List.drop_eq_nil_of_le (by omega : f.length ≤ i)]
    simp only [refM, Option.some.injEq]
    rw [Bool.eq_iff_iff]
    simp [List.isEmpty_iff, List.drop_eq_nil_iff]
    omega
  | succ m ih =>
    intro i k hi hj hm hk
    obtain ⟨k, rfl⟩ : ∃ q, k = q + 1 := ⟨k - 1, by omega⟩
    by_cases hlt : i < f.length
    · rw [fairwayref7_Match.l0, if_pos (by omega), if_pos (by omega), List.drop_eq_getElem_cons hlt, rdOf_at f i hlt]
      unfold refM
      by_cases h35 : f[i].toList = [35]
      · rw [if_pos h35, if_pos h35]; simp; omega
      · rw [if_neg h35, if_neg h35]
        by_cases hjl : i < t.length
        · have ih' := ih (i + 1) k (by omega) (by omega) (by omega) (by omega)
          rw [show ((i + 1 : Nat) : Int) = (i : Int) + 1 by omega] at ih'
          rw [if_neg (by omega), List.drop_eq_getElem_cons hjl, rdOf_at t i hjl, wrap_small _ (by omega) (by omega)]
          simp only []
          by_cases h43 : f[i].toList = [43]
          · rw [if_pos h43, if_pos h43, ih']
          · rw [if_neg h43, if_neg h43, if_pos (by omega)]
            by_cases he : f[i].toList = t[i].toList
            · rw [if_pos he, if_pos he, ih']
            · rw [if_neg he, if_neg he]
        · rw [if_pos (by omega), List.drop_eq_nil_of_le (by omega)]
    · rw [fairwayref7_Match.l0, if_neg (by omega), List.drop_eq_nil_of_le (by omega : f.length ≤ i)]
      simp only [refM, Option.some.injEq]
      rw [Bool.eq_iff_iff]
      simp [List.isEmpty_iff, List.drop_eq_nil_iff]
      omega

/-- As the program goes. -/
def proM (f t : List ByteArray) : Bool :=
  if (rdOf ByteArray.empty f ((f.length - 1 : Nat) : Int)).toList = [35] then (if t.length < f.length - 1 then false else eqUp (f.take (f.length - 1)) (t.take (f.length - 1))) else eqUp f t
theorem wild35 {a : ByteArray} (h : a.toList = [35]) : H.noneOf wild a = false := by
  unfold H.noneOf
  rw [Lib.toList_data] at h
  rw [h]; rfl
theorem proM_eq : ∀ (f t : List ByteArray), f ≠ [] → lvOk f = true → proM f t = refM f t := by
  intro f
  induction f with
  | nil => intro t h; exact absurd rfl h
  | cons a f ih =>
    intro t _ hok
    cases f with
    | nil =>
      unfold proM
      simp only [List.length_cons, List.length_nil, Nat.zero_add, Nat.sub_self, List.take_zero]
      rw [rdOf_at [a] 0 (by simp)]
      simp only [List.getElem_cons_zero]
      unfold refM
      by_cases h35 : a.toList = [35]
      · rw [if_pos h35, if_pos h35, if_neg (by omega)]; rfl
      · rw [if_neg h35, if_neg h35]
        cases t with
        | nil => rfl
        | cons b t =>
          simp only [eqUp, refM, eqOne]
          by_cases h43 : a.toList = [43]
          · rw [if_pos h43, h43]; cases t <;> simp [eqUp]
          · rw [if_neg h43, show (a.toList == [43]) = false from beq_eq_false_iff_ne.2 h43]
            by_cases he : a.toList = b.toList
            · rw [if_pos he, he]; cases t <;> simp [eqUp]
            · rw [if_neg he, show (a.toList == b.toList) = false from beq_eq_false_iff_ne.2 he]; rfl
    | cons b f =>
      have hok2 : lvOk (b :: f) = true := by simp only [lvOk, Bool.and_eq_true] at hok; exact hok.2
      have h35 : ¬ a.toList = [35] := by
        intro h
        simp only [lvOk, Bool.and_eq_true, Bool.or_eq_true] at hok
        rcases hok.1 with h1 | h1
        · rw [wild35 h] at h1; cases h1
        · rw [h] at h1; simp at h1
      unfold refM
      rw [if_neg h35]
      have hidx : rdOf ByteArray.empty (a :: b :: f) (((a :: b :: f).length - 1 : Nat) : Int) = rdOf ByteArray.empty (b :: f) (((b :: f).length - 1 : Nat) : Int) := by
        rw [rdOf_at _ _ (by simp), rdOf_at _ _ (by simp)]
        simp
      cases t with
      | nil =>
        unfold proM
        simp only [List.length_nil]
        rw [if_pos (show (0 : Nat) < (a :: b :: f).length - 1 by simp)]
        simp [eqUp]
      | cons c t =>
        simp only []
        have hs : proM (a :: b :: f) (c :: t) = (eqOne a c && proM (b :: f) t) := by
          unfold proM
          rw [hidx]
          have hl : (a :: b :: f).length - 1 = (b :: f).length - 1 + 1 := by simp
          by_cases h : (rdOf ByteArray.empty (b :: f) (((b :: f).length - 1 : Nat) : Int)).toList = [35]
          · rw [if_pos h, if_pos h, hl]
            by_cases hlt : t.length < (b :: f).length - 1
            · rw [if_pos (by simp only [List.length_cons] at *; omega), if_pos hlt]; simp
            · rw [if_neg (by simp only [List.length_cons] at *; omega), if_neg hlt]
              simp only [List.take_succ_cons, eqUp]
          · rw [if_neg h, if_neg h]; simp only [eqUp]
        rw [hs, ih t (by simp) hok2]
        unfold eqOne
        by_cases h43 : a.toList = [43]
        · rw [if_pos h43, h43]; simp
        · rw [if_neg h43, show (a.toList == [43]) = false from beq_eq_false_iff_ne.2 h43]
          by_cases he : a.toList = c.toList
          · rw [if_pos he, he]; simp
          · rw [if_neg he, show (a.toList == c.toList) = false from beq_eq_false_iff_ne.2 he]; rfl

def firstOf (s : ByteArray) : ByteArray := rdOf ByteArray.empty (H.levels s) 0
def matchS (f t : ByteArray) : Bool :=
  if filterS f = 0 then (if topicS t = 0 then (if ((firstOf f).toList = [43] ∨ (firstOf f).toList = [35]) ∧ bt t 0 = 36 then false else refM (H.levels f) (H.levels t)) else false) else false

theorem filterS_ok {s : ByteArray} (h : filterS s = 0) : s.size ≤ 1024 ∧ lvOk (H.levels s) = true ∧ (H.levels s).length ≤ 16 := by
  unfold filterS at h
  by_cases h0 : checkS s = 0
  · rw [if_pos h0] at h
    by_cases h1 : s.toList = []
    · rw [if_pos h1] at h; cases h
    · rw [if_neg h1] at h
      by_cases h2 : (H.levels s).length > 16
      · rw [if_pos h2] at h; cases h
      · rw [if_neg h2] at h
        by_cases h3 : lvOk (H.levels s) = true
        · exact ⟨checkS_small h0, h3, by omega⟩
        · rw [if_neg h3] at h; cases h
  · rw [if_neg h0] at h; exact absurd h h0
theorem topicS_ok {s : ByteArray} (h : topicS s = 0) : s.size ≤ 1024 ∧ 0 < s.size ∧ H.noneOf wild s = true ∧ (H.levels s).length ≤ 16 := by
  unfold topicS at h
  by_cases h0 : checkS s = 0
  · rw [if_pos h0] at h
    by_cases h1 : s.toList = []
    · rw [if_pos h1] at h; cases h
    · rw [if_neg h1] at h
      by_cases h2 : H.noneOf wild s = true
      · rw [if_pos h2] at h
        by_cases h3 : (H.levels s).length > 16
        · rw [if_pos h3] at h; cases h
        · refine ⟨checkS_small h0, ?_, h2, by omega⟩
          rw [Lib.toList_data] at h1
          rw [H.size_data]
          exact List.length_pos_iff.2 h1
      · rw [if_neg h2] at h; cases h
  · rw [if_neg h0] at h; exact absurd h h0

theorem Match_is (f t : ByteArray) (k : Nat) (hk : 25000 ≤ k) : fairwayref7_Match.f k f t = some (matchS f t) := by
  unfold fairwayref7_Match.f matchS
  rw [Filter_is f k (by omega)]
  simp only [Option.bind_some]
  obtain ⟨q, rfl⟩ : ∃ q, k = q + 3 := ⟨k - 3, by omega⟩
  by_cases hf : filterS f = 0
  · obtain ⟨f1, f2, f3⟩ := filterS_ok hf
    rw [if_pos hf, if_pos hf, Topic_is t _ (by omega)]
    simp only [Option.bind_some]
    by_cases ht : topicS t = 0
    · obtain ⟨t1, t2, t3, t4⟩ := topicS_ok ht
      rw [if_pos ht, ht]
      have hp := levels_pos f
      have hpt := levels_pos t
      rw [fairwayref7_Match.j0, if_neg (by decide), Levels_is f (by omega) _ (by omega), Levels_is t (by omega) _ (by omega)]
      simp only [Option.bind_some]
      rw [if_pos (by omega)]
      have hl := Match_l0 (H.levels f) (H.levels t) (by omega) (by omega) (H.levels f).length 0 (q + 1) (by omega) (by omega) (by omega) (by omega)
      rw [show ((0 : Nat) : Int) = 0 from rfl, List.drop_zero, List.drop_zero] at hl
      unfold firstOf
      by_cases h36 : bt t 0 = 36
      · rw [if_pos h36, if_pos (by omega)]
        by_cases a1 : (rdOf ByteArray.empty (H.levels f) 0).toList = [43]
        · rw [if_pos a1, fairwayref7_Match.j1, if_pos rfl, if_pos ⟨.inl a1, h36⟩]
        · rw [if_neg a1, fairwayref7_Match.j1]
          by_cases a2 : (rdOf ByteArray.empty (H.levels f) 0).toList = [35]
          · rw [if_pos (by simp [a2]), if_pos ⟨.inr a2, h36⟩]
          · rw [if_neg (by simp [a2]), if_neg (by rintro ⟨h | h, _⟩ <;> contradiction), hl]
      · rw [if_neg h36, fairwayref7_Match.j1, if_neg (by decide), if_neg (by rintro ⟨_, h⟩; exact h36 h), hl]
    · rw [if_neg ht, fairwayref7_Match.j0, if_pos (bne_iff_ne.2 ht)]
  · rw [if_neg hf, if_neg hf, fairwayref7_Match.j0, if_pos rfl]

theorem nMatch_is (f t : ByteArray) (k : Nat) (hk : 100 ≤ k) : name_Match.f k f t = some (matchS f t) := by
  unfold name_Match.f matchS
  rw [nFilter_is f k (by omega)]
  simp only [Option.bind_some]
  obtain ⟨q, rfl⟩ : ∃ q, k = q + 3 := ⟨k - 3, by omega⟩
  by_cases hf : filterS f = 0
  · obtain ⟨f1, f2, f3⟩ := filterS_ok hf
    rw [if_pos hf, if_pos hf, nTopic_is t]
    simp only [Option.bind_some]
    by_cases ht : topicS t = 0
    · obtain ⟨t1, t2, t3, t4⟩ := topicS_ok ht
      rw [if_pos ht, ht]
      have hp := levels_pos f
      have hpt := levels_pos t
      rw [name_Match.j0, if_neg (by decide), nLevels_is f (by omega), nLevels_is t (by omega)]
      simp only [Option.bind_some]
      rw [if_pos (by omega)]
      have hb : (bt t 0 == 36) = decide (bt t 0 = 36) := by rw [Bool.eq_iff_iff]; simp
      have hj : ∀ b, name_Match.j1 (q + 2) (H.levels f) (H.levels t) b = some (if b = true then false else refM (H.levels f) (H.levels t)) := by
        intro b
        rw [name_Match.j1]
        cases b with
        | true => rfl
        | false =>
          simp only [Bool.false_eq_true, if_false]
          rw [wrap_small _ (by omega) (by omega), ← proM_eq _ _ (levels_ne f) f2]
          unfold proM
          rw [show (((H.levels f).length : Int) - 1) = (((H.levels f).length - 1 : Nat) : Int) by omega]
          rw [if_pos (by omega), if_pos (by omega)]
          by_cases h : (rdOf ByteArray.empty (H.levels f) (((H.levels f).length - 1 : Nat) : Int)).toList = [35]
          · rw [if_pos h, if_pos h]
            by_cases hlt : (H.levels t).length < (H.levels f).length - 1
            · rw [if_pos (by omega), if_pos hlt]
            · rw [if_neg (by omega), if_neg hlt, if_pos (by omega), if_pos (by omega), Int.toNat_natCast]; rfl
          · rw [if_neg h, if_neg h]; rfl
      unfold firstOf
      by_cases a1 : (rdOf ByteArray.empty (H.levels f) 0).toList = [43]
      · rw [if_pos a1, if_pos (by omega), hj, hb]
        by_cases h36 : bt t 0 = 36
        · rw [if_pos (by simpa using h36), if_pos ⟨.inl a1, h36⟩]
        · rw [if_neg (by simpa using h36), if_neg (by rintro ⟨_, h⟩; exact h36 h)]
      · rw [if_neg a1]
        by_cases a2 : (rdOf ByteArray.empty (H.levels f) 0).toList = [35]
        · rw [if_pos a2, if_pos (by omega), hj, hb]
          by_cases h36 : bt t 0 = 36
          · rw [if_pos (by simpa using h36), if_pos ⟨.inr a2, h36⟩]
          · rw [if_neg (by simpa using h36), if_neg (by rintro ⟨_, h⟩; exact h36 h)]
        · rw [if_neg a2, hj, if_neg (by decide), if_neg (by rintro ⟨h | h, _⟩ <;> contradiction)]
    · rw [if_neg ht, name_Match.j0, if_pos (bne_iff_ne.2 ht)]
  · rw [if_neg hf, if_neg hf, name_Match.j0, if_pos rfl]
end Go.Proofs.YtnaeffgkdoanfaaDoor.P
