/- Plain law: NameOwn. -/
import Derived.Test.YtnaeffgkdoanfaaDoorP7
import Derived.Test.YtnaeffgkdoanfaaDoorPureNameMatches
import Derived.Test.YtnaeffgkdoanfaaDoorS6
namespace Go.Proofs.YtnaeffgkdoanfaaDoor.P
open Go.RowKit Go.Proofs.YtnaeffgkdoanfaaDoorW.PrintWords Go.Proofs.YtnaeffgkdoanfaaDoorW.PrintLast Go.Proofs.YtnaeffgkdoanfaaDoorW.PrintMore
set_option linter.unusedSimpArgs false
set_option linter.unusedVariables false

theorem noneOf_calm (s : ByteArray) : H.noneOf wild s = calm s.data.toList := rfl
theorem data_ne {s : ByteArray} (h : 0 < s.size) : s.toList ≠ [] := by
  rw [Lib.toList_data]
  intro e
  have := H.size_data s
  rw [e, List.length_nil] at this
  omega
theorem topicS_check {s : ByteArray} (h : topicS s = 0) : checkS s = 0 := by
  unfold topicS at h
  by_cases h0 : checkS s = 0
  · exact h0
  · rw [if_neg h0] at h; exact absurd h h0
theorem topicS_mk {s : ByteArray} (h1 : checkS s = 0) (h2 : 0 < s.size) (h3 : calm s.data.toList = true) (h4 : (splitL s.data.toList).length ≤ 16) : topicS s = 0 := by
  unfold topicS
  have hl : (H.levels s).length = (splitL s.data.toList).length := by rw [← levels_split, List.length_map]
  rw [if_pos h1, if_neg (data_ne h2), if_pos (by rw [noneOf_calm]; exact h3), if_neg (by omega)]
theorem filterS_mk {s : ByteArray} (h1 : checkS s = 0) (h2 : 0 < s.size) (h3 : lvL (splitL s.data.toList) = true) (h4 : (splitL s.data.toList).length ≤ 16) : filterS s = 0 := by
  unfold filterS
  have hl : (H.levels s).length = (splitL s.data.toList).length := by rw [← levels_split, List.length_map]
  rw [if_pos h1, if_neg (data_ne h2), if_neg (by omega), if_pos (by rw [lvOk_L, levels_split]; exact h3)]
theorem lvL_calm : ∀ (L : List (List UInt8)), (∀ a ∈ L, calm a = true) → ∀ x, (calm x = true ∨ x = [43] ∨ x = [35]) → lvL (L ++ [x]) = true ∧ lvL L = true := by
  intro L
  induction L with
  | nil =>
    intro _ x hx
    refine ⟨?_, rfl⟩
    simp only [List.nil_append, lvL, Bool.or_eq_true, beq_iff_eq]
    rcases hx with h | h | h
    · exact .inl (.inl h)
    · exact .inl (.inr h)
    · exact .inr h
  | cons a L ih =>
    intro h x hx
    obtain ⟨i1, i2⟩ := ih (fun b hb => h b (by simp [hb])) x hx
    have ha := h a (by simp)
    cases L with
    | nil =>
      simp only [List.cons_append, List.nil_append] at i1 ⊢
      simp only [lvL, ha, Bool.true_or, Bool.true_and] at i1 ⊢
      exact ⟨i1, trivial⟩
    | cons b L =>
      simp only [List.cons_append] at i1 ⊢
      simp only [lvL, ha, Bool.true_or, Bool.true_and] at i1 i2 ⊢
      exact ⟨i1, i2⟩
theorem first_calm {s : ByteArray} (L : List (List UInt8)) (h : splitL s.data.toList = L) (a : List UInt8) (L' : List (List UInt8)) (hL : L = a :: L') : (firstOf s).toList = a := by
  unfold firstOf
  have hp := levels_pos s
  rw [show (0 : Int) = ((0 : Nat) : Int) from rfl, rdOf_at _ 0 hp, Lib.toList_data]
  have := levels_split s
  rw [h, hL] at this
  have h0 : ((H.levels s).map (·.data.toList))[0]'(by rw [List.length_map]; exact hp) = a := by simp only [this, List.getElem_cons_zero]
  simpa using h0
/-- A filter whose levels are known matches a name as its levels say, where the name begins otherwise than by '$'. -/
theorem matchS_known {f t : ByteArray} (hf : filterS f = 0) (ht : topicS t = 0) (h36 : bt t 0 ≠ 36) : matchS f t = refL (splitL f.data.toList) (splitL t.data.toList) := by
  unfold matchS
  rw [if_pos hf, if_pos ht, if_neg (by rintro ⟨_, h⟩; exact h36 h), refM_L, levels_split, levels_split]
theorem bt_append (t u : ByteArray) (h : 0 < t.size) : bt (t ++ u) 0 = bt t 0 := by
  have h1 := bt_nat t 0 h
  have h2 := bt_nat (t ++ u) 0 (by rw [append_size]; omega)
  rw [show ((0 : Nat) : Int) = 0 from rfl] at h1 h2
  rw [h1, h2, get_append t u 0 h]

structure Named (t : ByteArray) : Prop where
  topic : topicS t = 0
  first : bt t 0 ≠ 36
  small : t.size ≤ 1020
theorem Named.pos {t : ByteArray} (h : Named t) : 0 < t.size := (topicS_ok h.topic).2.1
theorem Named.calm {t : ByteArray} (h : Named t) : calm t.data.toList = true := (topicS_ok h.topic).2.2.1
theorem Named.calms {t : ByteArray} (h : Named t) : ∀ a ∈ splitL t.data.toList, P.calm a = true := splitL_calm _ h.calm
theorem Named.filter {t : ByteArray} (h : Named t) : filterS t = 0 := by
  have h4 := (topicS_ok h.topic).2.2.2
  have hl : (H.levels t).length = (splitL t.data.toList).length := by rw [← levels_split, List.length_map]
  exact filterS_mk (topicS_check h.topic) h.pos (lvL_calm _ h.calms [] (.inl rfl)).2 (by omega)
theorem Named.self {t : ByteArray} (h : Named t) : matchS t t = true := by
  rw [matchS_known h.filter h.topic h.first]
  have := refL_same (splitL t.data.toList) h.calms [] []
  simp only [List.append_nil] at this
  rw [this]; rfl
theorem Named.other {t : ByteArray} (h : Named t) : matchS t (t ++ (⟨#[120]⟩ : ByteArray)) = false := by
  by_cases ht : topicS (t ++ (⟨#[120]⟩ : ByteArray)) = 0
  · rw [matchS_known h.filter ht (by rw [bt_append t _ h.pos]; exact h.first), append_data]
    have := refL_more 120 (by decide) t.data.toList [] rfl h.calm
    rwa [consH_nil (splitL_ne _), consH_nil (splitL_ne _)] at this
  · unfold matchS
    rw [if_pos h.filter, if_neg ht]
theorem Named.all {t : ByteArray} (h : Named t) : matchS (⟨#[35]⟩ : ByteArray) t = true := by
  rw [matchS_known (by decide +kernel) h.topic h.first]
  have e : splitL (⟨#[35]⟩ : ByteArray).data.toList = [[35]] := rfl
  rw [e]
  unfold refL
  rw [if_pos rfl]
theorem Named.len {t : ByteArray} (h : Named t) : (splitL t.data.toList).length = (H.levels t).length := by rw [← levels_split, List.length_map]
theorem Named.tail {t : ByteArray} (h : Named t) (hl : (H.levels t).length < 16) (x : UInt8) (hx : x ≠ 47) (hp : plainA (⟨#[47, x]⟩ : ByteArray) = true) :
    splitL (t ++ (⟨#[47, x]⟩ : ByteArray)).data.toList = splitL t.data.toList ++ [[x]] ∧ checkS (t ++ (⟨#[47, x]⟩ : ByteArray)) = 0 ∧ (splitL (t ++ (⟨#[47, x]⟩ : ByteArray)).data.toList).length ≤ 16 ∧ 0 < (t ++ (⟨#[47, x]⟩ : ByteArray)).size := by
  have e : splitL (t ++ (⟨#[47, x]⟩ : ByteArray)).data.toList = splitL t.data.toList ++ [[x]] := by
    rw [append_data, show (⟨#[47, x]⟩ : ByteArray).data.toList = 47 :: [x] from rfl, splitL_mid, splitL_one [x] (by simp; exact fun e => hx e.symm)]
  have hs : (⟨#[47, x]⟩ : ByteArray).size = 2 := rfl
  refine ⟨e, checkS_append t _ (topicS_check h.topic) hp (by have := h.small; omega), ?_, by rw [append_size]; omega⟩
  rw [e, List.length_append, h.len]; simp; omega
theorem Named.beneath {t : ByteArray} (h : Named t) (hl : (H.levels t).length < 16) :
    matchS (t ++ (⟨#[47, 35]⟩ : ByteArray)) t = true ∧ matchS (t ++ (⟨#[47, 35]⟩ : ByteArray)) (t ++ (⟨#[47, 120]⟩ : ByteArray)) = true ∧ matchS (t ++ (⟨#[47, 43]⟩ : ByteArray)) t = false ∧ matchS (t ++ (⟨#[47, 43]⟩ : ByteArray)) (t ++ (⟨#[47, 120]⟩ : ByteArray)) = true := by
  obtain ⟨a1, a2, a3, a4⟩ := h.tail hl 35 (by decide) (by decide)
  obtain ⟨b1, b2, b3, b4⟩ := h.tail hl 43 (by decide) (by decide)
  obtain ⟨c1, c2, c3, c4⟩ := h.tail hl 120 (by decide) (by decide)
  have fa : filterS (t ++ (⟨#[47, 35]⟩ : ByteArray)) = 0 := filterS_mk a2 a4 (by rw [a1]; exact (lvL_calm _ h.calms [35] (.inr (.inr rfl))).1) a3
  have fb : filterS (t ++ (⟨#[47, 43]⟩ : ByteArray)) = 0 := filterS_mk b2 b4 (by rw [b1]; exact (lvL_calm _ h.calms [43] (.inr (.inl rfl))).1) b3
  have tc : topicS (t ++ (⟨#[47, 120]⟩ : ByteArray)) = 0 := topicS_mk c2 c4 (by rw [append_data]; have := h.calm; unfold P.calm at this ⊢; rw [List.all_append, this]; decide) c3
  have fc : bt (t ++ (⟨#[47, 120]⟩ : ByteArray)) 0 ≠ 36 := by rw [bt_append t _ h.pos]; exact h.first
  have e0 := refL_same (splitL t.data.toList) h.calms
  refine ⟨?_, ?_, ?_, ?_⟩
  · rw [matchS_known fa h.topic h.first, a1]
    have := e0 [[35]] []
    rw [List.append_nil] at this
    rw [this]; rfl
  · rw [matchS_known fa tc fc, a1, c1, e0]; rfl
  · rw [matchS_known fb h.topic h.first, b1]
    have := e0 [[43]] []
    rw [List.append_nil] at this
    rw [this]; rfl
  · rw [matchS_known fb tc fc, b1, c1, e0]; rfl

/-- A name with one level more generous. -/
def gen (k : Nat) (L : List (List UInt8)) (j : Nat) : List (List UInt8) := (L.take j).mapIdx fun i a => if i = k then [43] else a
theorem gen_succ (k : Nat) (L : List (List UInt8)) (j : Nat) (h : j < L.length) : gen k L (j + 1) = gen k L j ++ [if j = k then [43] else L[j]] := by
  unfold gen
  rw [List.take_succ_eq_append_getElem h, List.mapIdx_append]
  congr 1
  simp [List.length_take, Nat.min_eq_left (Nat.le_of_lt h)]
theorem gen_refL (k : Nat) : ∀ (L : List (List UInt8)) (d : Nat), (∀ a ∈ L, calm a = true) → refL (L.mapIdx fun i a => if i + d = k then [43] else a) L = true := by
  intro L
  induction L with
  | nil => intro d _; rfl
  | cons a L ih =>
    intro d h
    have ha := calm35 (h a (by simp))
    rw [List.mapIdx_cons]
    have hi := ih (d + 1) (fun b hb => h b (by simp [hb]))
    have e : (fun i (a : List UInt8) => if i + 1 + d = k then ([43] : List UInt8) else a) = fun i a => if i + (d + 1) = k then [43] else a := by funext i a; rw [show i + 1 + d = i + (d + 1) by omega]
    rw [refL_cons, e, hi]
    by_cases hk : 0 + d = k
    · rw [if_pos hk, if_neg (by decide), if_pos rfl]
    · rw [if_neg hk, if_neg ha.1, if_neg ha.2, if_pos rfl]

theorem gen_all (k : Nat) (L : List (List UInt8)) (h : ∀ a ∈ L, calm a = true) : refL (gen k L L.length) L = true := by
  unfold gen
  rw [List.take_length]
  exact gen_refL k L 0 h
/-- What one step of the build of a generous name puts behind it. -/
theorem gen_step (t : ByteArray) (k j : Nat) (s x : ByteArray) (hj : j < (H.levels t).length) (hx : x.data.toList = if j = k then [43] else (H.levels t)[j].data.toList)
    (hs : s.size ≤ j * 1100) (hxz : x.size ≤ 1020) (h0 : j = 0 → s = (⟨#[]⟩ : ByteArray)) (hg : 0 < j → splitL s.data.toList = gen k (splitL t.data.toList) j) :
    (if 0 < j then s ++ (⟨#[47]⟩ : ByteArray) ++ x else s ++ x).size ≤ (j + 1) * 1100 ∧ splitL (if 0 < j then s ++ (⟨#[47]⟩ : ByteArray) ++ x else s ++ x).data.toList = gen k (splitL t.data.toList) (j + 1) := by
  have hl : (H.levels t).length = (splitL t.data.toList).length := by rw [← levels_split, List.length_map]
  have hLj : (splitL t.data.toList)[j]'(by omega) = (H.levels t)[j].data.toList := by
    have := levels_split t
    simp only [← this, List.getElem_map]
  have hx47 : (47 : UInt8) ∉ x.data.toList := by
    rw [hx]
    by_cases e : j = k
    · rw [if_pos e]; decide
    · rw [if_neg e, ← hLj]
      exact splitL_no47 _ _ (List.getElem_mem _)
  have hgs := gen_succ k (splitL t.data.toList) j (by omega)
  rw [hLj, ← hx] at hgs
  by_cases hp : 0 < j
  · rw [if_pos hp]
    refine ⟨?_, ?_⟩
    · rw [append_size, append_size]
      have : (⟨#[47]⟩ : ByteArray).size = 1 := rfl
      omega
    · rw [append_data, append_data, List.append_assoc, show (⟨#[47]⟩ : ByteArray).data.toList ++ x.data.toList = 47 :: x.data.toList from rfl, splitL_mid, hg hp, splitL_one _ hx47, hgs]
  · rw [if_neg hp]
    have hz : j = 0 := by omega
    have := h0 hz
    subst this
    refine ⟨?_, ?_⟩
    · rw [append_size]
      have : (⟨#[]⟩ : ByteArray).size = 0 := rfl
      omega
    · rw [append_data, show (⟨#[]⟩ : ByteArray).data.toList = ([] : List UInt8) from rfl, List.nil_append, splitL_one _ hx47, hgs, hz]
      rfl
theorem part_loop (l : List S25) (i : Int) (t : ByteArray) (ht : Named t) (c : Nat) (hn : Nat) (hk : hn < (H.levels t).length)
    (next : ∀ k, c ≤ k → fairwaylaw7_NameOwn.l1 k l i t (H.levels t) ((hn + 1 : Nat) : Int) = some true) :
    ∀ (m j : Nat) (s : ByteArray), j ≤ (H.levels t).length → (H.levels t).length ≤ j + m → s.size ≤ j * 1100 → (j = 0 → s = (⟨#[]⟩ : ByteArray)) → (0 < j → splitL s.data.toList = gen hn (splitL t.data.toList) j) →
      ∀ k, c + m + 200 ≤ k → fairwaylaw7_NameOwn.l2 k l i t (H.levels t) (hn : Int) s (j : Int) = some true := by
  have h16 : (H.levels t).length ≤ 16 := (topicS_ok ht.topic).2.2.2
  have hl : (H.levels t).length = (splitL t.data.toList).length := by rw [← levels_split, List.length_map]
  have stop : ∀ (j : Nat) (s : ByteArray), j = (H.levels t).length → (0 < j → splitL s.data.toList = gen hn (splitL t.data.toList) j) → ∀ k, c + 200 ≤ k → fairwaylaw7_NameOwn.l2 k l i t (H.levels t) (hn : Int) s (j : Int) = some true := by
    intro j s hj hg k hk
    obtain ⟨k, rfl⟩ : ∃ q, k = q + 1 := ⟨k - 1, by omega⟩
    rw [fairwaylaw7_NameOwn.l2, if_neg (by omega), nFilter_is _ _ (by omega)]
    simp only [Option.bind_some, fairwaylaw7_num.f]
    have nx := next k (by omega)
    have e : wrap64 ((hn : Int) + 1) = ((hn + 1 : Nat) : Int) := by rw [wrap_small _ (by omega) (by omega)]; omega
    by_cases hf : filterS s = 0
    · have hm : matchS s t = true := by
        rw [matchS_known hf ht.topic ht.first, hg (by omega), hj, hl]
        exact gen_all hn _ ht.calms
      rw [if_pos hf, nMatch_is _ _ _ (by omega), hm, e]
      simp only [Option.bind_some, if_true]
      exact nx
    · rw [if_neg hf, e]
      exact nx
  intro m
  induction m with
  | zero => intro j s hj hm hs h0 hg k hk; exact stop j s (by omega) hg k (by omega)
  | succ m ih =>
    intro j s hj hm hs h0 hg k hk
    by_cases hlt : j < (H.levels t).length
    · obtain ⟨k, rfl⟩ : ∃ q, k = q + 1 := ⟨k - 1, by omega⟩
      have hz : (H.levels t)[j].size ≤ 1020 := Nat.le_trans (levels_small t _ (List.getElem_mem hlt)) ht.small
      have e : wrap64 ((j : Int) + 1) = ((j + 1 : Nat) : Int) := by rw [wrap_small _ (by omega) (by omega)]; omega
      have e47 : (⟨#[47]⟩ : ByteArray).size = 1 := rfl
      have sz := append_size s (⟨#[47]⟩ : ByteArray)
      rw [fairwaylaw7_NameOwn.l2, if_pos (by omega), rdOf_at _ j hlt, e]
      by_cases hp : 0 < j
      · rw [if_pos (by omega), if_pos (by omega)]
        by_cases hjk : j = hn
        · rw [if_pos (by omega), if_pos (by omega)]
          obtain ⟨a1, a2⟩ := gen_step t hn j s (⟨#[43]⟩ : ByteArray) hlt (by rw [if_pos hjk]) hs (by decide) h0 hg
          rw [if_pos hp] at a1 a2
          exact ih (j + 1) _ (by omega) (by omega) a1 (by omega) (fun _ => a2) k (by omega)
        · rw [if_neg (by omega), if_pos (by omega), if_pos (by omega)]
          obtain ⟨a1, a2⟩ := gen_step t hn j s (H.levels t)[j] hlt (by rw [if_neg hjk]) hs hz h0 hg
          rw [if_pos hp] at a1 a2
          exact ih (j + 1) _ (by omega) (by omega) a1 (by omega) (fun _ => a2) k (by omega)
      · rw [if_neg (by omega)]
        by_cases hjk : j = hn
        · rw [if_pos (by omega), if_pos (by omega)]
          obtain ⟨a1, a2⟩ := gen_step t hn j s (⟨#[43]⟩ : ByteArray) hlt (by rw [if_pos hjk]) hs (by decide) h0 hg
          rw [if_neg hp] at a1 a2
          exact ih (j + 1) _ (by omega) (by omega) a1 (by omega) (fun _ => a2) k (by omega)
        · rw [if_neg (by omega), if_pos (by omega), if_pos (by omega)]
          obtain ⟨a1, a2⟩ := gen_step t hn j s (H.levels t)[j] hlt (by rw [if_neg hjk]) hs hz h0 hg
          rw [if_neg hp] at a1 a2
          exact ih (j + 1) _ (by omega) (by omega) a1 (by omega) (fun _ => a2) k (by omega)
    · exact stop j s (by omega) hg k (by omega)
theorem parts_loop (l : List S25) (i : Nat) (hi : i ≤ 100) (t : ByteArray) (ht : Named t) (c : Nat)
    (next : ∀ k, c ≤ k → fairwaylaw7_NameOwn.l0 k l ((i + 1 : Nat) : Int) = some true) :
    ∀ (m hn : Nat), hn ≤ (H.levels t).length → (H.levels t).length ≤ hn + m → ∀ k, c + m * 300 + 1 ≤ k → fairwaylaw7_NameOwn.l1 k l (i : Int) t (H.levels t) (hn : Int) = some true := by
  have h16 : (H.levels t).length ≤ 16 := (topicS_ok ht.topic).2.2.2
  have stop : ∀ (hn : Nat), (H.levels t).length ≤ hn → ∀ k, c + 1 ≤ k → fairwaylaw7_NameOwn.l1 k l (i : Int) t (H.levels t) (hn : Int) = some true := by
    intro hn h k hk
    obtain ⟨k, rfl⟩ : ∃ q, k = q + 1 := ⟨k - 1, by omega⟩
    rw [fairwaylaw7_NameOwn.l1, if_neg (by omega), show wrap64 ((i : Int) + 1) = ((i + 1 : Nat) : Int) by rw [wrap_small _ (by omega) (by omega)]; omega]
    exact next k (by omega)
  intro m
  induction m with
  | zero => intro hn h hm k hk; exact stop hn (by omega) k (by omega)
  | succ m ih =>
    intro hn h hm k hk
    by_cases hlt : hn < (H.levels t).length
    · obtain ⟨k, rfl⟩ : ∃ q, k = q + 1 := ⟨k - 1, by omega⟩
      rw [fairwaylaw7_NameOwn.l1, if_pos (by omega)]
      have := part_loop l (i : Int) t ht (c + m * 300 + 1) hn hlt (fun k hk => ih (hn + 1) (by omega) (by omega) k hk) 16 0 (⟨#[]⟩ : ByteArray) (by omega) (by omega) (by decide) (fun _ => rfl) (fun h => absurd h (by omega)) k (by omega)
      exact this
    · exact stop hn (by omega) k (by omega)

set_option maxRecDepth 20000 in
theorem NameOwn_loops (l : List S25) (hl : l.length ≤ 9223372036854775000) (hn : ∀ a ∈ l, O.niceAsk a) :
    ∀ (m i : Nat), i ≤ l.length → i ≤ 12 → 12 ≤ i + m → ∀ k, 30000 + m * 6000 ≤ k → fairwaylaw7_NameOwn.l0 k l (i : Int) = some true := by
  intro m
  have stop : ∀ (i : Nat) (k : Nat), i ≤ l.length → 12 ≤ i ∨ l.length ≤ i → 200 ≤ k → fairwaylaw7_NameOwn.l0 k l (i : Int) = some true := by
    intro i k hi h hk
    obtain ⟨k, rfl⟩ : ∃ q, k = q + 2 := ⟨k - 2, by omega⟩
    have e : fairwaylaw7_NameOwn.j1 (k + 1) l (i : Int) false = some true := by
      rw [fairwaylaw7_NameOwn.j1, if_neg (by decide), wakes7_is _ (by omega)]; rfl
    rw [fairwaylaw7_NameOwn.l0]
    by_cases hlt : i < l.length
    · rw [if_pos (by omega), show decide ((i : Int) < 12) = false by simp; omega, e]
    · rw [if_neg (by omega), e]
  induction m with
  | zero => intro i hi h12 hm k hk; exact stop i k hi (.inl (by omega)) (by omega)
  | succ m ih =>
    intro i hi h12 hm k hk
    by_cases hlt : i < l.length ∧ i < 12
    · obtain ⟨h1, h2⟩ := hlt
      obtain ⟨k, rfl⟩ : ∃ q, k = q + 6 := ⟨k - 6, by omega⟩
      have hni := hn l[i] (List.getElem_mem h1)
      have next : ∀ q, 30000 + m * 6000 ≤ q → fairwaylaw7_NameOwn.l0 q l ((i + 1 : Nat) : Int) = some true := fun q hq => ih (i + 1) (by omega) (by omega) (by omega) q hq
      have e1 : wrap64 ((i : Int) + 1) = ((i + 1 : Nat) : Int) := by rw [wrap_small _ (by omega) (by omega)]; omega
      have skip : fairwaylaw7_NameOwn.j2 (k + 4) l (i : Int) l[i].f1 true = some true := by
        rw [fairwaylaw7_NameOwn.j2, if_pos rfl, e1]
        have := next (k + 3) (by omega)
        exact this
      rw [fairwaylaw7_NameOwn.l0, if_pos (by omega), show decide ((i : Int) < 12) = true by simp; omega, fairwaylaw7_NameOwn.j1, if_pos rfl, if_pos (by omega), if_pos (by omega), rd7_at l i h1, heavy7_is _ _ hni.1 hni.2]
      simp only [Option.bind_some]
      by_cases hv : l[i].f0.size + l[i].f1.size > 4000
      · rw [if_pos (by simpa using hv), skip]
      · rw [if_neg (by simpa using hv)]
        by_cases he : l[i].f1.toList = []
        · rw [if_pos he, skip]
        · rw [if_neg he, nTopic_is]
          simp only [Option.bind_some, fairwaylaw7_num.f]
          by_cases ht : topicS l[i].f1 = 0
          · have hpos := (topicS_ok ht).2.1
            rw [if_pos ht, if_pos (by omega)]
            by_cases h36 : bt l[i].f1 0 = 36
            · rw [if_pos h36, skip]
            · rw [if_neg h36]
              by_cases hbig : (l[i].f1.size : Int) > 1020
              · rw [show decide ((l[i].f1.size : Int) > 1020) = true by simpa using hbig, skip]
              · rw [show decide ((l[i].f1.size : Int) > 1020) = false by simpa using hbig]
                generalize l[i].f1 = t at ht h36 hbig hpos ⊢
                have hN : Named t := ⟨ht, h36, by omega⟩
                have last : fairwaylaw7_NameOwn.j4 (k + 2) l (i : Int) t (H.levels t) = some true := by
                  rw [fairwaylaw7_NameOwn.j4]
                  have h16 : (H.levels t).length ≤ 16 := (topicS_ok ht).2.2.2
                  exact parts_loop l i (by omega) t hN (30000 + m * 6000) next 16 0 (by omega) (by omega) _ (by omega)
                have hsm := hN.small
                rw [fairwaylaw7_NameOwn.j2, if_neg (by decide), nLevels_is _ (by omega)]
                simp only [Option.bind_some]
                rw [nMatch_is _ _ _ (by omega), hN.self]
                simp only [Option.bind_some, if_true]
                rw [if_pos (by omega), nMatch_is _ _ _ (by omega), hN.other]
                simp only [Option.bind_some, Bool.false_eq_true, if_false]
                rw [nFilter_is _ _ (by omega), hN.filter]
                simp only [Option.bind_some, if_true]
                rw [nMatch_is _ _ _ (by omega), hN.all]
                simp only [Option.bind_some, Bool.not_true]
                rw [fairwaylaw7_NameOwn.j3, if_neg (by decide)]
                by_cases h15 : ((H.levels t).length : Int) < 16
                · obtain ⟨b1, b2, b3, b4⟩ := hN.beneath (by omega)
                  rw [if_pos h15, if_pos (by omega), nMatch_is _ _ _ (by omega), b1]
                  simp only [Option.bind_some, if_true]
                  rw [nMatch_is _ _ _ (by omega), b2]
                  simp only [Option.bind_some, if_true]
                  rw [nMatch_is _ _ _ (by omega), b3]
                  simp only [Option.bind_some, Bool.false_eq_true, if_false]
                  rw [nMatch_is _ _ _ (by omega), b4]
                  simp only [Option.bind_some, if_true]
                  exact last
                · rw [if_neg h15]
                  exact last
          · rw [if_neg ht, skip]
    · exact stop i k hi (by omega) (by omega)

theorem NameOwn_pure (l : List S25) (h : l.length * Tryd.prog.bytesOf 25 ≤ 140737488351232 ∧ l.length ≤ maxLen ∧ ∀ a ∈ l, O.niceAsk a) : ∃ k, fairwaylaw7_NameOwn.f k l = some true := by
  have hb : Tryd.prog.bytesOf 25 = 32 := by kernel_rfl
  rw [hb] at h
  refine ⟨30000 + 12 * 6000, ?_⟩
  unfold fairwaylaw7_NameOwn.f
  have := NameOwn_loops l (by omega) h.2.2 12 0 (by omega) (by omega) (by omega) (30000 + 12 * 6000) (by omega)
  rw [show ((0 : Nat) : Int) = 0 from rfl] at this
  exact this
end Go.Proofs.YtnaeffgkdoanfaaDoor.P
