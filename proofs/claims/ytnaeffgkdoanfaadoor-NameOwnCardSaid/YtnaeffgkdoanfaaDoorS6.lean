/- Plain laws: the levels of a text as a list of lists of bytes; texts put behind one another. -/
import Derived.Test.YtnaeffgkdoanfaaDoorS5
namespace Go.Proofs.YtnaeffgkdoanfaaDoor.P
open Go.RowKit Go.Proofs.YtnaeffgkdoanfaaDoorW.PrintWords Go.Proofs.YtnaeffgkdoanfaaDoorW.PrintLast Go.Proofs.YtnaeffgkdoanfaaDoorW.PrintMore
open Go.Proofs.YtnaeffgkdoanfaaDoor
set_option linter.unusedSimpArgs false
set_option linter.unusedVariables false

def consH (p : List UInt8) : List (List UInt8) → List (List UInt8)
  | [] => [p]
  | h :: t => (p ++ h) :: t
def splitL : List UInt8 → List (List UInt8)
  | [] => [[]]
  | c :: l => if c = 47 then [] :: splitL l else consH [c] (splitL l)
theorem splitL_ne : ∀ l, splitL l ≠ [] := by
  intro l
  cases l with
  | nil => simp [splitL]
  | cons c l =>
    unfold splitL
    split
    · simp
    · cases splitL l <;> simp [consH]
theorem consH_nil {L : List (List UInt8)} (h : L ≠ []) : consH [] L = L := by
  cases L with
  | nil => exact absurd rfl h
  | cons a L => rfl
theorem consH_consH (p q : List UInt8) (L : List (List UInt8)) : consH p (consH q L) = consH (p ++ q) L := by
  cases L <;> simp [consH]
theorem levB_split (s : ByteArray) : ∀ (m fr i : Nat), fr ≤ i → i ≤ s.size → s.size ≤ i + m →
    (H.levB s m fr i).map (·.data.toList) = consH ((s.data.toList.drop fr).take (i - fr)) (splitL (s.data.toList.drop i)) := by
  have hl : s.data.toList.length = s.size := (H.size_data s).symm
  have fin : ∀ (fr i : Nat), fr ≤ i → i = s.size → [s.extract fr s.size].map (·.data.toList) = consH ((s.data.toList.drop fr).take (i - fr)) (splitL (s.data.toList.drop i)) := by
    intro fr i hf hi
    rw [List.drop_eq_nil_of_le (by omega : s.data.toList.length ≤ i)]
    simp only [splitL, consH, List.map_cons, List.map_nil, List.append_nil, Lib.extract_data, hi]
  intro m
  induction m with
  | zero =>
    intro fr i hf hi hm
    exact fin fr i hf (by omega)
  | succ m ih =>
    intro fr i hf hi hm
    by_cases hlt : i < s.size
    · rw [levB_step s m fr i hlt, H.drop_step s i hlt]
      unfold splitL
      by_cases h47 : (s.get! i).toNat = 47
      · rw [if_pos h47, if_pos (UInt8.toNat_inj.1 h47), List.map_cons, ih (i + 1) (i + 1) (by omega) (by omega) (by omega), Nat.sub_self, List.take_zero, consH_nil (splitL_ne _), Lib.extract_data]
        simp [consH]
      · rw [if_neg h47, if_neg (fun e => h47 (by rw [e]; rfl)), ih fr (i + 1) (by omega) (by omega) (by omega), consH_consH]
        congr 1
        rw [show i + 1 - fr = (i - fr) + 1 by omega, List.take_add_one]
        congr 1
        rw [List.getElem?_drop, show fr + (i - fr) = i by omega, List.getElem?_eq_getElem (by omega), H.get_data s i hlt]; rfl
    · rw [H.levB_end s _ _ _ hlt]
      exact fin fr i hf (by omega)
theorem levels_split (s : ByteArray) : (H.levels s).map (·.data.toList) = splitL s.data.toList := by
  unfold H.levels
  rw [levB_split s s.size 0 0 (by omega) (by omega) (by omega)]
  simp only [List.drop_zero, Nat.sub_zero, List.take_zero]
  exact consH_nil (splitL_ne _)

def refL : List (List UInt8) → List (List UInt8) → Bool
  | [], t => t.isEmpty
  | a :: f, t => if a = [35] then true else match t with
    | [] => false
    | b :: t => if a = [43] then refL f t else if a = b then refL f t else false
theorem refM_L : ∀ (f t : List ByteArray), refM f t = refL (f.map (·.data.toList)) (t.map (·.data.toList)) := by
  intro f
  induction f with
  | nil => intro t; cases t <;> rfl
  | cons a f ih =>
    intro t
    unfold refM
    simp only [List.map_cons]
    unfold refL
    simp only [Lib.toList_data]
    cases t with
    | nil => rfl
    | cons b t => simp only [List.map_cons, ih]
def calm (l : List UInt8) : Bool := l.all fun b => !wild b.toNat
def lvL : List (List UInt8) → Bool
  | [] => true
  | [a] => calm a || a == [43] || a == [35]
  | a :: b :: l => (calm a || a == [43]) && lvL (b :: l)
theorem lvOk_L : ∀ (l : List ByteArray), lvOk l = lvL (l.map (·.data.toList)) := by
  intro l
  induction l with
  | nil => rfl
  | cons a l ih =>
    cases l with
    | nil => simp only [lvOk, lvL, List.map_cons, List.map_nil, H.noneOf, calm, Lib.toList_data]
    | cons b l =>
      simp only [List.map_cons] at ih ⊢
      simp only [lvOk, lvL, H.noneOf, calm, Lib.toList_data] at ih ⊢
      rw [ih]

theorem splitL_cons (c : UInt8) (l : List UInt8) : splitL (c :: l) = if c = 47 then [] :: splitL l else consH [c] (splitL l) := rfl
theorem refL_cons (a b : List UInt8) (f t : List (List UInt8)) : refL (a :: f) (b :: t) = if a = [35] then true else if a = [43] then refL f t else if a = b then refL f t else false := by
  rw [refL]
theorem splitL_mid : ∀ (a b : List UInt8), splitL (a ++ 47 :: b) = splitL a ++ splitL b := by
  intro a
  induction a with
  | nil => intro b; simp [splitL]
  | cons c a ih =>
    intro b
    rw [List.cons_append, splitL_cons, splitL_cons c a, ih b]
    split
    · rfl
    · have := splitL_ne a
      cases h : splitL a with
      | nil => exact absurd h this
      | cons x y => rfl
theorem splitL_one : ∀ (b : List UInt8), (47 : UInt8) ∉ b → splitL b = [b] := by
  intro b
  induction b with
  | nil => intro _; rfl
  | cons c b ih =>
    intro h
    simp only [List.mem_cons, not_or] at h
    unfold splitL
    rw [if_neg (fun e => h.1 e.symm), ih h.2]; rfl
theorem splitL_no47 : ∀ (l : List UInt8), ∀ a ∈ splitL l, (47 : UInt8) ∉ a := by
  intro l
  induction l with
  | nil => intro a ha; simp [splitL] at ha; simp [ha]
  | cons c l ih =>
    intro a ha
    unfold splitL at ha
    split at ha
    · rcases List.mem_cons.1 ha with rfl | ha
      · simp
      · exact ih a ha
    · rename_i hc
      cases h : splitL l with
      | nil => exact absurd h (splitL_ne l)
      | cons x y =>
        rw [h] at ha ih
        simp only [consH, List.cons_append, List.nil_append, List.mem_cons] at ha
        rcases ha with rfl | ha
        · simp only [List.mem_cons, not_or]
          exact ⟨fun e => hc e.symm, ih x (by simp)⟩
        · exact ih a (by simp [ha])
theorem splitL_calm : ∀ (l : List UInt8), calm l = true → ∀ a ∈ splitL l, calm a = true := by
  intro l
  induction l with
  | nil => intro _ a ha; simp [splitL] at ha; simp [ha, calm]
  | cons c l ih =>
    intro hc a ha
    have h1 : (!wild c.toNat) = true ∧ calm l = true := by unfold calm at hc ⊢; simpa using hc
    unfold splitL at ha
    split at ha
    · rcases List.mem_cons.1 ha with rfl | ha
      · rfl
      · exact ih h1.2 a ha
    · cases h : splitL l with
      | nil => exact absurd h (splitL_ne l)
      | cons x y =>
        rw [h] at ha ih
        simp only [consH, List.cons_append, List.nil_append, List.mem_cons] at ha
        rcases ha with rfl | ha
        · have := ih h1.2 x (by simp)
          unfold calm at this ⊢
          rw [List.all_cons, h1.1, this]; rfl
        · exact ih h1.2 a (by simp [ha])
theorem calm35 {a : List UInt8} (h : calm a = true) : a ≠ [35] ∧ a ≠ [43] := by
  constructor <;> (intro e; rw [e] at h; revert h; decide)
theorem refL_same : ∀ (L : List (List UInt8)), (∀ a ∈ L, calm a = true) → ∀ (x y : List (List UInt8)), refL (L ++ x) (L ++ y) = refL x y := by
  intro L
  induction L with
  | nil => intro _ x y; rfl
  | cons a L ih =>
    intro h x y
    have ha := calm35 (h a (by simp))
    rw [List.cons_append, List.cons_append, refL_cons, if_neg ha.1, if_neg ha.2, if_pos rfl, ih (fun b hb => h b (by simp [hb]))]
theorem refL_more (c : UInt8) (hc : c ≠ 47) : ∀ (l p : List UInt8), calm p = true → calm l = true → refL (consH p (splitL l)) (consH p (splitL (l ++ [c]))) = false := by
  intro l
  induction l with
  | nil =>
    intro p hp _
    have h := calm35 hp
    have e : splitL ([] ++ [c]) = [[c]] := by
      simp only [List.nil_append]
      exact splitL_one [c] (by simp; exact fun e => hc e.symm)
    rw [e]
    simp only [splitL, consH, List.append_nil]
    rw [refL_cons, if_neg h.1, if_neg h.2, if_neg (by intro e; have := congrArg List.length e; simp at this)]
  | cons d l ih =>
    intro p hp hl
    have h1 : (!wild d.toNat) = true ∧ calm l = true := by unfold calm at hl ⊢; simpa using hl
    have h := calm35 hp
    rw [List.cons_append, splitL_cons, splitL_cons]
    by_cases hd : d = 47
    · rw [if_pos hd, if_pos hd]
      simp only [consH, List.append_nil]
      rw [refL_cons, if_neg h.1, if_neg h.2, if_pos rfl]
      have := ih [] rfl h1.2
      rwa [consH_nil (splitL_ne _), consH_nil (splitL_ne _)] at this
    · rw [if_neg hd, if_neg hd, consH_consH, consH_consH]
      exact ih (p ++ [d]) (by unfold calm at hp ⊢; rw [List.all_append, hp]; simpa using h1.1) h1.2

/-! ### a text behind another one -/
theorem append_data (t u : ByteArray) : (t ++ u).data.toList = t.data.toList ++ u.data.toList := by simp [ByteArray.data_append]
theorem append_size (t u : ByteArray) : (t ++ u).size = t.size + u.size := ByteArray.size_append
theorem get_append (t u : ByteArray) (j : Nat) (h : j < t.size) : (t ++ u).get! j = t.get! j := by
  rw [H.get_data _ j (by rw [append_size]; omega), H.get_data t j h]
  simp only [append_data]
  rw [List.getElem_append_left (by rw [← H.size_data]; exact h)]
theorem decodeN_more (n n' b0 b1 b2 b3 c1 c2 c3 : Nat) (hn : n ≤ n') (h1 : 1 < n → c1 = b1) (h2 : 2 < n → c2 = b2) (h3 : 3 < n → c3 = b3)
    (hg : Lib.decodeN n b0 b1 b2 b3 ≠ (65533, 1)) : Lib.decodeN n' b0 c1 c2 c3 = Lib.decodeN n b0 b1 b2 b3 := by
  unfold Lib.decodeN at hg ⊢
  by_cases k1 : b0 < 128
  · rw [if_pos k1, if_pos k1]
  rw [if_neg k1] at hg
  rw [if_neg k1, if_neg k1]
  by_cases k2 : b0 / 32 = 6 ∧ (1 < n ∧ b1 / 64 = 2)
  · obtain rfl := h1 k2.2.1
    rw [if_pos k2, if_pos ⟨k2.1, by omega, k2.2.2⟩]
  rw [if_neg k2] at hg
  rw [if_neg k2]
  by_cases k3 : b0 / 16 = 14 ∧ (1 < n ∧ b1 / 64 = 2) ∧ (2 < n ∧ b2 / 64 = 2)
  · obtain rfl := h1 k3.2.1.1
    obtain rfl := h2 k3.2.2.1
    rw [if_neg (by omega), if_pos k3, if_pos ⟨k3.1, ⟨by omega, k3.2.1.2⟩, by omega, k3.2.2.2⟩]
  rw [if_neg k3] at hg
  rw [if_neg k3]
  by_cases k4 : b0 / 8 = 30 ∧ (1 < n ∧ b1 / 64 = 2) ∧ (2 < n ∧ b2 / 64 = 2) ∧ (3 < n ∧ b3 / 64 = 2)
  · obtain rfl := h1 k4.2.1.1
    obtain rfl := h2 k4.2.2.1.1
    obtain rfl := h3 k4.2.2.2.1
    rw [if_neg (by omega), if_neg (by omega), if_pos k4, if_pos ⟨k4.1, ⟨by omega, k4.2.1.2⟩, ⟨by omega, k4.2.2.1.2⟩, by omega, k4.2.2.2.2⟩]
  · rw [if_neg k4] at hg
    exact absurd rfl hg
theorem decode_append (t u : ByteArray) (i : Nat) (hi : i < t.size) (hg : Utf8.decode t i ≠ (65533, 1)) : Utf8.decode (t ++ u) i = Utf8.decode t i := by
  rw [Lib.decode_at] at hg
  rw [Lib.decode_at, Lib.decode_at, get_append t u i hi]
  have hs := append_size t u
  exact decodeN_more _ _ _ _ _ _ _ _ _ (by omega) (fun h => by rw [get_append t u _ (by omega)]) (fun h => by rw [get_append t u _ (by omega)]) (fun h => by rw [get_append t u _ (by omega)]) hg
def plainA (u : ByteArray) : Bool := u.data.toList.all fun b => decide (32 ≤ b.toNat) && decide (b.toNat < 127)
theorem checkR_append (t u : ByteArray) (hu : plainA u = true) : ∀ (m i k : Nat), i ≤ (t ++ u).size → (t ++ u).size ≤ i + m → (i ≤ t.size → t.size ≤ i + k) → (i ≤ t.size → H.checkR t k i = 0) → H.checkR (t ++ u) m i = 0 := by
  have hs := append_size t u
  intro m
  induction m with
  | zero => intro i k _ _ _ _; rfl
  | succ m ih =>
    intro i k hi hm hk hc
    by_cases hlt : i < (t ++ u).size
    · rw [checkR_step _ m i hlt]
      by_cases hit : i < t.size
      · obtain ⟨k, rfl⟩ : ∃ q, k = q + 1 := ⟨k - 1, by have := hk (by omega); omega⟩
        have h0 := hc (by omega)
        rw [checkR_step t k i hit] at h0
        have h1 := H.decode_wid t i hit
        have h2 := H.decode_end t i hit
        cases hb : H.goodC ((Utf8.decode t i).1 : Int) && !((Utf8.decode t i).1 == 65533 && (Utf8.decode t i).2 == 1) with
        | false => rw [hb] at h0; simp at h0
        | true =>
          rw [hb, if_pos rfl] at h0
          have hg : Utf8.decode t i ≠ (65533, 1) := by intro e; rw [e] at hb; revert hb; decide
          rw [decode_append t u i hit hg, hb, if_pos rfl]
          exact ih _ k (by omega) (by omega) (fun _ => by have := hk (by omega); omega) (fun _ => h0)
      · have hb : (u.data.toList[i - t.size]'(by rw [← H.size_data]; omega)) = (t ++ u).get! i := by
          rw [H.get_data _ i hlt]
          simp only [append_data]
          rw [List.getElem_append_right (by rw [← H.size_data]; omega)]
          congr 1
        have hp := List.all_eq_true.1 hu _ (List.getElem_mem (by rw [← H.size_data]; omega : i - t.size < u.data.toList.length))
        rw [hb] at hp
        simp only [Bool.and_eq_true, decide_eq_true_eq] at hp
        obtain ⟨_, _, h3⟩ := H.decode_spec (t ++ u) i hlt
        have hd : Utf8.decode (t ++ u) i = (((t ++ u).get! i).toNat, 1) := by
          rcases h3 with ⟨_, h⟩ | ⟨_, h⟩
          · exact h
          · have := h i (by omega) (by have := H.decode_wid _ i hlt; omega); omega
        rw [hd]
        generalize ((t ++ u).get! i).toNat = c at *
        have hg : H.goodC (c : Int) = true := by unfold H.goodC; simp; omega
        have hne : (c == 65533) = false := by rw [beq_eq_false_iff_ne]; omega
        rw [hg, hne]
        simp only [Bool.false_and, Bool.not_false, Bool.and_self, if_true]
        exact ih (i + 1) k (by omega) (by omega) (fun _ => by omega) (fun _ => by omega)
    · exact H.checkR_end _ _ _ hlt
theorem checkS_append (t u : ByteArray) (ht : checkS t = 0) (hu : plainA u = true) (hz : t.size + u.size ≤ 1024) : checkS (t ++ u) = 0 := by
  have hs := append_size t u
  have h1 := checkS_small ht
  unfold checkS at ht ⊢
  rw [if_neg (by omega)] at ht
  rw [if_neg (by omega)]
  exact checkR_append t u hu _ 0 t.size (by omega) (by omega) (fun _ => by omega) (fun _ => ht)
end Go.Proofs.YtnaeffgkdoanfaaDoor.P
