/- What a group is, what groups are: the code's answers and the page's, as one. -/
import Derived.Test.YtoflajekfpggbaaDoorP3
import Derived.Test.YtoflajekfpggbaaDoorP8
import Derived.Test.YtoflajekfpggbaaDoorP5
import Derived.Test.YtoflajekfpggbaaDoorP4
import Derived.Test.YtoflajekfpggbaaDoorHName
import Derived.Test.YtoflajekfpggbaaDoorHSearch
import Derived.Test.YtoflajekfpggbaaDoorHGroupClone
import Derived.Test.YtoflajekfpggbaaDoorHGroupInsert
import Derived.Test.YtoflajekfpggbaaDoorOrd
import Derived.Test.YtoflajekfpggbaaDoorS3
namespace Go.Proofs.YtoflajekfpggbaaDoor.P
open Go.RowKit Go.Proofs.YtoflajekfpggbaaDoorW.PrintWords Go.Proofs.YtoflajekfpggbaaDoorW.PrintLast Go.Proofs.YtoflajekfpggbaaDoorW.PrintMore
set_option linter.unusedSimpArgs false
set_option linter.unusedVariables false
abbrev SG := S29
theorem rdG_at (l : List SG) (i : Nat) (h : i < l.length) : rd_T29 l (i : Int) = l[i] := by
  unfold rd_T29
  simp [List.getElem?_eq_getElem h]
def nameS (s : ByteArray) : Bool := H.noneOf badG s && (!decide (s.toList = []) && decide (checkS s = 0))
theorem gName_is (s : ByteArray) : group_Name.f s = some (nameS s) := by
  unfold group_Name.f nameS nameTail
  cases h : H.noneOf badG s with
  | false => rw [if_neg (by decide)]; rfl
  | true =>
    rw [if_pos rfl, Bool.true_and]
    by_cases h0 : s.toList = []
    · rw [if_pos h0, decide_eq_true h0]; rfl
    · rw [if_neg h0, decide_eq_false h0, Check_is, Option.bind_some]
      by_cases h1 : checkS s = 0
      · rw [decide_eq_true h1, h1]; rfl
      · rw [decide_eq_false h1, beq_eq_false_iff_ne.mpr h1]; rfl
theorem Num_is (a b : Int) : fairwayref0_Num.f a b = some (decide (a ≥ 0) && decide (a ≤ b)) := by
  unfold fairwayref0_Num.f
  by_cases h : a ≥ 0
  · rw [if_pos h, decide_eq_true h, Bool.true_and]
  · rw [if_neg h, decide_eq_false h, Bool.false_and]
theorem hasS_badG (s : ByteArray) : hasS s ⟨#[47, 43, 35]⟩ = !H.noneOf badG s := by
  unfold hasS H.noneOf badG
  induction s.data.toList with
  | nil => rfl
  | cons b l ih =>
    simp only [List.any_cons, List.all_cons, Bool.not_and, ih]
    congr 1
    have e : ∀ c : Nat, c < 256 → ((b == UInt8.ofNat c) = (b.toNat == c)) := fun c hc => by
      rw [Bool.eq_iff_iff, beq_iff_eq, beq_iff_eq]
      constructor
      · rintro rfl; simp; omega
      · intro h; rw [← h]; simp
    have e1 := e 47 (by decide)
    have e2 := e 43 (by decide)
    have e3 := e 35 (by decide)
    simp only [List.any_cons, List.any_nil, Bool.or_false]
    rw [show (47 : UInt8) = UInt8.ofNat 47 from rfl, show (43 : UInt8) = UInt8.ofNat 43 from rfl, show (35 : UInt8) = UInt8.ofNat 35 from rfl, e1, e2, e3]
    simp [Bool.or_assoc]
theorem rGroup_is (s : ByteArray) (hz : s.size ≤ 1000000) (k : Nat) (hk : 12000001 ≤ k) : fairwayref7_Group.f k s = some (nameS s) := by
  unfold fairwayref7_Group.f nameS
  by_cases h0 : s.toList = []
  · rw [if_pos h0, decide_eq_true h0]; simp
  · rw [if_neg h0, decide_eq_false h0, has_is s _ hz (by decide) k (by omega), hasS_badG]
    simp only [Option.bind_some, Bool.not_false, Bool.true_and]
    cases H.noneOf badG s with
    | false => rw [if_pos (by decide)]; rfl
    | true =>
      rw [if_neg (by decide), Text_is _ _ (by omega), Option.bind_some, Bool.true_and]
      by_cases h1 : checkS s = 0
      · rw [decide_eq_true h1, h1]; rfl
      · rw [decide_eq_false h1, beq_eq_false_iff_ne.mpr h1]
def grpS (n t : ByteArray) (o : Int) : Bool := nameS n && (decide (topicS t = 0) && (decide (o ≥ 0) && decide (o ≤ 1099511627776)))
theorem gmay_is (n t : ByteArray) (o : Int) : group_may.f n t o = some (grpS n t o) := by
  unfold group_may.f grpS
  rw [gName_is]
  simp only [Option.bind_some]
  cases nameS n with
  | false => rw [if_neg (by decide)]; rfl
  | true =>
    rw [if_pos rfl, nTopic_is, Option.bind_some, Bool.true_and]
    by_cases h1 : topicS t = 0
    · rw [if_pos h1, decide_eq_true h1, Bool.true_and]
      by_cases h2 : o ≥ 0
      · rw [if_pos h2, decide_eq_true h2, Bool.true_and]
      · rw [if_neg h2, decide_eq_false h2, Bool.false_and]
    · rw [if_neg h1, decide_eq_false h1, Bool.false_and]
theorem rGrp_is (n t : ByteArray) (o : Int) (hn : n.size ≤ 1000000) (k : Nat) (hk : 12000001 ≤ k) : fairwayref17_Group.f k n t o = some (grpS n t o) := by
  unfold fairwayref17_Group.f grpS
  rw [rGroup_is n hn k hk]
  simp only [Option.bind_some]
  cases nameS n with
  | false => rw [if_neg (by decide)]; rfl
  | true =>
    rw [if_pos rfl, Topic_is _ _ (by omega), Option.bind_some, Bool.true_and]
    by_cases h1 : topicS t = 0
    · rw [if_pos h1, decide_eq_true h1, Bool.true_and, Num_is, Option.bind_some]
    · rw [if_neg h1, decide_eq_false h1, Bool.false_and]
/-! the order -/
def belowG (x y : SG) : Bool := lessS x.f0 y.f0 || (decide (x.f0.toList = y.f0.toList) && lessS x.f1 y.f1)
theorem below_is (x y : SG) : fairwayref17_below.f x.f0 x.f1 x.f2 y.f0 y.f1 y.f2 = some (belowG x y) := by
  unfold fairwayref17_below.f belowG
  change (if lessS x.f0 y.f0 = true then _ else if _ then some (lessS x.f1 y.f1) else _) = _
  cases h : lessS x.f0 y.f0 with
  | true => rw [if_pos rfl]; rfl
  | false =>
    rw [if_neg (by decide)]
    by_cases h1 : x.f0.toList = y.f0.toList
    · rw [if_pos h1, decide_eq_true h1]; rfl
    · rw [if_neg h1, decide_eq_false h1]; rfl
theorem ordG_lt (x y : SG) : ordG x y < 0 ↔ belowG x y = true := by
  unfold ordG belowG
  by_cases h : cmpS x.f0 y.f0 = 0
  · rw [if_pos h, cmpS_lt]
    have e := (cmpS_zero _ _).1 h
    have : lessS x.f0 y.f0 = false := by
      cases hx : lessS x.f0 y.f0 with
      | false => rfl
      | true => exact absurd e (less_ne hx)
    rw [this, decide_eq_true e]; simp
  · rw [if_neg h, cmpS_lt]
    have e : ¬ x.f0.toList = y.f0.toList := fun e => h ((cmpS_zero _ _).2 e)
    rw [decide_eq_false e]; simp
def sameG (x y : SG) : Bool := decide (x.f0.toList = y.f0.toList) && decide (x.f1.toList = y.f1.toList)
theorem ordG_zero (x y : SG) : (ordG x y == 0) = sameG x y := by
  unfold ordG sameG
  rw [Bool.eq_iff_iff, beq_iff_eq, Bool.and_eq_true, decide_eq_true_eq, decide_eq_true_eq]
  by_cases h : cmpS x.f0 y.f0 = 0
  · rw [if_pos h, cmpS_zero]
    have e := (cmpS_zero _ _).1 h
    simp [e]
  · rw [if_neg h]
    have e : ¬ x.f0.toList = y.f0.toList := fun e => h ((cmpS_zero _ _).2 e)
    simp [h, e]
theorem belowG_trans (x y z : SG) (h1 : belowG x y = true) (h2 : belowG y z = true) : belowG x z = true := by
  unfold belowG at h1 h2 ⊢
  simp only [Bool.or_eq_true, Bool.and_eq_true, decide_eq_true_eq] at h1 h2 ⊢
  rcases h1 with h1 | ⟨e1, h1⟩
  · rcases h2 with h2 | ⟨e2, h2⟩
    · exact .inl (less_trans h1 h2)
    · exact .inl (by rw [← less_congr rfl e2]; exact h1)
  · rcases h2 with h2 | ⟨e2, h2⟩
    · exact .inl (by rw [less_congr e1 rfl]; exact h2)
    · exact .inr ⟨e1.trans e2, less_trans h1 h2⟩
theorem belowG_congr {x y z : SG} (h : sameG x y = true) : belowG x z = belowG y z ∧ belowG z x = belowG z y := by
  unfold sameG at h
  simp only [Bool.and_eq_true, decide_eq_true_eq] at h
  unfold belowG
  rw [less_congr h.1 rfl, less_congr (rfl : z.f0.toList = z.f0.toList) h.1, less_congr h.2 rfl, less_congr (rfl : z.f1.toList = z.f1.toList) h.2, h.1]
  exact ⟨rfl, rfl⟩
theorem belowG_irrefl {x y : SG} (h : sameG x y = true) : belowG x y = false := by
  rw [(belowG_congr h).1]
  unfold belowG
  rw [less_irrefl, less_irrefl]; simp
theorem belowG_tri {x y : SG} (h1 : belowG x y = false) (h2 : belowG y x = false) : sameG x y = true := by
  unfold belowG at h1 h2
  simp only [Bool.or_eq_false_iff, Bool.and_eq_false_iff, decide_eq_false_iff_not] at h1 h2
  have e := less_tri h1.1 h2.1
  unfold sameG
  rw [decide_eq_true e, Bool.true_and]
  have a := h1.2.resolve_left (fun h => h e)
  have b := h2.2.resolve_left (fun h => h e.symm)
  exact decide_eq_true (less_tri a b)
/-! groups -/
def okG (l : List SG) (i : Nat) : Bool :=
  grpS (rd_T29 l (i : Int)).f0 (rd_T29 l (i : Int)).f1 (rd_T29 l (i : Int)).f2 && (decide (i = 0) || belowG (rd_T29 l ((i - 1 : Nat) : Int)) (rd_T29 l (i : Int)))
def allG (l : List SG) : Nat → Nat → Bool
  | 0, _ => true
  | m + 1, i => okG l i && allG l m (i + 1)
def groupsS (l : List SG) : Bool := allG l l.length 0 && decide (l.length ≤ 8)
structure SmallG (l : List SG) : Prop where
  h : ∀ i, (h : i < l.length) → l[i].f0.size ≤ 1000000
theorem Groups_loop (l : List SG) (hl : l.length ≤ 1000000) (hs : SmallG l) : ∀ (m i k : Nat), i + m = l.length → 12000002 + m ≤ k → fairwayref17_Groups.l0 k l (i : Int) = some (allG l m i && decide (l.length ≤ 8)) := by
  intro m
  induction m with
  | zero =>
    intro i k h hk
    obtain ⟨k, rfl⟩ : ∃ q, k = q + 1 := ⟨k - 1, by omega⟩
    rw [fairwayref17_Groups.l0, if_neg (by omega)]
    have e : decide ((l.length : Int) ≤ 8) = decide (l.length ≤ 8) := by simp only [decide_eq_decide]; omega
    rw [e]
    rfl
  | succ m ih =>
    intro i k h hk
    obtain ⟨k, rfl⟩ : ∃ q, k = q + 1 := ⟨k - 1, by omega⟩
    have e1 : wrap64 ((i : Int) + 1) = ((i + 1 : Nat) : Int) := by rw [wrap_small _ (by omega) (by omega)]; omega
    have hi := ih (i + 1) k (by omega) (by omega)
    have hz := hs.h i (by omega)
    rw [← rdG_at l i (by omega)] at hz
    rw [fairwayref17_Groups.l0, if_pos (by omega), if_pos (by omega), rGrp_is _ _ _ hz _ (by omega), e1]
    simp only [Option.bind_some, allG, okG]
    cases hr : grpS (rd_T29 l (i : Int)).f0 (rd_T29 l (i : Int)).f1 (rd_T29 l (i : Int)).f2 with
    | false => simp
    | true =>
      rw [if_pos rfl]
      by_cases h0 : i = 0
      · subst h0
        rw [if_neg (by decide), hi]
        simp
      · have e2 : wrap64 ((i : Int) - 1) = ((i - 1 : Nat) : Int) := by rw [wrap_small _ (by omega) (by omega)]; omega
        rw [if_pos (by omega), e2, if_pos (by omega), if_pos (by omega), hi, decide_eq_false h0, below_is, Option.bind_some]
        cases hc : belowG (rd_T29 l ((i - 1 : Nat) : Int)) (rd_T29 l (i : Int)) with
        | true => simp
        | false => simp
theorem Groups_is (l : List SG) (hl : l.length ≤ 1000000) (hs : SmallG l) (k : Nat) (hk : 13000002 ≤ k) : fairwayref17_Groups.f k l = some (groupsS l) := by
  unfold fairwayref17_Groups.f groupsS
  have := Groups_loop l hl hs l.length 0 k (by omega) (by omega)
  exact this
def bad1 (b : Bool) : Int := match b with | true => 0 | false => 1
theorem order_is (x y : SG) (k : Nat) (hk : 3 ≤ k) : group_order.f k x.f0 x.f1 x.f2 y.f0 y.f1 y.f2 = some (ordG x y) := at_rounds (group_order.mono _ _ _ _ _ _) hk (group_order_is x y)
theorem gCheck_loop (l : List SG) (hl : l.length ≤ 1000000) : ∀ (m i k : Nat), i + m = l.length → 5 + m ≤ k → group_Check.l0 k l l (l.length : Int) (i : Int) = some (bad1 (allG l m i)) := by
  intro m
  induction m with
  | zero =>
    intro i k h hk
    obtain ⟨k, rfl⟩ : ∃ q, k = q + 1 := ⟨k - 1, by omega⟩
    rw [group_Check.l0, if_neg (by omega)]
    rfl
  | succ m ih =>
    intro i k h hk
    obtain ⟨k, rfl⟩ : ∃ q, k = q + 1 := ⟨k - 1, by omega⟩
    have e1 : wrap64 ((i : Int) + 1) = ((i + 1 : Nat) : Int) := by rw [wrap_small _ (by omega) (by omega)]; omega
    have hi := ih (i + 1) k (by omega) (by omega)
    rw [group_Check.l0, if_pos (by omega), if_pos (by omega), if_pos (by omega), gmay_is, e1]
    simp only [Option.bind_some, allG, okG]
    cases hr : grpS (rd_T29 l (i : Int)).f0 (rd_T29 l (i : Int)).f1 (rd_T29 l (i : Int)).f2 with
    | false => simp [bad1]
    | true =>
      rw [if_pos rfl]
      by_cases h0 : i = 0
      · subst h0
        rw [if_neg (by decide), hi]
        simp
      · have e2 : wrap64 ((i : Int) - 1) = ((i - 1 : Nat) : Int) := by rw [wrap_small _ (by omega) (by omega)]; omega
        rw [if_pos (by omega), e2, if_pos (by omega), if_pos (by omega), hi, decide_eq_false h0, order_is _ _ _ (by omega), Option.bind_some]
        cases hc : belowG (rd_T29 l ((i - 1 : Nat) : Int)) (rd_T29 l (i : Int)) with
        | true =>
          have := (ordG_lt _ _).2 hc
          rw [if_neg (by omega)]
          simp
        | false =>
          have : ¬ ordG (rd_T29 l ((i - 1 : Nat) : Int)) (rd_T29 l (i : Int)) < 0 := fun h => by rw [(ordG_lt _ _).1 h] at hc; cases hc
          rw [if_pos (by omega)]
          simp [bad1]
theorem gCheck_is (l : List SG) (hl : l.length ≤ 1000000) (k : Nat) (hk : 20 ≤ k) : group_Check.f k l = some (bad1 (groupsS l)) := by
  unfold group_Check.f groupsS
  by_cases h : (l.length : Int) > 8
  · rw [if_pos h, decide_eq_false (by omega), Bool.and_false]; rfl
  · rw [if_neg h, decide_eq_true (by omega), Bool.and_true]
    exact gCheck_loop l hl l.length 0 k (by omega) (by omega)
theorem allG_at (l : List SG) : ∀ (m i : Nat), allG l m i = true → ∀ j, i ≤ j → j < i + m → okG l j = true := by
  intro m
  induction m with
  | zero => intro i _ j h1 h2; omega
  | succ m ih =>
    intro i h j h1 h2
    simp only [allG, Bool.and_eq_true] at h
    by_cases hj : j = i
    · subst hj; exact h.1
    · exact ih (i + 1) h.2 j (by omega) (by omega)
structure GroupsP (l : List SG) : Prop where
  small : l.length ≤ 8
  rise : Rising belowG l
theorem groups_of {l : List SG} (h : groupsS l = true) : GroupsP l := by
  unfold groupsS at h
  simp only [Bool.and_eq_true, decide_eq_true_eq] at h
  refine ⟨h.2, fun j hj => ?_⟩
  have ho := allG_at l _ _ h.1 (j + 1) (by omega) (by omega)
  unfold okG at ho
  simp only [Bool.and_eq_true, Bool.or_eq_true, decide_eq_true_eq] at ho
  rcases ho.2 with h1 | h1
  · omega
  · rw [show j + 1 - 1 = j by omega, rdG_at l j (by omega), rdG_at l (j + 1) hj] at h1
    exact h1
/-! where one stands -/
theorem search_is (l : List SG) (t : SG) : ∀ (k i j : Nat), searchGroup l t k i j = srch (fun m => belowG (rd_T29 l (m : Int)) t) k i j := by
  intro k
  induction k with
  | zero => intro i j; rfl
  | succ k ih =>
    intro i j
    unfold searchGroup srch
    by_cases h : i < j
    · rw [if_pos h, if_pos h]
      by_cases hc : ordG (rd_T29 l (((i + j) / 2 : Nat) : Int)) t < 0
      · rw [if_pos hc, if_pos ((ordG_lt _ _).1 hc), ih]
      · rw [if_neg hc, if_neg (fun e => hc ((ordG_lt _ _).2 e)), ih]
    · rw [if_neg h, if_neg h]
def atG (l : List SG) (t : SG) : Nat := searchGroup l t l.length 0 l.length
/-- Ahead of it all are below, from it on none. -/
theorem atG_spec (l : List SG) (h : GroupsP l) (t : SG) : atG l t ≤ l.length ∧ (∀ q, (hq : q < l.length) → q < atG l t → belowG l[q] t = true) ∧ (∀ q, (hq : q < l.length) → atG l t ≤ q → belowG l[q] t = false) := by
  have := srch_spec (fun m => belowG (rd_T29 l (m : Int)) t) l.length (fun a b hab hb hx => by
    have hx : belowG (rd_T29 l (b : Int)) t = true := hx
    show belowG (rd_T29 l (a : Int)) t = true
    rw [rdG_at l a (by omega)]
    rw [rdG_at l b hb] at hx
    exact belowG_trans _ _ _ (h.rise.lt belowG_trans a b hab hb) hx) l.length 0 l.length (by omega) (by omega) (by omega) (fun q hq => by omega) (fun q h1 h2 => by omega)
  unfold atG
  rw [search_is]
  refine ⟨this.2.1, fun q hq hlt => ?_, fun q hq hle => ?_⟩
  · have := this.2.2.1 q hlt
    simpa [rdG_at l q hq] using this
  · have := this.2.2.2 q hle hq
    simpa [rdG_at l q hq] using this
theorem found_is (l : List SG) (t : SG) (i : Nat) : foundGroup l t i = (decide (i < l.length) && sameG (rd_T29 l (i : Int)) t) := by
  unfold foundGroup
  rw [ordG_zero]
/-- The page's place. -/
def fetchL (t : SG) : List SG → Nat → Int
  | [], _ => -1
  | x :: xs, i => if sameG x t = true then (i : Int) else fetchL t xs (i + 1)
theorem Fetch_loop (l : List SG) (hl : l.length ≤ 1000000) (t : SG) : ∀ (m i k : Nat), i + m = l.length → 1 + m ≤ k → fairwayref17_Fetch.l0 k l t.f0 t.f1 (i : Int) = some (fetchL t (l.drop i) i) := by
  intro m
  induction m with
  | zero =>
    intro i k h hk
    obtain ⟨k, rfl⟩ : ∃ q, k = q + 1 := ⟨k - 1, by omega⟩
    rw [fairwayref17_Fetch.l0, if_neg (by omega), List.drop_eq_nil_of_le (by omega)]; rfl
  | succ m ih =>
    intro i k h hk
    obtain ⟨k, rfl⟩ : ∃ q, k = q + 1 := ⟨k - 1, by omega⟩
    have e1 : wrap64 ((i : Int) + 1) = ((i + 1 : Nat) : Int) := by rw [wrap_small _ (by omega) (by omega)]; omega
    rw [fairwayref17_Fetch.l0, if_pos (by omega), if_pos (by omega), rdG_at l i (by omega), e1, ih (i + 1) k (by omega) (by omega), List.drop_eq_getElem_cons (show i < l.length by omega)]
    unfold fetchL sameG
    by_cases h1 : (l[i]'(by omega)).f0.toList = t.f0.toList
    · rw [if_pos h1, decide_eq_true h1, Bool.true_and]
      by_cases h2 : (l[i]'(by omega)).f1.toList = t.f1.toList
      · rw [if_pos h2, decide_eq_true h2]; rfl
      · rw [if_neg h2, decide_eq_false h2, if_neg (by decide)]
        conv => rhs; unfold fetchL sameG
    · rw [if_neg h1, decide_eq_false h1, Bool.false_and, if_neg (by decide)]
      conv => rhs; unfold fetchL sameG
theorem rFetch_is (l : List SG) (hl : l.length ≤ 1000000) (t : SG) (k : Nat) (hk : l.length + 1 ≤ k) : fairwayref17_Fetch.f k l t.f0 t.f1 = some (fetchL t l 0) := by
  unfold fairwayref17_Fetch.f
  have := Fetch_loop l hl t l.length 0 k (by omega) (by omega)
  rw [List.drop_zero] at this
  exact this
theorem fetchL_none (t : SG) : ∀ (l : List SG) (i : Nat), (∀ x ∈ l, sameG x t = false) → fetchL t l i = -1 := by
  intro l
  induction l with
  | nil => intro i _; rfl
  | cons x l ih =>
    intro i h
    rw [fetchL, if_neg (by rw [h x (by simp)]; decide), ih _ (fun y hy => h y (by simp [hy]))]
theorem fetchL_skip (t : SG) : ∀ (A B : List SG) (i : Nat), (∀ x ∈ A, sameG x t = false) → fetchL t (A ++ B) i = fetchL t B (i + A.length) := by
  intro A
  induction A with
  | nil => intro B i _; rfl
  | cons x A ih =>
    intro B i h
    rw [List.cons_append, fetchL, if_neg (by rw [h x (by simp)]; decide), ih B (i + 1) (fun y hy => h y (by simp [hy]))]
    congr 1
    simp; omega
/-- The code's place and the page's. -/
theorem fetch_at (l : List SG) (h : GroupsP l) (t : SG) : fetchL t l 0 = if foundGroup l t (atG l t) = true then (atG l t : Int) else -1 := by
  obtain ⟨h1, h2, h3⟩ := atG_spec l h t
  rw [found_is]
  generalize atG l t = i at *
  have hA : ∀ x ∈ l.take i, sameG x t = false := by
    intro x hx
    obtain ⟨q, hq, rfl⟩ := List.mem_iff_getElem.1 hx
    rw [List.length_take] at hq
    rw [List.getElem_take]
    cases hs : sameG (l[q]'(by omega)) t with
    | false => rfl
    | true =>
      have := h2 q (by omega) (by omega)
      rw [belowG_irrefl hs] at this
      cases this
  have e := fetchL_skip t (l.take i) (l.drop i) 0 hA
  rw [List.take_append_drop] at e
  rw [e, List.length_take, Nat.min_eq_left h1, Nat.zero_add]
  by_cases hi : i < l.length
  · rw [decide_eq_true hi, Bool.true_and, rdG_at l i hi, List.drop_eq_getElem_cons hi, fetchL]
    cases hs : sameG l[i] t with
    | true => rfl
    | false =>
      rw [if_neg (by decide), if_neg (by decide)]
      refine fetchL_none t _ _ (fun x hx => ?_)
      obtain ⟨q, hq, rfl⟩ := List.mem_iff_getElem.1 hx
      rw [List.length_drop] at hq
      rw [List.getElem_drop]
      cases hs2 : sameG (l[i + 1 + q]'(by omega)) t with
      | false => rfl
      | true =>
        have a := h.rise.lt belowG_trans i (i + 1 + q) (by omega) (by omega)
        rw [(belowG_congr hs2).2, h3 i hi (Nat.le_refl _)] at a
        cases a
  · rw [decide_eq_false hi, Bool.false_and, if_neg (by decide), List.drop_eq_nil_of_le (by omega)]; rfl
end Go.Proofs.YtoflajekfpggbaaDoor.P
