/- By hand: slices.BinarySearchFunc at rows of a flat struct (Group). -/
import Derived.Test.YtoflajekfpggbaaDoorP0
import Derived.Test.YtoflajekfpggbaaDoorRaw
import Derived.Test.YtoflajekfpggbaaDoorHCmp
import Derived.Test.YtoflajekfpggbaaDoorP7
import Derived.StillTailTactics
import Derived.BigQuiet
namespace Go.Proofs.YtoflajekfpggbaaDoor.P
open Go.RowKit Go.Proofs.YtoflajekfpggbaaDoorW.PrintWords Go.Proofs.YtoflajekfpggbaaDoorW.PrintLast Go.Proofs.YtoflajekfpggbaaDoorW.PrintMore
open Go.Proofs.YtoflajekfpggbaaDoor
set_option linter.unusedSimpArgs false
set_option linter.unusedVariables false
def ordG (x y : S29) : Int := if cmpS x.f0 y.f0 = 0 then cmpS x.f1 y.f1 else cmpS x.f0 y.f0
theorem group_order_is (x y : S29) : group_order.f 3 x.f0 x.f1 x.f2 y.f0 y.f1 y.f2 = some (ordG x y) := by
  unfold group_order.f ordG
  simp only [cmp_Compare_string.f, Option.bind_some]
  by_cases h : cmpS x.f0 y.f0 = 0
  · rw [if_pos h]
    by_cases h2 : cmpS x.f1 y.f1 = 0
    · simp [cmp_Or_int.f, cmp_Or_int.l0, rd, h, h2, wrap64]
    · simp [cmp_Or_int.f, cmp_Or_int.l0, rd, h, h2, wrap64]
  · rw [if_neg h]
    simp [cmp_Or_int.f, cmp_Or_int.l0, rd, h]
theorem group_order.own (x y : S29) (w : World) : Calls Tryd.prog 29 #[.agg #[.string x.f0, .string x.f1, .int .i64 x.f2], .agg #[.string y.f0, .string y.f1, .int .i64 y.f2]] w fun e w' => e = .returned (.int .i64 (ordG x y)) ∧ Below w.heap.size w w' :=
  group_order.calls 3 _ _ _ _ _ _ _ w (group_order_is x y)

def searchGroup (l : List S29) (t : S29) : Nat → Nat → Nat → Nat
  | 0, i, _ => i
  | k + 1, i, j => if i < j then (if ordG (rd_T29 l (((i + j) / 2 : Nat) : Int)) t < 0 then searchGroup l t k ((i + j) / 2 + 1) j else searchGroup l t k i ((i + j) / 2)) else i
theorem searchGroup_lt (l : List S29) (t : S29) (k i j : Nat) (h : i < j) : searchGroup l t (k + 1) i j = if ordG (rd_T29 l (((i + j) / 2 : Nat) : Int)) t < 0 then searchGroup l t k ((i + j) / 2 + 1) j else searchGroup l t k i ((i + j) / 2) := by
  conv => lhs; unfold searchGroup
  rw [if_pos h]
theorem searchGroup_le (l : List S29) (t : S29) : ∀ (k i j : Nat), i ≤ j → i ≤ searchGroup l t k i j ∧ searchGroup l t k i j ≤ j := by
  intro k
  induction k with
  | zero => intro i j h; exact ⟨Nat.le_refl _, h⟩
  | succ k ih =>
    intro i j h
    unfold searchGroup
    by_cases hij : i < j
    · rw [if_pos hij]
      split
      · have := ih ((i + j) / 2 + 1) j (by omega); omega
      · have := ih i ((i + j) / 2) (by omega); omega
    · rw [if_neg hij]; exact ⟨Nat.le_refl _, h⟩
def foundGroup (l : List S29) (t : S29) (i : Nat) : Bool := decide (i < l.length) && ordG (rd_T29 l (i : Int)) t == 0
def api_Group_28.f (l : List S29) (a1_0 : ByteArray) (a1_1 : ByteArray) (a1_2 : Int) : Option (Int × Bool) :=
  if l.length ≤ 1000000000000 then some ((searchGroup l ⟨a1_0, a1_1, a1_2⟩ l.length 0 l.length : Nat), foundGroup l ⟨a1_0, a1_1, a1_2⟩ (searchGroup l ⟨a1_0, a1_1, a1_2⟩ l.length 0 l.length)) else none
set_option maxRecDepth 100000 in
set_option maxHeartbeats 4000000 in
theorem api_Group_28.calls (A0 : Option Addr) (c0 : Nat) (l0 : List S29) (a1_0 : ByteArray) (a1_1 : ByteArray) (a1_2 : Int) (r1 : Int) (r2 : Bool) (w : World) (hr0 : Kd.C k29 w A0 l0.length l0) (hc0 : l0.length ≤ c0) (h : api_Group_28.f l0 a1_0 a1_1 a1_2 = some (r1, r2)) :
    Calls Tryd.prog 28 #[.slice A0 l0.length c0, .agg #[.string a1_0, .string a1_1, .int .i64 a1_2], .func (.func 29) #[] #[]] w fun e w' => e = .returned (.tuple #[.int .i64 r1, .bool r2]) ∧ Below w.heap.size w w' := by
  unfold api_Group_28.f at h
  by_cases hl : l0.length ≤ 1000000000000
  case neg => rw [if_neg hl] at h; cases h
  rw [if_pos hl] at h
  have h' := Option.some.inj h
  have hr1 : ((searchGroup l0 ⟨a1_0, a1_1, a1_2⟩ l0.length 0 l0.length : Nat) : Int) = r1 := congrArg Prod.fst h'
  have hr2 : foundGroup l0 ⟨a1_0, a1_1, a1_2⟩ (searchGroup l0 ⟨a1_0, a1_1, a1_2⟩ l0.length 0 l0.length) = r2 := congrArg Prod.snd h'
  clear h h'
  have HR := Aside0.mk hr0
  have HL := Aside0.mk hl
  have H1 := Aside0.mk hr1
  have H2 := Aside0.mk hr2
  clear hr0 hl hr1 hr2
  go_enter Tryd.func28, Tryd.ntmps28
  go_wp2
  go_loopw [9, 10, 11] (fun v9 v10 _ w' => ∃ (i j k : Nat), v9 = .int .i64 i ∧ v10 = .int .i64 j ∧ i ≤ j ∧ j ≤ l0.length ∧ j ≤ i + k ∧ Aside0 (searchGroup l0 ⟨a1_0, a1_1, a1_2⟩ k i j = searchGroup l0 ⟨a1_0, a1_1, a1_2⟩ l0.length 0 l0.length) ∧ Aside0 (Below w.heap.size w w') ∧ Aside0 (w'.heap[w.heap.size]? = some (.cells #[.string a1_0, .string a1_1, .int .i64 a1_2] 29 (0, 0)))) (fun v9 v10 _ _ => (intOf v10).toNat - (intOf v9).toNat)
  case atStart => exact ⟨0, l0.length, l0.length, rfl, rfl, by omega, by omega, by omega, ⟨rfl⟩, ⟨below_alloc (Below.refl _ _) _⟩, ⟨heap_alloc_new _ _⟩⟩
  case round =>
    rename_i wr _
    obtain ⟨i, j, k, rfl, rfl, hij, hj, hk, HS, HB, HG⟩ := hrel
    have hlen := HL.out
    by_cases hlt : i < j
    · obtain ⟨k, rfl⟩ : ∃ q, k = q + 1 := ⟨k - 1, by omega⟩
      have hs := HS.out
      rw [searchGroup_lt _ _ _ _ _ hlt] at hs
      obtain ⟨m, hm⟩ : ∃ m, m = (i + j) / 2 := ⟨_, rfl⟩
      rw [← hm] at hs
      have hm1 : i ≤ m := by omega
      have hm2 : m < j := by omega
      have q1 : IntKind.i64.wrap ((i : Int) + (j : Int)) = (i : Int) + (j : Int) := by rw [IntKind.wrap_i64]; omega
      have p1 : (i : Int) < (j : Int) := by omega
      go_wp2
      have q2 : ((i : Int) + (j : Int)) / 2 = (m : Int) := by omega
      have p2 : (0 : Int) ≤ (m : Int) := by omega
      have p3 : (m : Int) < (l0.length : Int) := by omega
      obtain ⟨ad, e0, hx0, hx1, hx2⟩ := at_T29 (Kd.C_below HR.out HB.out) (m : Int) p2 p3
      subst e0
      simp only [Int.toNat_natCast] at hx0 hx1 hx2
      rw [q2]
      clear hm q2
      have g0 : wr.cell? ⟨w.heap.size, 0, none⟩ = some (.string a1_0) := by rw [cell_of_row wr _ 0 _ 29 (0, 0) HG.out]; rfl
      have g1 : wr.cell? ⟨w.heap.size, 1, none⟩ = some (.string a1_1) := by rw [cell_of_row wr _ 1 _ 29 (0, 0) HG.out]; rfl
      have g2 : wr.cell? ⟨w.heap.size, 2, none⟩ = some (.int .i64 a1_2) := by rw [cell_of_row wr _ 2 _ 29 (0, 0) HG.out]; rfl
      go_still_tail 6, (by kernel_rfl)
      change wpList _ _ _ _ _ wr.drew
      have HB1 := Aside0.mk (below_drew HB.out)
      have HG1 : Aside0 (wr.drew.heap[w.heap.size]? = some (.cells #[.string a1_0, .string a1_1, .int .i64 a1_2] 29 (0, 0))) := ⟨HG.out⟩
      generalize wr.drew = W at *
      by_cases hless : ordG (rd_T29 l0 (m : Int)) ⟨a1_0, a1_1, a1_2⟩ < 0
      · have hc : decide (ordG (rd_T29 l0 (m : Int)) ⟨a1_0, a1_1, a1_2⟩ < 0) = true := decide_eq_true hless
        rw [if_pos hless] at hs
        have HX := Aside0.mk hs
        clear hs hless
        go_wp2_with (first | (go_at_call 29; (with_reducible refine (group_order.own (rd_T29 l0 (m : Int)) ⟨a1_0, a1_1, a1_2⟩ _).mono ?_); rintro _ w2 ⟨rfl, hb2⟩; have HB2 := Aside0.mk hb2; clear hb2))
        go_roundw
        case rel =>
          have hlt := blk_lt HG1.out
          exact ⟨m + 1, j, k, by go_num, rfl, by omega, by omega, by omega, HX, ⟨below_then HB1.out (by omega) HB2.out⟩, ⟨(HB2.out.block _ hlt).trans HG1.out⟩⟩
        case measure => simp [intOf]; omega
      · have hc : decide (ordG (rd_T29 l0 (m : Int)) ⟨a1_0, a1_1, a1_2⟩ < 0) = false := decide_eq_false hless
        rw [if_neg hless] at hs
        have HX := Aside0.mk hs
        clear hs hless
        go_wp2_with (first | (go_at_call 29; (with_reducible refine (group_order.own (rd_T29 l0 (m : Int)) ⟨a1_0, a1_1, a1_2⟩ _).mono ?_); rintro _ w2 ⟨rfl, hb2⟩; have HB2 := Aside0.mk hb2; clear hb2))
        go_roundw
        case rel =>
          have hlt := blk_lt HG1.out
          exact ⟨i, m, k, rfl, rfl, by omega, by omega, by omega, HX, ⟨below_then HB1.out (by omega) HB2.out⟩, ⟨(HB2.out.block _ hlt).trans HG1.out⟩⟩
        case measure => simp [intOf]; omega
    · obtain rfl : i = j := by omega
      have hs : i = searchGroup l0 ⟨a1_0, a1_1, a1_2⟩ l0.length 0 l0.length := by
        rw [← HS.out]
        cases k with
        | zero => rfl
        | succ k => unfold searchGroup; rw [if_neg hlt]
      have h1 := H1.out
      have h2 := H2.out
      rw [← hs] at h1 h2
      have HR1 := Aside0.mk h1
      clear h1 hs
      have p1 : ¬ ((i : Int) < (i : Int)) := by omega
      have g0 : wr.cell? ⟨w.heap.size, 0, none⟩ = some (.string a1_0) := by rw [cell_of_row wr _ 0 _ 29 (0, 0) HG.out]; rfl
      have g1 : wr.cell? ⟨w.heap.size, 1, none⟩ = some (.string a1_1) := by rw [cell_of_row wr _ 1 _ 29 (0, 0) HG.out]; rfl
      have g2 : wr.cell? ⟨w.heap.size, 2, none⟩ = some (.int .i64 a1_2) := by rw [cell_of_row wr _ 2 _ 29 (0, 0) HG.out]; rfl
      by_cases hin : i < l0.length
      · have p2 : (0 : Int) ≤ (i : Int) := by omega
        have p3 : (i : Int) < (l0.length : Int) := by omega
        have p4 : decide ((i : Int) < (l0.length : Int)) = true := decide_eq_true p3
        obtain ⟨ad, e0, hx0, hx1, hx2⟩ := at_T29 (Kd.C_below HR.out HB.out) (i : Int) p2 p3
        subst e0
        simp only [Int.toNat_natCast] at hx0 hx1 hx2
        have h2' : (ordG (rd_T29 l0 (i : Int)) ⟨a1_0, a1_1, a1_2⟩ == 0) = r2 := by rw [← h2]; unfold foundGroup; rw [decide_eq_true hin, Bool.true_and]
        have HR2 := Aside0.mk h2'
        clear h2 h2' hij hj hk hlt
        go_wp2
        refine start_ (n := 16) (S := fun w' => w'.cell? (ad.add (i * 3)) = some (.string (rd_T29 l0 (i : Int)).f0) ∧ w'.cell? ⟨(ad.add (i * 3)).block, (ad.add (i * 3)).off + 1, none⟩ = some (.string (rd_T29 l0 (i : Int)).f1) ∧ w'.cell? ⟨(ad.add (i * 3)).block, (ad.add (i * 3)).off + 2, none⟩ = some (.int .i64 (rd_T29 l0 (i : Int)).f2) ∧ w'.cell? ⟨w.heap.size, 0, none⟩ = some (.string a1_0) ∧ w'.cell? ⟨w.heap.size, 1, none⟩ = some (.string a1_1) ∧ w'.cell? ⟨w.heap.size, 2, none⟩ = some (.int .i64 a1_2)) (ds := [11]) #[false, false, false, false, false, false, false, false, false, false, false, false, false, false, false, false] (by kernel_rfl) rfl rfl ⟨hx0, hx1, hx2, g0, g1, g2⟩ (fun hHeld => ?_)
        refine pure_ (i := 0) (N := some 35) (v := ?_) (a' := ?_) #[true, false, false, false, false, false, false, false, false, false, false, false, false, false, false, false] rfl rfl (by kernel_rfl) (fun _ _ _ h => h) (Or.inl ⟨by rfl, ?_⟩) ?_ ?_
        rotate_left
        · intro w'
          go_simp
          with_reducible rfl
        rotate_left
        · simp only [Act.put, List.setIfInBounds_toArray, List.set_cons_zero, List.set_cons_succ, i64_w, i32_w]
          rfl
        refine pure_ (i := 1) (N := some 36) (v := ?_) (a' := ?_) #[true, true, false, false, false, false, false, false, false, false, false, false, false, false, false, false] rfl rfl (by kernel_rfl) (fun _ _ _ h => h) (Or.inl ⟨by rfl, ?_⟩) ?_ ?_
        rotate_left
        · intro w'
          go_simp
          with_reducible rfl
        rotate_left
        · simp only [Act.put, List.setIfInBounds_toArray, List.set_cons_zero, List.set_cons_succ, i64_w, i32_w]
          rfl
        refine pure_ (i := 2) (N := some 37) (v := ?_) (a' := ?_) #[true, true, true, false, false, false, false, false, false, false, false, false, false, false, false, false] rfl rfl (by kernel_rfl) (fun _ _ _ h => h) (Or.inl ⟨by rfl, ?_⟩) ?_ ?_
        rotate_left
        · intro w'
          go_simp
          with_reducible rfl
        rotate_left
        · simp only [Act.put, List.setIfInBounds_toArray, List.set_cons_zero, List.set_cons_succ, i64_w, i32_w]
          rfl
        refine pure_ (i := 3) (N := some 38) (v := ?_) (a' := ?_) #[true, true, true, true, false, false, false, false, false, false, false, false, false, false, false, false] rfl rfl (by kernel_rfl) (fun _ _ _ h => h) (Or.inl ⟨by rfl, ?_⟩) ?_ ?_
        rotate_left
        · intro w'
          go_simp
          with_reducible rfl
        rotate_left
        · simp only [Act.put, List.setIfInBounds_toArray, List.set_cons_zero, List.set_cons_succ, i64_w, i32_w]
          rfl
        refine pure_ (i := 4) (N := some 39) (v := ?_) (a' := ?_) #[true, true, true, true, true, false, false, false, false, false, false, false, false, false, false, false] rfl rfl (by kernel_rfl) (fun _ _ _ h => h) (Or.inl ⟨by rfl, ?_⟩) ?_ ?_
        rotate_left
        · intro w'
          go_simp
          with_reducible rfl
        rotate_left
        · simp only [Act.put, List.setIfInBounds_toArray, List.set_cons_zero, List.set_cons_succ, i64_w, i32_w]
          rfl
        refine pure_ (i := 5) (N := some 40) (v := ?_) (a' := ?_) #[true, true, true, true, true, true, false, false, false, false, false, false, false, false, false, false] rfl rfl (by kernel_rfl) (fun _ _ _ h => h) (Or.inl ⟨by rfl, ?_⟩) ?_ ?_
        rotate_left
        · intro w'
          go_simp
          with_reducible rfl
        rotate_left
        · simp only [Act.put, List.setIfInBounds_toArray, List.set_cons_zero, List.set_cons_succ, i64_w, i32_w]
          rfl
        refine pure_ (i := 6) (N := some 41) (v := ?_) (a' := ?_) #[true, true, true, true, true, true, true, false, false, false, false, false, false, false, false, false] rfl rfl (by kernel_rfl) (fun _ _ _ h => h) (Or.inl ⟨by rfl, ?_⟩) ?_ ?_
        rotate_left
        · intro w'
          go_simp
          with_reducible rfl
        rotate_left
        · simp only [Act.put, List.setIfInBounds_toArray, List.set_cons_zero, List.set_cons_succ, i64_w, i32_w]
          rfl
        refine pure_ (i := 7) (N := some 42) (v := ?_) (a' := ?_) #[true, true, true, true, true, true, true, true, false, false, false, false, false, false, false, false] rfl rfl (by kernel_rfl) (fun _ _ _ h => h) (Or.inl ⟨by rfl, ?_⟩) ?_ ?_
        rotate_left
        · intro w'
          go_simp
          with_reducible rfl
        rotate_left
        · simp only [Act.put, List.setIfInBounds_toArray, List.set_cons_zero, List.set_cons_succ, i64_w, i32_w]
          rfl
        refine pure_ (i := 8) (N := some 43) (v := ?_) (a' := ?_) #[true, true, true, true, true, true, true, true, true, false, false, false, false, false, false, false] rfl rfl (by kernel_rfl) (fun _ _ _ h => h) (Or.inl ⟨by rfl, ?_⟩) ?_ ?_
        rotate_left
        · intro w'
          go_simp
          with_reducible rfl
        rotate_left
        · simp only [Act.put, List.setIfInBounds_toArray, List.set_cons_zero, List.set_cons_succ, i64_w, i32_w]
          rfl
        refine take_ (i := 9) (N := some 44) (v := ?_) (a' := ?_) #[true, true, true, true, true, true, true, true, true, true, false, false, false, false, false, false] rfl rfl (by kernel_rfl) (fun _ _ _ h => h) (Or.inl ⟨by rfl, ?_⟩) hHeld ?_ ?_
        rotate_left
        · rintro w' ⟨s0, s1, s2, s3, s4, s5⟩
          go_simp
          with_reducible rfl
        rotate_left
        · simp only [Act.put, List.setIfInBounds_toArray, List.set_cons_zero, List.set_cons_succ, i64_w, i32_w]
          rfl
        refine take_ (i := 10) (N := some 45) (v := ?_) (a' := ?_) #[true, true, true, true, true, true, true, true, true, true, true, false, false, false, false, false] rfl rfl (by kernel_rfl) (fun _ _ _ h => h) (Or.inl ⟨by rfl, ?_⟩) hHeld ?_ ?_
        rotate_left
        · rintro w' ⟨s0, s1, s2, s3, s4, s5⟩
          go_simp
          with_reducible rfl
        rotate_left
        · simp only [Act.put, List.setIfInBounds_toArray, List.set_cons_zero, List.set_cons_succ, i64_w, i32_w]
          rfl
        refine last_ (i := 11) (N := some 46) #[true, true, true, true, true, true, true, true, true, true, true, true, false, false, false, false] rfl rfl (by kernel_rfl) (by decide) (fun K hK => ?_)
        refine Raw.goesV_ Tryd.func29 (by kernel_rfl) rfl #[.agg #[.string (rd_T29 l0 (i : Int)).f0, .string (rd_T29 l0 (i : Int)).f1, .int .i64 (rd_T29 l0 (i : Int)).f2], .agg #[.string a1_0, .string a1_1, .int .i64 a1_2]] (by rfl) rfl rfl (by rfl) (by simp only [List.map_toArray, List.map_cons, List.map_nil]; rfl) ?_
        with_reducible refine (group_order.own (rd_T29 l0 (i : Int)) ⟨a1_0, a1_1, a1_2⟩ _).mono ?_
        rintro e w3 ⟨rfl, hb⟩
        refine ⟨_, rfl, ?_⟩
        have HB3 := Aside0.mk hb
        refine hK.out _ _ ?_
        clear hK K
        refine norm_ (a' := ?_) ?_ ?_
        rotate_left
        · show Act.put _ (some 46) _ = _
          simp only [Act.put, List.setIfInBounds_toArray, List.set_cons_zero, List.set_cons_succ, i64_w, i32_w]
          rfl
        refine pure_ (i := 12) (N := some 47) (v := ?_) (a' := ?_) #[true, true, true, true, true, true, true, true, true, true, true, true, true, false, false, false] rfl rfl (by kernel_rfl) (fun _ _ _ h => h) (Or.inl ⟨by rfl, ?_⟩) ?_ ?_
        rotate_left
        · intro w'
          go_simp
          with_reducible rfl
        rotate_left
        · simp only [Act.put, List.setIfInBounds_toArray, List.set_cons_zero, List.set_cons_succ, i64_w, i32_w]
          rfl
        refine pure_ (i := 13) (N := some 48) (v := ?_) (a' := ?_) #[true, true, true, true, true, true, true, true, true, true, true, true, true, true, false, false] rfl rfl (by kernel_rfl) (fun _ _ _ h => h) (Or.inl ⟨by rfl, ?_⟩) ?_ ?_
        rotate_left
        · intro w'
          go_simp
          with_reducible rfl
        rotate_left
        · simp only [Act.put, List.setIfInBounds_toArray, List.set_cons_zero, List.set_cons_succ, i64_w, i32_w]
          rfl
        refine pure_ (i := 14) (N := some 6) (v := ?_) (a' := ?_) #[true, true, true, true, true, true, true, true, true, true, true, true, true, true, true, false] rfl rfl (by kernel_rfl) (fun _ _ _ h => h) (Or.inl ⟨by rfl, ?_⟩) ?_ ?_
        rotate_left
        · intro w'
          go_simp
          with_reducible rfl
        rotate_left
        · simp only [Act.put, List.setIfInBounds_toArray, List.set_cons_zero, List.set_cons_succ, i64_w, i32_w]
          rfl
        refine pure_ (i := 15) (N := some 7) (v := ?_) (a' := ?_) #[true, true, true, true, true, true, true, true, true, true, true, true, true, true, true, true] rfl rfl (by kernel_rfl) (fun _ _ _ h => h) (Or.inl ⟨by rfl, ?_⟩) ?_ ?_
        rotate_left
        · intro w'
          go_simp
          with_reducible rfl
        rotate_left
        · simp only [Act.put, List.setIfInBounds_toArray, List.set_cons_zero, List.set_cons_succ, i64_w, i32_w]
          rfl
        refine done_ (by kernel_rfl) ?_
        go_wp2
        go_ret2
        have hlt : w.heap.size < wr.drew.heap.size := blk_lt HG.out
        exact ⟨by rw [← HR1.out, ← HR2.out]; rfl, below_then (below_drew HB.out) (by omega) HB3.out⟩
      · have p4 : decide ((i : Int) < (l0.length : Int)) = false := by simp; omega
        have p5 : ¬ ((i : Int) < (l0.length : Int)) := by omega
        have h2' : false = r2 := by rw [← h2]; unfold foundGroup; rw [decide_eq_false hin, Bool.false_and]
        have HR2 := Aside0.mk h2'
        clear h2 h2' hij hj hk hlt
        go_wp2
        repeat (go_quiet (fail); try go_wp2)
        go_ret2
        exact ⟨by rw [← HR1.out, ← HR2.out]; rfl, pw_below_drewN HB.out _⟩
end Go.Proofs.YtoflajekfpggbaaDoor.P
