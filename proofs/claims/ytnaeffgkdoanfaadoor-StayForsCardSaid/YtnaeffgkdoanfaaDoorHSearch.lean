/- By hand: slices.BinarySearchFunc at the closure of stay.Put. -/
import Derived.Test.YtnaeffgkdoanfaaDoorP0
import Derived.Test.YtnaeffgkdoanfaaDoorRaw
import Derived.StillTailTactics
import Derived.BigQuiet
namespace Go.Proofs.YtnaeffgkdoanfaaDoor.P
open Go.RowKit Go.Proofs.YtnaeffgkdoanfaaDoorW.PrintWords Go.Proofs.YtnaeffgkdoanfaaDoorW.PrintLast Go.Proofs.YtnaeffgkdoanfaaDoorW.PrintMore
open Go.Proofs.YtnaeffgkdoanfaaDoor
set_option linter.unusedSimpArgs false
set_option linter.unusedVariables false
def lessS (x y : ByteArray) : Bool := Op.bytesLess x.toList y.toList
def searchR (l : List S50) (t : ByteArray) : Nat → Nat → Nat → Nat
  | 0, i, _ => i
  | k + 1, i, j => if i < j then (if lessS (rd_T50 l (((i + j) / 2 : Nat) : Int)).f0 t = true then searchR l t k ((i + j) / 2 + 1) j else searchR l t k i ((i + j) / 2)) else i
theorem searchR_lt (l : List S50) (t : ByteArray) (k i j : Nat) (h : i < j) : searchR l t (k + 1) i j = if lessS (rd_T50 l (((i + j) / 2 : Nat) : Int)).f0 t = true then searchR l t k ((i + j) / 2 + 1) j else searchR l t k i ((i + j) / 2) := by
  conv => lhs; unfold searchR
  rw [if_pos h]
theorem searchR_le (l : List S50) (t : ByteArray) : ∀ (k i j : Nat), i ≤ j → i ≤ searchR l t k i j ∧ searchR l t k i j ≤ j := by
  intro k
  induction k with
  | zero => intro i j h; exact ⟨Nat.le_refl _, h⟩
  | succ k ih =>
    intro i j h
    unfold searchR
    by_cases hij : i < j
    · rw [if_pos hij]
      split
      · have := ih ((i + j) / 2 + 1) j (by omega); omega
      · have := ih i ((i + j) / 2) (by omega); omega
    · rw [if_neg hij]; exact ⟨Nat.le_refl _, h⟩
def cmpS (x y : ByteArray) : Int := if lessS x y = true then -1 else if x.toList = y.toList then 0 else 1
set_option maxRecDepth 100000 in
set_option maxHeartbeats 4000000 in
theorem cmp_Compare_string.calls (x y : ByteArray) (w : World) : Calls Tryd.prog 53 #[.string x, .string y] w fun e w' => e = .returned (.int .i64 (cmpS x y)) ∧ Drawn0 w w' := by
  have e1 : (x.toList != x.toList) = false := by simp
  have e2 : (y.toList != y.toList) = false := by simp
  unfold cmpS lessS
  by_cases h1 : Op.bytesLess x.toList y.toList = true
  · rw [if_pos h1]
    go_enter Tryd.func53, Tryd.ntmps53
    go_wp2
    go_ret
    exact ⟨rfl, Drawn0.refl _⟩
  · rw [if_neg h1]
    have h1' : Op.bytesLess x.toList y.toList = false := by simpa using h1
    by_cases h2 : x.toList = y.toList
    · rw [if_pos h2]
      have h2' : (x.toList == y.toList) = true := beq_iff_eq.mpr h2
      have hgt : ∀ W : World, (binOp .gtr 9 (.string x) (.string y)).run Tryd.prog W = .ok (.bool false) W := fun W => by simp [binOp, Op.stringOp, h1', h2']
      clear h2
      go_enter Tryd.func53, Tryd.ntmps53
      go_wp2
      go_ret
      exact ⟨rfl, Drawn0.refl _⟩
    · rw [if_neg h2]
      have h2' : (x.toList == y.toList) = false := beq_eq_false_iff_ne.mpr h2
      have hgt : ∀ W : World, (binOp .gtr 9 (.string x) (.string y)).run Tryd.prog W = .ok (.bool true) W := fun W => by simp [binOp, Op.stringOp, h1', h2']
      clear h2
      go_enter Tryd.func53, Tryd.ntmps53
      go_wp2
      go_ret
      exact ⟨rfl, Drawn0.refl _⟩
set_option maxRecDepth 100000 in
set_option maxHeartbeats 4000000 in
theorem stay_Put_1.calls (a b : S50) (w : World) : Calls Tryd.prog 52 #[.agg #[.string a.f0, .string a.f1, .int .i64 a.f2, .int .i64 a.f3], .agg #[.string b.f0, .string b.f1, .int .i64 b.f2, .int .i64 b.f3]] w fun e w' => e = .returned (.int .i64 (cmpS a.f0 b.f0)) ∧ Below w.heap.size w w' := by
  go_enter Tryd.func52, Tryd.ntmps52
  go_wp2_with (first | (go_at_call 53; (with_reducible refine (cmp_Compare_string.calls _ _ _).mono ?_); rintro _ _ ⟨rfl, ⟨nd, rfl⟩⟩))
  go_ret
  exact ⟨rfl, pw_below_drewN (below_alloc (below_alloc (Below.refl _ _) _) _) _⟩
def foundS (l : List S50) (t : ByteArray) (i : Nat) : Bool := decide (i < l.length) && cmpS (rd_T50 l (i : Int)).f0 t == 0
def api_Retained_51.f (l : List S50) (a1_0 a1_1 : ByteArray) (a1_2 a1_3 : Int) : Option (Int × Bool) :=
  some ((searchR l a1_0 l.length 0 l.length : Nat), foundS l a1_0 (searchR l a1_0 l.length 0 l.length))
set_option maxRecDepth 100000 in
set_option maxHeartbeats 4000000 in
theorem api_Retained_51.calls (A0 : Option Addr) (c0 : Nat) (l0 : List S50) (a1_0 : ByteArray) (a1_1 : ByteArray) (a1_2 : Int) (a1_3 : Int) (r1 : Int) (r2 : Bool) (w : World) (hr0 : Kd.C k50 w A0 l0.length l0) (hc0 : l0.length ≤ c0) (hl : l0.length ≤ 1000000000000) (h : api_Retained_51.f l0 a1_0 a1_1 a1_2 a1_3 = some (r1, r2)) :
    Calls Tryd.prog 51 #[.slice A0 l0.length c0, .agg #[.string a1_0, .string a1_1, .int .i64 a1_2, .int .i64 a1_3], .func (.func 52) #[] #[]] w fun e w' => e = .returned (.tuple #[.int .i64 r1, .bool r2]) ∧ Below w.heap.size w w' := by
  have h' := Option.some.inj h
  have hr1 : ((searchR l0 a1_0 l0.length 0 l0.length : Nat) : Int) = r1 := congrArg Prod.fst h'
  have hr2 : foundS l0 a1_0 (searchR l0 a1_0 l0.length 0 l0.length) = r2 := congrArg Prod.snd h'
  clear h h'
  have HR := Aside0.mk hr0
  have HL := Aside0.mk hl
  have H1 := Aside0.mk hr1
  have H2 := Aside0.mk hr2
  clear hr0 hl hr1 hr2
  go_enter Tryd.func51, Tryd.ntmps51
  go_wp2
  go_loopw [9, 10, 11] (fun v9 v10 _ w' => ∃ (i j k : Nat), v9 = .int .i64 i ∧ v10 = .int .i64 j ∧ i ≤ j ∧ j ≤ l0.length ∧ j ≤ i + k ∧ Aside0 (searchR l0 a1_0 k i j = searchR l0 a1_0 l0.length 0 l0.length) ∧ Aside0 (Below w.heap.size w w') ∧ Aside0 (w'.heap[w.heap.size]? = some (.cells #[.string a1_0, .string a1_1, .int .i64 a1_2, .int .i64 a1_3] 50 (0, 0)))) (fun v9 v10 _ _ => (intOf v10).toNat - (intOf v9).toNat)
  case atStart => exact ⟨0, l0.length, l0.length, rfl, rfl, by omega, by omega, by omega, ⟨rfl⟩, ⟨below_alloc (Below.refl _ _) _⟩, ⟨heap_alloc_new _ _⟩⟩
  case round =>
    rename_i wr _
    obtain ⟨i, j, k, rfl, rfl, hij, hj, hk, HS, HB, HG⟩ := hrel
    have hlen := HL.out
    by_cases hlt : i < j
    · obtain ⟨k, rfl⟩ : ∃ q, k = q + 1 := ⟨k - 1, by omega⟩
      have hs := HS.out
      rw [searchR_lt _ _ _ _ _ hlt] at hs
      obtain ⟨m, hm⟩ : ∃ m, m = (i + j) / 2 := ⟨_, rfl⟩
      rw [← hm] at hs
      have hm1 : i ≤ m := by omega
      have hm2 : m < j := by omega
      have q1 : IntKind.i64.wrap ((i : Int) + (j : Int)) = (i : Int) + (j : Int) := by rw [IntKind.wrap_i64]; omega
      have p1 : (i : Int) < (j : Int) := by omega
      go_wp2
      have q2 : ((i : Int) + (j : Int)) / 2 = (m : Int) := by omega
      have p2 : (0 : Int) ≤ (m : Int) := by omega
      have p3 : (m : Int) < (l0.length : Int) := by omega
      obtain ⟨ad, e0, hx0, hx1, hx2, hx3⟩ := at_T50 (Kd.C_below HR.out HB.out) (m : Int) p2 p3
      subst e0
      simp only [Int.toNat_natCast] at hx0 hx1 hx2 hx3
      rw [q2]
      clear hm q2
      have g0 : wr.cell? ⟨w.heap.size, 0, none⟩ = some (.string a1_0) := by rw [cell_of_row wr _ 0 _ 50 (0, 0) HG.out]; rfl
      have g1 : wr.cell? ⟨w.heap.size, 1, none⟩ = some (.string a1_1) := by rw [cell_of_row wr _ 1 _ 50 (0, 0) HG.out]; rfl
      have g2 : wr.cell? ⟨w.heap.size, 2, none⟩ = some (.int .i64 a1_2) := by rw [cell_of_row wr _ 2 _ 50 (0, 0) HG.out]; rfl
      have g3 : wr.cell? ⟨w.heap.size, 3, none⟩ = some (.int .i64 a1_3) := by rw [cell_of_row wr _ 3 _ 50 (0, 0) HG.out]; rfl
      go_still_tail 6, (by kernel_rfl)
      change wpList _ _ _ _ _ wr.drew
      have HB1 := Aside0.mk (below_drew HB.out)
      have HG1 : Aside0 (wr.drew.heap[w.heap.size]? = some (.cells #[.string a1_0, .string a1_1, .int .i64 a1_2, .int .i64 a1_3] 50 (0, 0))) := ⟨HG.out⟩
      generalize wr.drew = W at *
      by_cases hless : lessS (rd_T50 l0 (m : Int)).f0 a1_0 = true
      · have hc : decide (cmpS (rd_T50 l0 (m : Int)).f0 a1_0 < 0) = true := by unfold cmpS; rw [if_pos hless]; rfl
        rw [if_pos hless] at hs
        have HX := Aside0.mk hs
        clear hs hless
        go_wp2_with (first | (go_at_call 52; (with_reducible refine (stay_Put_1.calls (rd_T50 l0 (m : Int)) ⟨a1_0, a1_1, a1_2, a1_3⟩ _).mono ?_); rintro _ w2 ⟨rfl, hb2⟩; have HB2 := Aside0.mk hb2; clear hb2))
        go_roundw
        case rel =>
          have hlt := blk_lt HG1.out
          exact ⟨m + 1, j, k, by go_num, rfl, by omega, by omega, by omega, HX, ⟨below_then HB1.out (by omega) HB2.out⟩, ⟨(HB2.out.block _ hlt).trans HG1.out⟩⟩
        case measure => simp [intOf]; omega
      · have hc : decide (cmpS (rd_T50 l0 (m : Int)).f0 a1_0 < 0) = false := by unfold cmpS; rw [if_neg hless]; split <;> rfl
        rw [if_neg hless] at hs
        have HX := Aside0.mk hs
        clear hs hless
        go_wp2_with (first | (go_at_call 52; (with_reducible refine (stay_Put_1.calls (rd_T50 l0 (m : Int)) ⟨a1_0, a1_1, a1_2, a1_3⟩ _).mono ?_); rintro _ w2 ⟨rfl, hb2⟩; have HB2 := Aside0.mk hb2; clear hb2))
        go_roundw
        case rel =>
          have hlt := blk_lt HG1.out
          exact ⟨i, m, k, rfl, rfl, by omega, by omega, by omega, HX, ⟨below_then HB1.out (by omega) HB2.out⟩, ⟨(HB2.out.block _ hlt).trans HG1.out⟩⟩
        case measure => simp [intOf]; omega
    · obtain rfl : i = j := by omega
      have hs : i = searchR l0 a1_0 l0.length 0 l0.length := by
        rw [← HS.out]
        cases k with
        | zero => rfl
        | succ k => unfold searchR; rw [if_neg hlt]
      have h1 := H1.out
      have h2 := H2.out
      rw [← hs] at h1 h2
      have HR1 := Aside0.mk h1
      clear h1 hs
      have p1 : ¬ ((i : Int) < (i : Int)) := by omega
      have g0 : wr.cell? ⟨w.heap.size, 0, none⟩ = some (.string a1_0) := by rw [cell_of_row wr _ 0 _ 50 (0, 0) HG.out]; rfl
      have g1 : wr.cell? ⟨w.heap.size, 1, none⟩ = some (.string a1_1) := by rw [cell_of_row wr _ 1 _ 50 (0, 0) HG.out]; rfl
      have g2 : wr.cell? ⟨w.heap.size, 2, none⟩ = some (.int .i64 a1_2) := by rw [cell_of_row wr _ 2 _ 50 (0, 0) HG.out]; rfl
      have g3 : wr.cell? ⟨w.heap.size, 3, none⟩ = some (.int .i64 a1_3) := by rw [cell_of_row wr _ 3 _ 50 (0, 0) HG.out]; rfl
      by_cases hin : i < l0.length
      · have p2 : (0 : Int) ≤ (i : Int) := by omega
        have p3 : (i : Int) < (l0.length : Int) := by omega
        have p4 : decide ((i : Int) < (l0.length : Int)) = true := decide_eq_true p3
        obtain ⟨ad, e0, hx0, hx1, hx2, hx3⟩ := at_T50 (Kd.C_below HR.out HB.out) (i : Int) p2 p3
        subst e0
        simp only [Int.toNat_natCast] at hx0 hx1 hx2 hx3
        have h2' : (cmpS (rd_T50 l0 (i : Int)).f0 a1_0 == 0) = r2 := by rw [← h2]; unfold foundS; rw [decide_eq_true hin, Bool.true_and]
        have HR2 := Aside0.mk h2'
        clear h2 h2' hij hj hk hlt
        go_wp2
        refine start_ (n := 16) (S := fun w' => w'.cell? (ad.add (i * 4)) = some (.string (rd_T50 l0 (i : Int)).f0) ∧ w'.cell? ⟨(ad.add (i * 4)).block, (ad.add (i * 4)).off + 1, none⟩ = some (.string (rd_T50 l0 (i : Int)).f1) ∧ w'.cell? ⟨(ad.add (i * 4)).block, (ad.add (i * 4)).off + 2, none⟩ = some (.int .i64 (rd_T50 l0 (i : Int)).f2) ∧ w'.cell? ⟨(ad.add (i * 4)).block, (ad.add (i * 4)).off + 3, none⟩ = some (.int .i64 (rd_T50 l0 (i : Int)).f3) ∧ w'.cell? ⟨w.heap.size, 0, none⟩ = some (.string a1_0) ∧ w'.cell? ⟨w.heap.size, 1, none⟩ = some (.string a1_1) ∧ w'.cell? ⟨w.heap.size, 2, none⟩ = some (.int .i64 a1_2) ∧ w'.cell? ⟨w.heap.size, 3, none⟩ = some (.int .i64 a1_3)) (ds := [11]) #[false, false, false, false, false, false, false, false, false, false, false, false, false, false, false, false] (by kernel_rfl) rfl rfl ⟨hx0, hx1, hx2, hx3, g0, g1, g2, g3⟩ (fun hHeld => ?_)
        refine pure_ (i := 0) (N := some 35) (v := ?_) (a' := ?_) #[true, false, false, false, false, false, false, false, false, false, false, false, false, false, false, false] rfl rfl (by kernel_rfl) (fun _ _ _ h => h) (Or.inl ⟨by rfl, ?_⟩) ?_ ?_
        rotate_left
        · intro w'
          go_simp
          with_reducible rfl
        rotate_left
        · simp only [Act.put, List.setIfInBounds_toArray, List.set_cons_zero, List.set_cons_succ, i64_w, i32_w]
          rfl
        refine pure_ (i := 1) (N := some 36) (v := ?_) (a' := ?_) #[true, true, false, false, false, false, false, false, false, false, false, false, false, false, false, false] rfl rfl (by kernel_rfl) (fun _ _ _ h => h) (Or.inl ⟨by rfl, ?_⟩) ?_ ?_
        rotate_left
        · intro w'
          go_simp
          with_reducible rfl
        rotate_left
        · simp only [Act.put, List.setIfInBounds_toArray, List.set_cons_zero, List.set_cons_succ, i64_w, i32_w]
          rfl
        refine pure_ (i := 2) (N := some 37) (v := ?_) (a' := ?_) #[true, true, true, false, false, false, false, false, false, false, false, false, false, false, false, false] rfl rfl (by kernel_rfl) (fun _ _ _ h => h) (Or.inl ⟨by rfl, ?_⟩) ?_ ?_
        rotate_left
        · intro w'
          go_simp
          with_reducible rfl
        rotate_left
        · simp only [Act.put, List.setIfInBounds_toArray, List.set_cons_zero, List.set_cons_succ, i64_w, i32_w]
          rfl
        refine pure_ (i := 3) (N := some 38) (v := ?_) (a' := ?_) #[true, true, true, true, false, false, false, false, false, false, false, false, false, false, false, false] rfl rfl (by kernel_rfl) (fun _ _ _ h => h) (Or.inl ⟨by rfl, ?_⟩) ?_ ?_
        rotate_left
        · intro w'
          go_simp
          with_reducible rfl
        rotate_left
        · simp only [Act.put, List.setIfInBounds_toArray, List.set_cons_zero, List.set_cons_succ, i64_w, i32_w]
          rfl
        refine pure_ (i := 4) (N := some 39) (v := ?_) (a' := ?_) #[true, true, true, true, true, false, false, false, false, false, false, false, false, false, false, false] rfl rfl (by kernel_rfl) (fun _ _ _ h => h) (Or.inl ⟨by rfl, ?_⟩) ?_ ?_
        rotate_left
        · intro w'
          go_simp
          with_reducible rfl
        rotate_left
        · simp only [Act.put, List.setIfInBounds_toArray, List.set_cons_zero, List.set_cons_succ, i64_w, i32_w]
          rfl
        refine pure_ (i := 5) (N := some 40) (v := ?_) (a' := ?_) #[true, true, true, true, true, true, false, false, false, false, false, false, false, false, false, false] rfl rfl (by kernel_rfl) (fun _ _ _ h => h) (Or.inl ⟨by rfl, ?_⟩) ?_ ?_
        rotate_left
        · intro w'
          go_simp
          with_reducible rfl
        rotate_left
        · simp only [Act.put, List.setIfInBounds_toArray, List.set_cons_zero, List.set_cons_succ, i64_w, i32_w]
          rfl
        refine pure_ (i := 6) (N := some 41) (v := ?_) (a' := ?_) #[true, true, true, true, true, true, true, false, false, false, false, false, false, false, false, false] rfl rfl (by kernel_rfl) (fun _ _ _ h => h) (Or.inl ⟨by rfl, ?_⟩) ?_ ?_
        rotate_left
        · intro w'
          go_simp
          with_reducible rfl
        rotate_left
        · simp only [Act.put, List.setIfInBounds_toArray, List.set_cons_zero, List.set_cons_succ, i64_w, i32_w]
          rfl
        refine pure_ (i := 7) (N := some 42) (v := ?_) (a' := ?_) #[true, true, true, true, true, true, true, true, false, false, false, false, false, false, false, false] rfl rfl (by kernel_rfl) (fun _ _ _ h => h) (Or.inl ⟨by rfl, ?_⟩) ?_ ?_
        rotate_left
        · intro w'
          go_simp
          with_reducible rfl
        rotate_left
        · simp only [Act.put, List.setIfInBounds_toArray, List.set_cons_zero, List.set_cons_succ, i64_w, i32_w]
          rfl
        refine pure_ (i := 8) (N := some 43) (v := ?_) (a' := ?_) #[true, true, true, true, true, true, true, true, true, false, false, false, false, false, false, false] rfl rfl (by kernel_rfl) (fun _ _ _ h => h) (Or.inl ⟨by rfl, ?_⟩) ?_ ?_
        rotate_left
        · intro w'
          go_simp
          with_reducible rfl
        rotate_left
        · simp only [Act.put, List.setIfInBounds_toArray, List.set_cons_zero, List.set_cons_succ, i64_w, i32_w]
          rfl
        refine take_ (i := 9) (N := some 44) (v := ?_) (a' := ?_) #[true, true, true, true, true, true, true, true, true, true, false, false, false, false, false, false] rfl rfl (by kernel_rfl) (fun _ _ _ h => h) (Or.inl ⟨by rfl, ?_⟩) hHeld ?_ ?_
        rotate_left
        · rintro w' ⟨s0, s1, s2, s3, s4, s5, s6, s7⟩
          go_simp
          with_reducible rfl
        rotate_left
        · simp only [Act.put, List.setIfInBounds_toArray, List.set_cons_zero, List.set_cons_succ, i64_w, i32_w]
          rfl
        refine take_ (i := 10) (N := some 45) (v := ?_) (a' := ?_) #[true, true, true, true, true, true, true, true, true, true, true, false, false, false, false, false] rfl rfl (by kernel_rfl) (fun _ _ _ h => h) (Or.inl ⟨by rfl, ?_⟩) hHeld ?_ ?_
        rotate_left
        · rintro w' ⟨s0, s1, s2, s3, s4, s5, s6, s7⟩
          go_simp
          with_reducible rfl
        rotate_left
        · simp only [Act.put, List.setIfInBounds_toArray, List.set_cons_zero, List.set_cons_succ, i64_w, i32_w]
          rfl
        refine last_ (i := 11) (N := some 46) #[true, true, true, true, true, true, true, true, true, true, true, true, false, false, false, false] rfl rfl (by kernel_rfl) (by decide) (fun K hK => ?_)
        refine Raw.goesV_ Tryd.func52 (by kernel_rfl) rfl #[.agg #[.string (rd_T50 l0 (i : Int)).f0, .string (rd_T50 l0 (i : Int)).f1, .int .i64 (rd_T50 l0 (i : Int)).f2, .int .i64 (rd_T50 l0 (i : Int)).f3], .agg #[.string a1_0, .string a1_1, .int .i64 a1_2, .int .i64 a1_3]] (by rfl) rfl rfl (by rfl) (by simp only [List.map_toArray, List.map_cons, List.map_nil]; rfl) ?_
        with_reducible refine (stay_Put_1.calls (rd_T50 l0 (i : Int)) ⟨a1_0, a1_1, a1_2, a1_3⟩ _).mono ?_
        rintro e w3 ⟨rfl, hb⟩
        refine ⟨_, rfl, ?_⟩
        have HB3 := Aside0.mk hb
        refine hK.out _ _ ?_
        clear hK K
        refine norm_ (a' := ?_) ?_ ?_
        rotate_left
        · show Act.put _ (some 46) _ = _
          simp only [Act.put, List.setIfInBounds_toArray, List.set_cons_zero, List.set_cons_succ, i64_w, i32_w]
          rfl
        refine pure_ (i := 12) (N := some 47) (v := ?_) (a' := ?_) #[true, true, true, true, true, true, true, true, true, true, true, true, true, false, false, false] rfl rfl (by kernel_rfl) (fun _ _ _ h => h) (Or.inl ⟨by rfl, ?_⟩) ?_ ?_
        rotate_left
        · intro w'
          go_simp
          with_reducible rfl
        rotate_left
        · simp only [Act.put, List.setIfInBounds_toArray, List.set_cons_zero, List.set_cons_succ, i64_w, i32_w]
          rfl
        refine pure_ (i := 13) (N := some 48) (v := ?_) (a' := ?_) #[true, true, true, true, true, true, true, true, true, true, true, true, true, true, false, false] rfl rfl (by kernel_rfl) (fun _ _ _ h => h) (Or.inl ⟨by rfl, ?_⟩) ?_ ?_
        rotate_left
        · intro w'
          go_simp
          with_reducible rfl
        rotate_left
        · simp only [Act.put, List.setIfInBounds_toArray, List.set_cons_zero, List.set_cons_succ, i64_w, i32_w]
          rfl
        refine pure_ (i := 14) (N := some 6) (v := ?_) (a' := ?_) #[true, true, true, true, true, true, true, true, true, true, true, true, true, true, true, false] rfl rfl (by kernel_rfl) (fun _ _ _ h => h) (Or.inl ⟨by rfl, ?_⟩) ?_ ?_
        rotate_left
        · intro w'
          go_simp
          with_reducible rfl
        rotate_left
        · simp only [Act.put, List.setIfInBounds_toArray, List.set_cons_zero, List.set_cons_succ, i64_w, i32_w]
          rfl
        refine pure_ (i := 15) (N := some 7) (v := ?_) (a' := ?_) #[true, true, true, true, true, true, true, true, true, true, true, true, true, true, true, true] rfl rfl (by kernel_rfl) (fun _ _ _ h => h) (Or.inl ⟨by rfl, ?_⟩) ?_ ?_
        rotate_left
        · intro w'
          go_simp
          with_reducible rfl
        rotate_left
        · simp only [Act.put, List.setIfInBounds_toArray, List.set_cons_zero, List.set_cons_succ, i64_w, i32_w]
          rfl
        refine done_ (by kernel_rfl) ?_
        go_wp2
        go_ret2
        have hlt : w.heap.size < wr.drew.heap.size := blk_lt HG.out
        exact ⟨by rw [← HR1.out, ← HR2.out]; rfl, below_then (below_drew HB.out) (by omega) HB3.out⟩
      · have p4 : decide ((i : Int) < (l0.length : Int)) = false := by simp; omega
        have p5 : ¬ ((i : Int) < (l0.length : Int)) := by omega
        have h2' : false = r2 := by rw [← h2]; unfold foundS; rw [decide_eq_false hin, Bool.false_and]
        have HR2 := Aside0.mk h2'
        clear h2 h2' hij hj hk hlt
        go_wp2
        repeat (go_quiet (fail); try go_wp2)
        go_ret2
        exact ⟨by rw [← HR1.out, ← HR2.out]; rfl, pw_below_drewN HB.out _⟩
end Go.Proofs.YtnaeffgkdoanfaaDoor.P
