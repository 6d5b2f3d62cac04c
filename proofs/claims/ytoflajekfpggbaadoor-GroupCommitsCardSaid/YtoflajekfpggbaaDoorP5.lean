-- made by wip/myprint.py out of the translation; not trusted: Lean checks it
import Derived.Test.YtoflajekfpggbaaDoorP0
import Derived.Test.YtoflajekfpggbaaDoorP2
import Derived.Test.YtoflajekfpggbaaDoorP3
import Derived.Test.YtoflajekfpggbaaDoorP4
namespace Go.Proofs.YtoflajekfpggbaaDoor.P
open Go.RowKit Go.Proofs.YtoflajekfpggbaaDoorW.PrintWords Go.Proofs.YtoflajekfpggbaaDoorW.PrintLast Go.Proofs.YtoflajekfpggbaaDoorW.PrintMore
open Bool renaming true → I, false → O
open List renaming setIfInBounds_toArray → sTo, set_cons_zero → sZ, set_cons_succ → sS
attribute [local go_sem] max2_int min2_int max_two min_two max_three min_three max_four min_four   -- for this text's walks alone
set_option linter.unusedVariables false
set_option linter.unusedSimpArgs false

/-! ### fairwayref17_Commit: function 15 -/
def fairwayref17_Commit.l0 : Nat → List (S29) → Int → ByteArray → ByteArray → Int → Option ((List (S29)) × Bool × Int)
 | 0, _, _, _, _, _ => none
 | k + 1, x0, x7, x184000, x184001, x184002 => if x7 < (x0.length : Int) then (if 0 ≤ x7 then ((fairwayref17_below.f ((rd_T29 x0 x7).f0) ((rd_T29 x0 x7).f1) ((rd_T29 x0 x7).f2) x184000 x184001 x184002).bind fun t191 => (if t191 = true then (fairwayref17_Commit.l0 k x0 (wrap64 (x7 + 1)) x184000 x184001 x184002) else (if x7 ≤ (x0.length : Int) then ((fairwayref0_CopyGroups.f k (x0.take (x7 : Int).toNat)).bind fun t196 => ((some (([(⟨x184000, x184001, x184002⟩ : S29)] : List (S29)) : List (S29))).bind fun y199 => (if t196.length + y199.length < 3518437208883 then ((some (t196 ++ y199 : List (S29))).bind fun y202 => ((some (x0.drop (x7 : Int).toNat : List (S29))).bind fun y205 => (if y202.length + y205.length < 3518437208883 then (some ((y202 ++ y205), true, 0)) else (none)))) else (none)))) else (none)))) else (none)) else (if 0 ≤ x7 then (if x7 ≤ (x0.length : Int) then ((fairwayref0_CopyGroups.f k (x0.take (x7 : Int).toNat)).bind fun t216 => ((some (([(⟨x184000, x184001, x184002⟩ : S29)] : List (S29)) : List (S29))).bind fun y219 => (if t216.length + y219.length < 3518437208883 then ((some (t216 ++ y219 : List (S29))).bind fun y222 => ((some (x0.drop (x7 : Int).toNat : List (S29))).bind fun y225 => (if y222.length + y225.length < 3518437208883 then (some ((y222 ++ y225), true, 0)) else (none)))) else (none)))) else (none)) else (none))
def fairwayref17_Commit.f (k : Nat) (l0 : List (S29)) (a1_0 : ByteArray) (a1_1 : ByteArray) (a1_2 : Int) : Option ((List (S29)) × Bool × Int) := (fairwayref17_Fetch.f k l0 a1_0 a1_1).bind fun t184 => ((fairwayref0_CopyGroups.f k l0).bind fun t185 => (if t184 ≥ 0 then (if 0 ≤ t184 then (if t184 < (t185.length : Int) then (if ((rd_T29 t185 t184).f2) ≥ a1_2 then (some (t185, false, 0)) else (some ((t185.set (t184 : Int).toNat (⟨a1_0, a1_1, a1_2⟩ : S29)), true, 0))) else (none)) else (none)) else (if (l0.length : Int) ≥ 8 then (some (([] : List (S29)), false, 5)) else (fairwayref17_Commit.l0 k l0 0 a1_0 a1_1 a1_2))))
theorem fairwayref17_Commit.mono_l : ∀ k, (∀ y0 y1 y2 y3 y4, LeO (fairwayref17_Commit.l0 k y0 y1 y2 y3 y4) (fairwayref17_Commit.l0 (k + 1) y0 y1 y2 y3 y4))
 | 0 => fun _ _ _ _ _ r h => by simp [fairwayref17_Commit.l0] at h
 | k + 1 => by
  have ih0 := fairwayref17_Commit.mono_l k
  ·intro y0 y1 y2 y3 y4
   unfold fairwayref17_Commit.l0
   repeat' first
   | (with_reducible exact ih0 _ _ _ _ _)
   | (with_reducible exact fairwayref0_CopyGroups.mono _ _)
   | (with_reducible exact fairwayref17_Fetch.mono _ _ _ _)
   | (with_reducible exact LeO.refl _)
   | (with_reducible exact LeO.none _)
   | (with_reducible refine LeO.ite ?_ ?_)
   | (with_reducible refine LeO.bind ?_ (fun _ => ?_))
   | exact ih0 _ _ _ _ _
   | exact fairwayref0_CopyGroups.mono _ _
   | exact fairwayref17_Fetch.mono _ _ _ _
   | exact LeO.none _
   | refine LeO.ite ?_ ?_
   | refine LeO.bind ?_ (fun _ => ?_)
theorem fairwayref17_Commit.mono : ∀ a0 a1 a2 a3 k, LeO (fairwayref17_Commit.f k a0 a1 a2 a3) (fairwayref17_Commit.f (k + 1) a0 a1 a2 a3) := by
 intro a0 a1 a2 a3 k
 have ih0 := fairwayref17_Commit.mono_l k
 unfold fairwayref17_Commit.f
 repeat' first
   | (with_reducible exact ih0 _ _ _ _ _)
   | (with_reducible exact fairwayref0_CopyGroups.mono _ _)
   | (with_reducible exact fairwayref17_Fetch.mono _ _ _ _)
   | (with_reducible exact LeO.refl _)
   | (with_reducible exact LeO.none _)
   | (with_reducible refine LeO.ite ?_ ?_)
   | (with_reducible refine LeO.bind ?_ (fun _ => ?_))
   | exact ih0 _ _ _ _ _
   | exact fairwayref0_CopyGroups.mono _ _
   | exact fairwayref17_Fetch.mono _ _ _ _
   | exact LeO.none _
   | refine LeO.ite ?_ ?_
   | refine LeO.bind ?_ (fun _ => ?_)
def fairwayref17_Commit.T4 : Bool × List (List Nat × List Nat) := (true, [([], []), ([], []), ([0, 1], [0, 1]), ([2], [2]), ([3], [3]), ([], []), ([5], [5]), ([4, 6], [4, 6])])
def fairwayref17_Commit.B4 : List Nat := [0, 0, 3, 7, 15, 0, 32, 127]
theorem fairwayref17_Commit.tab4 : rtab .any (opsOf Tryd.f15 4) = fairwayref17_Commit.T4 := by kernel_rfl
theorem fairwayref17_Commit.bits4 : waitsOk fairwayref17_Commit.T4.2 fairwayref17_Commit.B4 = true := by kernel_rfl
def fairwayref17_Commit.T11 : Bool × List (List Nat × List Nat) := (true, [([], []), ([], []), ([1], [1]), ([0, 2], [0, 2]), ([3], [3]), ([4], [4]), ([4], [4]), ([5, 6, 4], [4, 5, 6]), ([7, 4], [4, 7]), ([4], [4]), ([8, 9, 4, 4], [4, 8, 9]), ([4, 10], [4, 10])])
def fairwayref17_Commit.B11 : List Nat := [0, 0, 2, 7, 15, 31, 31, 127, 255, 31, 1023, 2047]
theorem fairwayref17_Commit.tab11 : rtab .any (opsOf Tryd.f15 11) = fairwayref17_Commit.T11 := by kernel_rfl
theorem fairwayref17_Commit.bits11 : waitsOk fairwayref17_Commit.T11.2 fairwayref17_Commit.B11 = true := by kernel_rfl
def fairwayref17_Commit.T13 : Bool × List (List Nat × List Nat) := (true, [([], []), ([], []), ([0, 1], [0, 1]), ([2], [2]), ([], []), ([4], [4]), ([3, 5, 3], [3, 5]), ([6, 6, 0, 1, 2, 3, 4, 5, 6], [6])])
def fairwayref17_Commit.B13 : List Nat := [0, 0, 3, 7, 0, 16, 63, 127]
theorem fairwayref17_Commit.tab13 : rtab .any (opsOf Tryd.f15 13) = fairwayref17_Commit.T13 := by kernel_rfl
theorem fairwayref17_Commit.bits13 : waitsOk fairwayref17_Commit.T13.2 fairwayref17_Commit.B13 = true := by kernel_rfl
set_option maxHeartbeats 8000000 in
set_option maxRecDepth 100000 in
theorem fairwayref17_Commit.calls (k : Nat) (A0 : Option Addr) (c0 : Nat) (l0 : List (S29)) (a1_0 : ByteArray) (a1_1 : ByteArray) (a1_2 : Int) (r1 : List (S29)) (r2 : Bool) (r3 : Int) (w : World) (hr0 : Kd.C k29 w A0 l0.length l0) (hc0 : l0.length ≤ c0) (h : fairwayref17_Commit.f k l0 a1_0 a1_1 a1_2 = some (r1, r2, r3)) :
  Calls Tryd.prog 15 #[.slice A0 l0.length c0, .agg #[.string a1_0, .string a1_1, .int .i64 a1_2]] w fun e w' => ∃ v0_ : Value, e = .returned (.tuple #[v0_, .bool r2, .int .i64 r3]) ∧ Kd.R k29 29 w' w.heap.size (fun _ => True) v0_ r1 ∧ Below w.heap.size w w' := by
 have hu29 := Tryd.underlying29
 have HR0 := Aside0.mk hr0
 have HC0 := Aside0.mk hc0
 clear hr0 hc0
 have HB := Aside0.mk (Below.refl w.heap.size w)
 have H : ((fairwayref17_Fetch.f k l0 a1_0 a1_1).bind fun t184 => ((fairwayref0_CopyGroups.f k l0).bind fun t185 => (if t184 ≥ 0 then (if 0 ≤ t184 then (if t184 < (t185.length : Int) then (if ((rd_T29 t185 t184).f2) ≥ a1_2 then (some (t185, false, 0)) else (some ((t185.set (t184 : Int).toNat (⟨a1_0, a1_1, a1_2⟩ : S29)), true, 0))) else (none)) else (none)) else (if (l0.length : Int) ≥ 8 then (some (([] : List (S29)), false, 5)) else (fairwayref17_Commit.l0 k l0 0 a1_0 a1_1 a1_2))))) = some (r1, r2, r3) := h
 clear h
 replace H := Option.bind_eq_some_iff.mp H
 obtain ⟨t184, A30, H⟩ := H
 replace H : ((fairwayref0_CopyGroups.f k l0).bind fun t185 => (if t184 ≥ 0 then (if 0 ≤ t184 then (if t184 < (t185.length : Int) then (if ((rd_T29 t185 t184).f2) ≥ a1_2 then (some (t185, false, 0)) else (some ((t185.set (t184 : Int).toNat (⟨a1_0, a1_1, a1_2⟩ : S29)), true, 0))) else (none)) else (none)) else (if (l0.length : Int) ≥ 8 then (some (([] : List (S29)), false, 5)) else (fairwayref17_Commit.l0 k l0 0 a1_0 a1_1 a1_2)))) = some (r1, r2, r3) := H
 have A3 := Aside0.mk A30
 clear A30
 replace H := Option.bind_eq_some_iff.mp H
 obtain ⟨t185, A40, H⟩ := H
 replace H : (if t184 ≥ 0 then (if 0 ≤ t184 then (if t184 < (t185.length : Int) then (if ((rd_T29 t185 t184).f2) ≥ a1_2 then (some (t185, false, 0)) else (some ((t185.set (t184 : Int).toNat (⟨a1_0, a1_1, a1_2⟩ : S29)), true, 0))) else (none)) else (none)) else (if (l0.length : Int) ≥ 8 then (some (([] : List (S29)), false, 5)) else (fairwayref17_Commit.l0 k l0 0 a1_0 a1_1 a1_2))) = some (r1, r2, r3) := H
 have A4 := Aside0.mk A40
 clear A40
 by_cases c5 : t184 ≥ 0
 ·rw [if_pos c5] at H
  have c5b0 : decide (0 ≤ t184) = true := decide_eq_true c5
  clear c5
  by_cases c6 : 0 ≤ t184
  ·rw [if_pos c6] at H
   have c6b0 : decide (0 ≤ t184) = true := decide_eq_true c6
   clear c6
   by_cases c7 : t184 < (t185.length : Int)
   ·rw [if_pos c7] at H
    have c7b0 : decide (t184 < (t185.length : Int)) = true := decide_eq_true c7
    clear c7
    by_cases c8 : ((rd_T29 t185 t184).f2) ≥ a1_2
    ·rw [if_pos c8] at H
     have c8b0 : decide (a1_2 ≤ ((rd_T29 t185 t184).f2)) = true := decide_eq_true c8
     clear c8
     simp only [Option.some.injEq, Prod.mk.injEq] at H
     obtain ⟨rfl, rfl, rfl⟩ := H
     go_enter Tryd.func15, Tryd.ntmps15
     try go_wp2_with (first | ((with_reducible refine gate_dst (N := 3) rfl ?_); refine box_event ?hg (N := 3) ?hd (cs := #[.string a1_0, .string a1_1, .int .i64 a1_2]) (t := 29) ?hr ?_; (case hd => rfl); (case hg => rfl); (case hr => first | (go_simp; done) | (go_simp; rfl)); intro gb183 hg w9 hbox hb; have n0_ := Aside0.mk (below_step (by repeat (first | (with_reducible first | exact HB.out | apply below_alloc | apply pw_below_drewN | apply below_drew1) | exact HB.out)) hb); have n1_ := Aside0.mk (hbox); have n2_ := Aside0.mk ((by rw [hg]; exact (below_size (by repeat (first | (with_reducible first | exact HB.out | apply below_alloc | apply pw_below_drewN | apply below_drew1) | exact HB.out))) : w.heap.size ≤ gb183)); have n3_ := Aside0.mk ((by rw [hg]; exact (below_size (by repeat (first | (with_reducible first | exact HB.out | apply below_alloc | apply pw_below_drewN | apply below_drew1) | exact HB.out))) : w.heap.size ≤ gb183)); clear HB; have HB := n0_; have BK183 := n1_; have GW183 := n2_; have GE183 := n3_; clear n0_ n1_ n2_ n3_; clear hb hbox hg; have hcz10_0 : w9.cell? ⟨gb183, 0, none⟩ = some (.string a1_0) := (blk_cell BK183.out 0).trans rfl; have hcz10_1 : w9.cell? ⟨gb183, 1, none⟩ = some (.string a1_1) := (blk_cell BK183.out 1).trans rfl; have hcz10_2 : w9.cell? ⟨gb183, 2, none⟩ = some (.int .i64 a1_2) := (blk_cell BK183.out 2).trans rfl; have hfz10_0 := blk_frozen BK183.out 0; have hfz10_1 := blk_frozen BK183.out 1; have hfz10_2 := blk_frozen BK183.out 2) | ((with_reducible refine gate_callee (f := 10) rfl ?_); refine goesL_ (some 14) rfl rfl Tryd.func10 (by kernel_rfl) rfl #[.slice A0 l0.length c0, .string a1_0, .string a1_1] rfl (by (try simp only [List.map_toArray, List.map_cons, List.map_nil]); first | done | rfl | (simp only [List.length_drop, List.length_take]; rfl)) ?_; (with_reducible refine (fairwayref17_Fetch.calls k _ _ l0 a1_0 a1_1 t184 _ ?side1 ?side2 A3.out).mono ?_); (case side1 => repeat (first | exact (Kd.C_below HR0.out HB.out) | (with_reducible refine Kd.C_alloc ?_ _) | (with_reducible refine Kd.C_drewN ?_ _) | (with_reducible refine Kd.C_drew ?_))); (case side2 => exact HC0.out); rintro e w' ⟨rfl, ⟨nd, rfl⟩⟩; refine ⟨_, rfl, ?_⟩) | ((with_reducible refine gate_callee (f := 7) rfl ?_); refine goesL_ (some 16) rfl rfl Tryd.func7 (by kernel_rfl) rfl #[.slice A0 l0.length c0] rfl (by (try simp only [List.map_toArray, List.map_cons, List.map_nil]); first | done | rfl | (simp only [List.length_drop, List.length_take]; rfl)) ?_; (with_reducible refine (fairwayref0_CopyGroups.calls k _ _ l0 t185 _ ?side1 ?side2 A4.out).mono ?_); (case side1 => repeat (first | exact (Kd.C_below HR0.out (by repeat (first | (with_reducible first | exact HB.out | apply below_alloc | apply pw_below_drewN | apply below_drew1 | refine below_set ?_ GE183.out) | exact HB.out))) | (with_reducible refine Kd.C_alloc ?_ _) | (with_reducible refine Kd.C_drewN ?_ _) | (with_reducible refine Kd.C_drew ?_))); (case side2 => exact HC0.out); rintro e w11 ⟨v186, rfl, ho0, hb⟩; refine ⟨_, rfl, ?_⟩; have n0_ := Aside0.mk (Kd.R_lower (Kd.R_newB ho0 (g := gb183) (o := .cells #[.string a1_0, .string a1_1, .int .i64 a1_2] 29 (0, 0)) (by (with_reducible repeat (first | refine blk_drewN ?_ _ | refine blk_drew ?_ | refine blk_alloc ?_ _)); exact BK183.out)) (below_size (by repeat (first | (with_reducible first | exact HB.out | apply below_alloc | apply pw_below_drewN | apply below_drew1 | refine below_set ?_ GE183.out) | exact HB.out)))); have n1_ := Aside0.mk (blk_below (g := gb183) (o := .cells #[.string a1_0, .string a1_1, .int .i64 a1_2] 29 (0, 0)) (by (with_reducible repeat (first | refine blk_drewN ?_ _ | refine blk_drew ?_ | refine blk_alloc ?_ _)); exact BK183.out) hb); have n2_ := Aside0.mk (below_step (by repeat (first | (with_reducible first | exact HB.out | apply below_alloc | apply pw_below_drewN | apply below_drew1 | refine below_set ?_ GE183.out) | exact HB.out)) hb); clear BK183; clear HB; have HO187 := n0_; have BK183 := n1_; have HB := n2_; clear n0_ n1_ n2_; (try clear hb); (try clear hb2); (try clear hk); (try clear hi); (try clear ho0)))
     have n0_ := Aside0.mk (Kd.R_drew HO187.out)
     have n1_ := Aside0.mk (blk_drew BK183.out)
     have n2_ := Aside0.mk (below_drew1 HB.out)
     clear HO187
     clear BK183
     clear HB
     have HO187 := n0_
     have BK183 := n1_
     have HB := n2_
     clear n0_ n1_ n2_
     obtain ⟨Ao13, co13, eo13⟩ := Kd.R_slice HO187.out
     (first | subst eo13 | (injection eo13 with f1_ f2_ f3_; have f4_ := f1_.symm; have f5_ := f3_.symm; clear f1_ f2_ f3_; subst f4_; subst f5_))
     have p188 : 0 ≤ (t184 : Int) := of_decide_eq_true (by first | (with_reducible assumption) | assumption)
     have q188 : t184 < (t185.length : Int) := of_decide_eq_true (by first | (with_reducible assumption) | assumption)
     obtain ⟨ad188, e188, hx188_0, hx188_1, hx188_2⟩ := at_T29 (Kd.R_reads' HO187.out).2.2 t184 p188 q188
     cases e188
     replace p188 := eq_true p188
     replace q188 := eq_true q188
     refine start_ (n := 8) (S := fun w' => w'.cell? ⟨gb183, 0, none⟩ = some (.string a1_0) ∧ w'.cell? ⟨gb183, 1, none⟩ = some (.string a1_1) ∧ w'.cell? ⟨gb183, 2, none⟩ = some (.int .i64 a1_2) ∧ w'.cell? (ad188.add ((t184).toNat * 3)) = some (.string ((rd_T29 t185 t184).f0)) ∧ w'.cell? ⟨(ad188.add ((t184).toNat * 3)).block, (ad188.add ((t184).toNat * 3)).off + 1, none⟩ = some (.string ((rd_T29 t185 t184).f1)) ∧ w'.cell? ⟨(ad188.add ((t184).toNat * 3)).block, (ad188.add ((t184).toNat * 3)).off + 2, none⟩ = some (.int .i64 ((rd_T29 t185 t184).f2))) (ds := []) #[O,O,O,O,O,O,O,O] (by kernel_rfl) rfl rfl ⟨(blk_cell BK183.out 0).trans rfl, (blk_cell BK183.out 1).trans rfl, (blk_cell BK183.out 2).trans rfl, hx188_0, hx188_1, hx188_2⟩ (fun hHeld => ?_); refine with_tabW fairwayref17_Commit.tab4 fairwayref17_Commit.bits4 (fun HT_ HW_ => ?_)
     generalize w11.drew = w12 at HO187 BK183 HB hx188_0 hx188_1 hx188_2 hHeld ⊢
     refine pure_ (i := 0) (N := some 19) (v := ?_) (a' := ?_) #[I,O,O,O,O,O,O,O] rfl rfl (any_of HT_.out (by kernel_rfl)) (fun _ _ _ h => h) (Or.inl ⟨by rfl, ?_⟩) ?_ ?_
     rotate_left
     ·intro w'
      go_simp
      with_reducible rfl
     rotate_left
     ·simp only [Act.put, sTo,sZ,sS, i64_w, i32_w]
      rfl
     refine pure_ (i := 1) (N := some 20) (v := ?_) (a' := ?_) #[I,I,O,O,O,O,O,O] rfl rfl (any_of HT_.out (by kernel_rfl)) (fun _ _ _ h => h) (Or.inl ⟨by rfl, ?_⟩) ?_ ?_
     rotate_left
     ·intro w'
      go_simp
      with_reducible rfl
     rotate_left
     ·simp only [Act.put, sTo,sZ,sS, i64_w, i32_w]
      rfl
     refine pure_ (i := 2) (N := some 21) (v := ?_) (a' := ?_) #[I,I,I,O,O,O,O,O] rfl rfl (any_of HT_.out (by kernel_rfl)) (fun _ _ _ h => h) (Or.inl ⟨by rfl, ?_⟩) ?_ ?_
     rotate_left
     ·intro w'
      go_simp
      with_reducible rfl
     rotate_left
     ·simp only [Act.put, sTo,sZ,sS, i64_w, i32_w]
      rfl
     refine pure_ (i := 3) (N := some 22) (v := ?_) (a' := ?_) #[I,I,I,I,O,O,O,O] rfl rfl (any_of HT_.out (by kernel_rfl)) (fun _ _ _ h => h) (Or.inl ⟨by rfl, ?_⟩) ?_ ?_
     rotate_left
     ·intro w'
      go_simp
      with_reducible rfl
     rotate_left
     ·simp only [Act.put, sTo,sZ,sS, i64_w, i32_w]
      rfl
     refine pure_ (i := 5) (N := some 24) (v := ?_) (a' := ?_) #[I,I,I,I,O,I,O,O] rfl rfl (any_of HT_.out (by kernel_rfl)) (fun _ _ _ h => h) (Or.inl ⟨by rfl, ?_⟩) ?_ ?_
     rotate_left
     ·intro w'
      go_simp
      with_reducible rfl
     rotate_left
     ·simp only [Act.put, sTo,sZ,sS, i64_w, i32_w]
      rfl
     refine take_ (i := 4) (N := some 23) (v := ?_) (a' := ?_) #[I,I,I,I,I,I,O,O] rfl rfl (take_ofW HT_.out HW_.out (by kernel_rfl)) (fun _ _ _ h => h) (Or.inl ⟨by rfl, ?_⟩) hHeld ?_ ?_
     rotate_left
     ·rintro w' ⟨s0, s1, s2, s3, s4, s5⟩
      go_simp
      with_reducible rfl
     rotate_left
     ·simp only [Act.put, sTo,sZ,sS, i64_w, i32_w]
      rfl
     refine take_ (i := 6) (N := some 25) (v := ?_) (a' := ?_) #[I,I,I,I,I,I,I,O] rfl rfl (take_ofW HT_.out HW_.out (by kernel_rfl)) (fun _ _ _ h => h) (Or.inl ⟨by rfl, ?_⟩) hHeld ?_ ?_
     rotate_left
     ·rintro w' ⟨s0, s1, s2, s3, s4, s5⟩
      go_simp
      with_reducible rfl
     rotate_left
     ·simp only [Act.put, sTo,sZ,sS, i64_w, i32_w]
      rfl
     refine pure_ (i := 7) (N := some 26) (v := ?_) (a' := ?_) #[I,I,I,I,I,I,I,I] rfl rfl (any_of HT_.out (by kernel_rfl)) (fun _ _ _ h => h) (Or.inl ⟨by rfl, ?_⟩) ?_ ?_
     rotate_left
     ·intro w'
      go_simp
      with_reducible rfl
     rotate_left
     ·simp only [Act.put, sTo,sZ,sS, i64_w, i32_w]
      rfl
     refine done_ (done_of HT_.out (by kernel_rfl)) ?_
     try go_wp2
     go_ret3
     exact ⟨_, by first | rfl | (simp [errW_none, errW_some] <;> rfl) | (simp [*, errW_none, errW_some] <;> rfl), by (with_reducible repeat (first | apply Kd.R_alloc | apply Kd.R_drewN | apply Kd.R_drew)); exact Kd.R_mono HO187.out (fun _ hk => trivial), by repeat (first | (with_reducible first | exact HB.out | apply below_alloc | apply pw_below_drewN | apply below_drew1 | refine below_set ?_ GE183.out) | exact HB.out)⟩
    ·rw [if_neg c8] at H
     have c8b0 : decide (a1_2 ≤ ((rd_T29 t185 t184).f2)) = false := decide_eq_false c8
     clear c8
     obtain ⟨y189, hy189⟩ : ∃ y_ : List (S29), y_ = (t185.set (t184 : Int).toNat (⟨a1_0, a1_1, a1_2⟩ : S29)) := ⟨_, rfl⟩
     replace H : (some (y189, true, 0)) = some (r1, r2, r3) := by first | (rw [hy189]; with_reducible exact H) | (have H2_ := (Option.bind_some _ _).symm.trans H; rw [hy189]; with_reducible exact H2_) | (have H2_ := (Option.bind_some _ _).symm.trans H; with_reducible exact H2_) | with_reducible exact H | (rw [hy189]; exact H) | exact H
     have Ny189 := Aside0.mk hy189
     clear hy189
     simp only [Option.some.injEq, Prod.mk.injEq] at H
     obtain ⟨rfl, rfl, rfl⟩ := H
     go_enter Tryd.func15, Tryd.ntmps15
     try go_wp2_with (first | ((with_reducible refine gate_dst (N := 3) rfl ?_); refine box_event ?hg (N := 3) ?hd (cs := #[.string a1_0, .string a1_1, .int .i64 a1_2]) (t := 29) ?hr ?_; (case hd => rfl); (case hg => rfl); (case hr => first | (go_simp; done) | (go_simp; rfl)); intro gb183 hg w15 hbox hb; have n0_ := Aside0.mk (below_step (by repeat (first | (with_reducible first | exact HB.out | apply below_alloc | apply pw_below_drewN | apply below_drew1) | exact HB.out)) hb); have n1_ := Aside0.mk (hbox); have n2_ := Aside0.mk ((by rw [hg]; exact (below_size (by repeat (first | (with_reducible first | exact HB.out | apply below_alloc | apply pw_below_drewN | apply below_drew1) | exact HB.out))) : w.heap.size ≤ gb183)); have n3_ := Aside0.mk ((by rw [hg]; exact (below_size (by repeat (first | (with_reducible first | exact HB.out | apply below_alloc | apply pw_below_drewN | apply below_drew1) | exact HB.out))) : w.heap.size ≤ gb183)); clear HB; have HB := n0_; have BK183 := n1_; have GW183 := n2_; have GE183 := n3_; clear n0_ n1_ n2_ n3_; clear hb hbox hg; have hcz16_0 : w15.cell? ⟨gb183, 0, none⟩ = some (.string a1_0) := (blk_cell BK183.out 0).trans rfl; have hcz16_1 : w15.cell? ⟨gb183, 1, none⟩ = some (.string a1_1) := (blk_cell BK183.out 1).trans rfl; have hcz16_2 : w15.cell? ⟨gb183, 2, none⟩ = some (.int .i64 a1_2) := (blk_cell BK183.out 2).trans rfl; have hfz16_0 := blk_frozen BK183.out 0; have hfz16_1 := blk_frozen BK183.out 1; have hfz16_2 := blk_frozen BK183.out 2) | ((with_reducible refine gate_callee (f := 10) rfl ?_); refine goesL_ (some 14) rfl rfl Tryd.func10 (by kernel_rfl) rfl #[.slice A0 l0.length c0, .string a1_0, .string a1_1] rfl (by (try simp only [List.map_toArray, List.map_cons, List.map_nil]); first | done | rfl | (simp only [List.length_drop, List.length_take]; rfl)) ?_; (with_reducible refine (fairwayref17_Fetch.calls k _ _ l0 a1_0 a1_1 t184 _ ?side1 ?side2 A3.out).mono ?_); (case side1 => repeat (first | exact (Kd.C_below HR0.out HB.out) | (with_reducible refine Kd.C_alloc ?_ _) | (with_reducible refine Kd.C_drewN ?_ _) | (with_reducible refine Kd.C_drew ?_))); (case side2 => exact HC0.out); rintro e w' ⟨rfl, ⟨nd, rfl⟩⟩; refine ⟨_, rfl, ?_⟩; (try (rw [drewN_self w15]; generalize hq_ : World.drewN w15 _ = w15; have n0_ : Aside0 (w15.heap[gb183]? = some (.cells #[.string a1_0, .string a1_1, .int .i64 a1_2] 29 (0, 0))) := ⟨by rw [← hq_]; exact (by (with_reducible repeat (first | refine blk_drewN ?_ _ | refine blk_drew ?_ | refine blk_alloc ?_ _)); exact BK183.out)⟩; have n1_ : Aside0 (Below w.heap.size w w15) := ⟨by rw [← hq_]; exact (by repeat (first | (with_reducible first | exact HB.out | apply below_alloc | apply pw_below_drewN | apply below_drew1 | refine below_set ?_ GE183.out) | exact HB.out))⟩; clear BK183 HB hq_; have BK183 := n0_; have HB := n1_; clear n0_ n1_))) | ((with_reducible refine gate_callee (f := 7) rfl ?_); refine goesL_ (some 16) rfl rfl Tryd.func7 (by kernel_rfl) rfl #[.slice A0 l0.length c0] rfl (by (try simp only [List.map_toArray, List.map_cons, List.map_nil]); first | done | rfl | (simp only [List.length_drop, List.length_take]; rfl)) ?_; (with_reducible refine (fairwayref0_CopyGroups.calls k _ _ l0 t185 _ ?side1 ?side2 A4.out).mono ?_); (case side1 => repeat (first | exact (Kd.C_below HR0.out HB.out) | (with_reducible refine Kd.C_alloc ?_ _) | (with_reducible refine Kd.C_drewN ?_ _) | (with_reducible refine Kd.C_drew ?_))); (case side2 => exact HC0.out); rintro e w17 ⟨v186, rfl, ho0, hb⟩; refine ⟨_, rfl, ?_⟩; have n0_ := Aside0.mk (Kd.R_lower (Kd.R_newB ho0 (g := gb183) (o := .cells #[.string a1_0, .string a1_1, .int .i64 a1_2] 29 (0, 0)) (by (with_reducible repeat (first | refine blk_drewN ?_ _ | refine blk_drew ?_ | refine blk_alloc ?_ _)); exact BK183.out)) (below_size (by repeat (first | (with_reducible first | exact HB.out | apply below_alloc | apply pw_below_drewN | apply below_drew1 | refine below_set ?_ GE183.out) | exact HB.out)))); have n1_ := Aside0.mk (blk_below (g := gb183) (o := .cells #[.string a1_0, .string a1_1, .int .i64 a1_2] 29 (0, 0)) (by (with_reducible repeat (first | refine blk_drewN ?_ _ | refine blk_drew ?_ | refine blk_alloc ?_ _)); exact BK183.out) hb); have n2_ := Aside0.mk (below_step (by repeat (first | (with_reducible first | exact HB.out | apply below_alloc | apply pw_below_drewN | apply below_drew1 | refine below_set ?_ GE183.out) | exact HB.out)) hb); clear BK183; clear HB; have HO187 := n0_; have BK183 := n1_; have HB := n2_; clear n0_ n1_ n2_; (try clear hb); (try clear hb2); (try clear hk); (try clear hi); (try clear ho0)))
     have n0_ := Aside0.mk (Kd.R_drew HO187.out)
     have n1_ := Aside0.mk (blk_drew BK183.out)
     have n2_ := Aside0.mk (below_drew1 HB.out)
     clear HO187
     clear BK183
     clear HB
     have HO187 := n0_
     have BK183 := n1_
     have HB := n2_
     clear n0_ n1_ n2_
     obtain ⟨Ao19, co19, eo19⟩ := Kd.R_slice HO187.out
     (first | subst eo19 | (injection eo19 with f1_ f2_ f3_; have f4_ := f1_.symm; have f5_ := f3_.symm; clear f1_ f2_ f3_; subst f4_; subst f5_))
     have p188 : 0 ≤ (t184 : Int) := of_decide_eq_true (by first | (with_reducible assumption) | assumption)
     have q188 : t184 < (t185.length : Int) := of_decide_eq_true (by first | (with_reducible assumption) | assumption)
     obtain ⟨ad188, e188, hx188_0, hx188_1, hx188_2⟩ := at_T29 (Kd.R_reads' HO187.out).2.2 t184 p188 q188
     cases e188
     replace p188 := eq_true p188
     replace q188 := eq_true q188
     refine start_ (n := 8) (S := fun w' => w'.cell? ⟨gb183, 0, none⟩ = some (.string a1_0) ∧ w'.cell? ⟨gb183, 1, none⟩ = some (.string a1_1) ∧ w'.cell? ⟨gb183, 2, none⟩ = some (.int .i64 a1_2) ∧ w'.cell? (ad188.add ((t184).toNat * 3)) = some (.string ((rd_T29 t185 t184).f0)) ∧ w'.cell? ⟨(ad188.add ((t184).toNat * 3)).block, (ad188.add ((t184).toNat * 3)).off + 1, none⟩ = some (.string ((rd_T29 t185 t184).f1)) ∧ w'.cell? ⟨(ad188.add ((t184).toNat * 3)).block, (ad188.add ((t184).toNat * 3)).off + 2, none⟩ = some (.int .i64 ((rd_T29 t185 t184).f2))) (ds := []) #[O,O,O,O,O,O,O,O] (by kernel_rfl) rfl rfl ⟨(blk_cell BK183.out 0).trans rfl, (blk_cell BK183.out 1).trans rfl, (blk_cell BK183.out 2).trans rfl, hx188_0, hx188_1, hx188_2⟩ (fun hHeld => ?_); refine with_tabW fairwayref17_Commit.tab4 fairwayref17_Commit.bits4 (fun HT_ HW_ => ?_)
     generalize w17.drew = w18 at HO187 BK183 HB hx188_0 hx188_1 hx188_2 hHeld ⊢
     refine pure_ (i := 0) (N := some 19) (v := ?_) (a' := ?_) #[I,O,O,O,O,O,O,O] rfl rfl (any_of HT_.out (by kernel_rfl)) (fun _ _ _ h => h) (Or.inl ⟨by rfl, ?_⟩) ?_ ?_
     rotate_left
     ·intro w'
      go_simp
      with_reducible rfl
     rotate_left
     ·simp only [Act.put, sTo,sZ,sS, i64_w, i32_w]
      rfl
     refine pure_ (i := 1) (N := some 20) (v := ?_) (a' := ?_) #[I,I,O,O,O,O,O,O] rfl rfl (any_of HT_.out (by kernel_rfl)) (fun _ _ _ h => h) (Or.inl ⟨by rfl, ?_⟩) ?_ ?_
     rotate_left
     ·intro w'
      go_simp
      with_reducible rfl
     rotate_left
     ·simp only [Act.put, sTo,sZ,sS, i64_w, i32_w]
      rfl
     refine pure_ (i := 2) (N := some 21) (v := ?_) (a' := ?_) #[I,I,I,O,O,O,O,O] rfl rfl (any_of HT_.out (by kernel_rfl)) (fun _ _ _ h => h) (Or.inl ⟨by rfl, ?_⟩) ?_ ?_
     rotate_left
     ·intro w'
      go_simp
      with_reducible rfl
     rotate_left
     ·simp only [Act.put, sTo,sZ,sS, i64_w, i32_w]
      rfl
     refine pure_ (i := 3) (N := some 22) (v := ?_) (a' := ?_) #[I,I,I,I,O,O,O,O] rfl rfl (any_of HT_.out (by kernel_rfl)) (fun _ _ _ h => h) (Or.inl ⟨by rfl, ?_⟩) ?_ ?_
     rotate_left
     ·intro w'
      go_simp
      with_reducible rfl
     rotate_left
     ·simp only [Act.put, sTo,sZ,sS, i64_w, i32_w]
      rfl
     refine pure_ (i := 5) (N := some 24) (v := ?_) (a' := ?_) #[I,I,I,I,O,I,O,O] rfl rfl (any_of HT_.out (by kernel_rfl)) (fun _ _ _ h => h) (Or.inl ⟨by rfl, ?_⟩) ?_ ?_
     rotate_left
     ·intro w'
      go_simp
      with_reducible rfl
     rotate_left
     ·simp only [Act.put, sTo,sZ,sS, i64_w, i32_w]
      rfl
     refine take_ (i := 4) (N := some 23) (v := ?_) (a' := ?_) #[I,I,I,I,I,I,O,O] rfl rfl (take_ofW HT_.out HW_.out (by kernel_rfl)) (fun _ _ _ h => h) (Or.inl ⟨by rfl, ?_⟩) hHeld ?_ ?_
     rotate_left
     ·rintro w' ⟨s0, s1, s2, s3, s4, s5⟩
      go_simp
      with_reducible rfl
     rotate_left
     ·simp only [Act.put, sTo,sZ,sS, i64_w, i32_w]
      rfl
     refine take_ (i := 6) (N := some 25) (v := ?_) (a' := ?_) #[I,I,I,I,I,I,I,O] rfl rfl (take_ofW HT_.out HW_.out (by kernel_rfl)) (fun _ _ _ h => h) (Or.inl ⟨by rfl, ?_⟩) hHeld ?_ ?_
     rotate_left
     ·rintro w' ⟨s0, s1, s2, s3, s4, s5⟩
      go_simp
      with_reducible rfl
     rotate_left
     ·simp only [Act.put, sTo,sZ,sS, i64_w, i32_w]
      rfl
     refine pure_ (i := 7) (N := some 26) (v := ?_) (a' := ?_) #[I,I,I,I,I,I,I,I] rfl rfl (any_of HT_.out (by kernel_rfl)) (fun _ _ _ h => h) (Or.inl ⟨by rfl, ?_⟩) ?_ ?_
     rotate_left
     ·intro w'
      go_simp
      with_reducible rfl
     rotate_left
     ·simp only [Act.put, sTo,sZ,sS, i64_w, i32_w]
      rfl
     refine done_ (done_of HT_.out (by kernel_rfl)) ?_
     have hcz20_0 : w18.cell? ⟨gb183, 0, none⟩ = some (.string a1_0) := (blk_cell BK183.out 0).trans rfl
     have hcz20_1 : w18.cell? ⟨gb183, 1, none⟩ = some (.string a1_1) := (blk_cell BK183.out 1).trans rfl
     have hcz20_2 : w18.cell? ⟨gb183, 2, none⟩ = some (.int .i64 a1_2) := (blk_cell BK183.out 2).trans rfl
     have hfz20_0 := blk_frozen BK183.out 0
     have hfz20_1 := blk_frozen BK183.out 1
     have hfz20_2 := blk_frozen BK183.out 2
     have p14 : 0 ≤ (t184 : Int) := of_decide_eq_true (by first | (with_reducible assumption) | assumption)
     have q14 : (t184 : Int) < ((t185.length : Int) : Int) := of_decide_eq_true (by first | (with_reducible assumption) | assumption)
     obtain ⟨go14, co14, eo14, gb14, gl14, cl14, HG14⟩ := Kd.R_form HO187.out (by omega)
     (first | cases eo14 | (injection eo14 with ea_ en_ ec_; (first | subst ea_ | (injection ea_ with ea_; subst ea_)); subst ec_; clear en_))
     have GB14 := Aside0.mk gb14
     have GG14 := Aside0.mk HG14
     clear gb14 gl14 HG14
     (first | simp only [add_plain] at hx188_0 | skip)
     (first | simp only [add_plain] at hx188_1 | skip)
     (first | simp only [add_plain] at hx188_2 | skip)
     obtain ⟨ce14, hcl14, hM14, hcc14, hfr14⟩ := Kd.R_elem HO187.out z29 (t184 : Int) p14 q14
     obtain rfl := k29_openM hM14
     have hx14_0 : w18.cell? ⟨go14, (t184 : Int).toNat * 3, none⟩ = some (.string ((rd_T29 t185 t184).f0)) := hcc14 0 _ rfl
     have hx14_1 : w18.cell? ⟨go14, (t184 : Int).toNat * 3 + 1, none⟩ = some (.string ((rd_T29 t185 t184).f1)) := hcc14 1 _ rfl
     have hx14_2 : w18.cell? ⟨go14, (t184 : Int).toNat * 3 + 2, none⟩ = some (.int .i64 ((rd_T29 t185 t184).f2)) := hcc14 2 _ rfl
     have hf14_0 : w18.frozen? ⟨go14, (t184 : Int).toNat * 3, none⟩ = false := hfr14 0
     have hf14_1 : w18.frozen? ⟨go14, (t184 : Int).toNat * 3 + 1, none⟩ = false := hfr14 1
     have hf14_2 : w18.frozen? ⟨go14, (t184 : Int).toNat * 3 + 2, none⟩ = false := hfr14 2
     clear hcl14 hcc14 hfr14 hM14
     replace p14 := eq_true p14
     replace q14 := eq_true q14
     have n_ := Aside0.mk (Kd.R_mono (ok' := (fun k_ => k_ ≠ gb183)) HO187.out (fun k_ hk => hk.2))
     clear HO187
     have HO187 := n_
     clear n_
     have HX21 := Aside0.mk (show Kd.R k29 29 w18 w.heap.size (fun k_ => k_ ≠ gb183) (.slice (some ⟨go14, 0, none⟩) t185.length co19) t185 from (by (with_reducible repeat (first | apply Kd.R_alloc | apply Kd.R_drewN | apply Kd.R_drew)); exact HO187.out))
     obtain ⟨ce21, hcl21, hM21, hcc21, hfr21⟩ := Kd.R_elem HX21.out z29 (t184 : Int) (of_decide_eq_true (by first | (with_reducible assumption) | assumption)) (by have h_ : (t184 : Int) < ((t185.length : Int) : Int) := of_decide_eq_true (by first | (with_reducible assumption) | assumption); first | exact h_ | (have e_ := (Kd.R_reads' HO187.out).1; omega) | simpa using h_)
     obtain rfl := k29_openM hM21
     have HP21 := Kd.R_seg HX21.out (t184 : Int) (of_decide_eq_true (by first | (with_reducible assumption) | assumption)) (by have h_ : (t184 : Int) < ((t185.length : Int) : Int) := of_decide_eq_true (by first | (with_reducible assumption) | assumption); first | exact h_ | (have e_ := (Kd.R_reads' HO187.out).1; omega) | simpa using h_) (seg := [.string a1_0, .string a1_1, .int .i64 a1_2]) (j := 0) hcl21 hcc21 (show 3 ≤ 3 from by decide) (x' := (⟨a1_0, a1_1, a1_2⟩ : S29)) (k29_mkM _ _ _ (⟨a1_0, a1_1, a1_2⟩ : S29) ) (fun _ hk => hk)
     have hx21_0 := hcc21 0 _ rfl
     (try simp only [show (k29).sz = 3 from rfl, Nat.mul_one, Nat.add_zero] at hx21_0)
     have hf21_0 := hfr21 0
     (try simp only [show (k29).sz = 3 from rfl, Nat.mul_one, Nat.add_zero] at hf21_0)
     have hx21_1 := hcc21 1 _ rfl
     (try simp only [show (k29).sz = 3 from rfl, Nat.mul_one, Nat.add_zero] at hx21_1)
     have hf21_1 := hfr21 1
     (try simp only [show (k29).sz = 3 from rfl, Nat.mul_one, Nat.add_zero] at hf21_1)
     have hx21_2 := hcc21 2 _ rfl
     (try simp only [show (k29).sz = 3 from rfl, Nat.mul_one, Nat.add_zero] at hx21_2)
     have hf21_2 := hfr21 2
     (try simp only [show (k29).sz = 3 from rfl, Nat.mul_one, Nat.add_zero] at hf21_2)
     clear hcl21 hcc21 hfr21 hM21
     try go_wp2_with (first | ((with_reducible refine gate_store (t := 29) (p := 31) rfl ?_); refine store_event (t := 29) (p := 31) (v := ?vo_w22) (w1 := (((w18.setCell ⟨go14, (t184 : Int).toNat * 3, none⟩ (.string a1_0)).setCell ⟨go14, (t184 : Int).toNat * 3 + 1, none⟩ (.string a1_1)).setCell ⟨go14, (t184 : Int).toNat * 3 + 2, none⟩ (.int .i64 a1_2))) ?hg ?ho ?hn ?hr ?_; (case ho => rfl); (case hg => rfl); (case hn => rfl); (case hr => first | (go_simp; done) | (go_simp; rfl)); intro w22 hw; have hg : w18.grownBy w22 (some go14) := (by rw [hw]; exact HP21.2); have hp_ : Kd.R k29 29 w22 w.heap.size (fun k_ => k_ ≠ gb183) (.slice (some ⟨go14, 0, none⟩) t185.length co19) y189 := (by rw [hw, Ny189.out]; exact HP21.1); clear HP21; have n0_ := Aside0.mk (blk_grown (g := gb183) (o := .cells #[.string a1_0, .string a1_1, .int .i64 a1_2] 29 (0, 0)) (by (with_reducible repeat (first | refine blk_drewN ?_ _ | refine blk_drew ?_ | refine blk_alloc ?_ _)); exact BK183.out) hg (Kd.R_away HO187.out (fun _ hk => hk))); have n1_ := Aside0.mk (hp_); have n2_ := Aside0.mk ((by rw [hw]; exact below_set (below_set (below_set (HB.out) GB14.out) GB14.out) GB14.out : Below w.heap.size w w22)); clear BK183; clear HO187; clear HB; have BK183 := n0_; have HO187 := n1_; have HB := n2_; clear n0_ n1_ n2_; clear hg hw hp_))
     go_ret3
     exact ⟨_, by first | rfl | (simp [errW_none, errW_some] <;> rfl) | (simp [*, errW_none, errW_some] <;> rfl), by (with_reducible repeat (first | apply Kd.R_alloc | apply Kd.R_drewN | apply Kd.R_drew)); exact Kd.R_mono HO187.out (fun _ hk => trivial), by repeat (first | (with_reducible first | exact HB.out | apply below_alloc | apply pw_below_drewN | apply below_drew1 | refine below_set ?_ GE183.out) | exact HB.out)⟩
   ·rw [if_neg c7] at H
    exact absurd H (by simp)
  ·rw [if_neg c6] at H
   exact absurd H (by simp)
 ·rw [if_neg c5] at H
  have c5b0 : decide (0 ≤ t184) = false := decide_eq_false c5
  clear c5
  by_cases c23 : (l0.length : Int) ≥ 8
  ·rw [if_pos c23] at H
   have c23b0 : decide (8 ≤ (l0.length : Int)) = true := decide_eq_true c23
   have c23b1 : decide (8 ≤ l0.length) = true := decide_eq_true (by omega)
   clear c23
   simp only [Option.some.injEq, Prod.mk.injEq] at H
   obtain ⟨rfl, rfl, rfl⟩ := H
   go_enter Tryd.func15, Tryd.ntmps15
   go_wp2_with (first | ((with_reducible refine gate_dst (N := 3) rfl ?_); refine box_event ?hg (N := 3) ?hd (cs := #[.string a1_0, .string a1_1, .int .i64 a1_2]) (t := 29) ?hr ?_; (case hd => rfl); (case hg => rfl); (case hr => first | (go_simp; done) | (go_simp; rfl)); intro gb183 hg w24 hbox hb; have n0_ := Aside0.mk (below_step (by repeat (first | (with_reducible first | exact HB.out | apply below_alloc | apply pw_below_drewN | apply below_drew1) | exact HB.out)) hb); have n1_ := Aside0.mk (hbox); have n2_ := Aside0.mk ((by rw [hg]; exact (below_size (by repeat (first | (with_reducible first | exact HB.out | apply below_alloc | apply pw_below_drewN | apply below_drew1) | exact HB.out))) : w.heap.size ≤ gb183)); have n3_ := Aside0.mk ((by rw [hg]; exact (below_size (by repeat (first | (with_reducible first | exact HB.out | apply below_alloc | apply pw_below_drewN | apply below_drew1) | exact HB.out))) : w.heap.size ≤ gb183)); clear HB; have HB := n0_; have BK183 := n1_; have GW183 := n2_; have GE183 := n3_; clear n0_ n1_ n2_ n3_; clear hb hbox hg; have hcz25_0 : w24.cell? ⟨gb183, 0, none⟩ = some (.string a1_0) := (blk_cell BK183.out 0).trans rfl; have hcz25_1 : w24.cell? ⟨gb183, 1, none⟩ = some (.string a1_1) := (blk_cell BK183.out 1).trans rfl; have hcz25_2 : w24.cell? ⟨gb183, 2, none⟩ = some (.int .i64 a1_2) := (blk_cell BK183.out 2).trans rfl; have hfz25_0 := blk_frozen BK183.out 0; have hfz25_1 := blk_frozen BK183.out 1; have hfz25_2 := blk_frozen BK183.out 2) | ((with_reducible refine gate_callee (f := 10) rfl ?_); refine goesL_ (some 14) rfl rfl Tryd.func10 (by kernel_rfl) rfl #[.slice A0 l0.length c0, .string a1_0, .string a1_1] rfl (by (try simp only [List.map_toArray, List.map_cons, List.map_nil]); first | done | rfl | (simp only [List.length_drop, List.length_take]; rfl)) ?_; (with_reducible refine (fairwayref17_Fetch.calls k _ _ l0 a1_0 a1_1 t184 _ ?side1 ?side2 A3.out).mono ?_); (case side1 => repeat (first | exact (Kd.C_below HR0.out HB.out) | (with_reducible refine Kd.C_alloc ?_ _) | (with_reducible refine Kd.C_drewN ?_ _) | (with_reducible refine Kd.C_drew ?_))); (case side2 => exact HC0.out); rintro e w' ⟨rfl, ⟨nd, rfl⟩⟩; refine ⟨_, rfl, ?_⟩) | ((with_reducible refine gate_callee (f := 7) rfl ?_); refine goesL_ (some 16) rfl rfl Tryd.func7 (by kernel_rfl) rfl #[.slice A0 l0.length c0] rfl (by (try simp only [List.map_toArray, List.map_cons, List.map_nil]); first | done | rfl | (simp only [List.length_drop, List.length_take]; rfl)) ?_; (with_reducible refine (fairwayref0_CopyGroups.calls k _ _ l0 t185 _ ?side1 ?side2 A4.out).mono ?_); (case side1 => repeat (first | exact (Kd.C_below HR0.out (by repeat (first | (with_reducible first | exact HB.out | apply below_alloc | apply pw_below_drewN | apply below_drew1 | refine below_set ?_ GE183.out) | exact HB.out))) | (with_reducible refine Kd.C_alloc ?_ _) | (with_reducible refine Kd.C_drewN ?_ _) | (with_reducible refine Kd.C_drew ?_))); (case side2 => exact HC0.out); rintro e w26 ⟨v186, rfl, ho0, hb⟩; refine ⟨_, rfl, ?_⟩; have n0_ := Aside0.mk (Kd.R_lower (Kd.R_newB ho0 (g := gb183) (o := .cells #[.string a1_0, .string a1_1, .int .i64 a1_2] 29 (0, 0)) (by (with_reducible repeat (first | refine blk_drewN ?_ _ | refine blk_drew ?_ | refine blk_alloc ?_ _)); exact BK183.out)) (below_size (by repeat (first | (with_reducible first | exact HB.out | apply below_alloc | apply pw_below_drewN | apply below_drew1 | refine below_set ?_ GE183.out) | exact HB.out)))); have n1_ := Aside0.mk (blk_below (g := gb183) (o := .cells #[.string a1_0, .string a1_1, .int .i64 a1_2] 29 (0, 0)) (by (with_reducible repeat (first | refine blk_drewN ?_ _ | refine blk_drew ?_ | refine blk_alloc ?_ _)); exact BK183.out) hb); have n2_ := Aside0.mk (below_step (by repeat (first | (with_reducible first | exact HB.out | apply below_alloc | apply pw_below_drewN | apply below_drew1 | refine below_set ?_ GE183.out) | exact HB.out)) hb); clear BK183; clear HB; have HO187 := n0_; have BK183 := n1_; have HB := n2_; clear n0_ n1_ n2_; (try clear hb); (try clear hb2); (try clear hk); (try clear hi); (try clear ho0)))
   go_ret3
   exact ⟨_, by first | rfl | (simp [errW_none, errW_some] <;> rfl) | (simp [*, errW_none, errW_some] <;> rfl), by first | exact Kd.R_nil _ _ _ _ _ | exact Kd.N_nil _ _ _ _ _ | exact Kd.V_nil _ _ _ _ _ | exact Kd.Q_nil _ _ _ _ _ | exact Kd.S_nil _ _ _ _ _, by repeat (first | (with_reducible first | exact HB.out | apply below_alloc | apply pw_below_drewN | apply below_drew1 | refine below_set ?_ GE183.out) | exact HB.out)⟩
  ·rw [if_neg c23] at H
   have c23b0 : decide (8 ≤ (l0.length : Int)) = false := decide_eq_false c23
   have c23b1 : decide (8 ≤ l0.length) = false := decide_eq_false (by omega)
   clear c23
   have H' := Aside0.mk H
   clear H
   go_enter Tryd.func15, Tryd.ntmps15
   go_wp2_with (first | ((with_reducible refine gate_dst (N := 3) rfl ?_); refine box_event ?hg (N := 3) ?hd (cs := #[.string a1_0, .string a1_1, .int .i64 a1_2]) (t := 29) ?hr ?_; (case hd => rfl); (case hg => rfl); (case hr => first | (go_simp; done) | (go_simp; rfl)); intro gb183 hg w27 hbox hb; have n0_ := Aside0.mk (below_step (by repeat (first | (with_reducible first | exact HB.out | apply below_alloc | apply pw_below_drewN | apply below_drew1) | exact HB.out)) hb); have n1_ := Aside0.mk (hbox); have n2_ := Aside0.mk ((by rw [hg]; exact (below_size (by repeat (first | (with_reducible first | exact HB.out | apply below_alloc | apply pw_below_drewN | apply below_drew1) | exact HB.out))) : w.heap.size ≤ gb183)); have n3_ := Aside0.mk ((by rw [hg]; exact (below_size (by repeat (first | (with_reducible first | exact HB.out | apply below_alloc | apply pw_below_drewN | apply below_drew1) | exact HB.out))) : w.heap.size ≤ gb183)); clear HB; have HB := n0_; have BK183 := n1_; have GW183 := n2_; have GE183 := n3_; clear n0_ n1_ n2_ n3_; clear hb hbox hg; have hcz28_0 : w27.cell? ⟨gb183, 0, none⟩ = some (.string a1_0) := (blk_cell BK183.out 0).trans rfl; have hcz28_1 : w27.cell? ⟨gb183, 1, none⟩ = some (.string a1_1) := (blk_cell BK183.out 1).trans rfl; have hcz28_2 : w27.cell? ⟨gb183, 2, none⟩ = some (.int .i64 a1_2) := (blk_cell BK183.out 2).trans rfl; have hfz28_0 := blk_frozen BK183.out 0; have hfz28_1 := blk_frozen BK183.out 1; have hfz28_2 := blk_frozen BK183.out 2) | ((with_reducible refine gate_callee (f := 10) rfl ?_); refine goesL_ (some 14) rfl rfl Tryd.func10 (by kernel_rfl) rfl #[.slice A0 l0.length c0, .string a1_0, .string a1_1] rfl (by (try simp only [List.map_toArray, List.map_cons, List.map_nil]); first | done | rfl | (simp only [List.length_drop, List.length_take]; rfl)) ?_; (with_reducible refine (fairwayref17_Fetch.calls k _ _ l0 a1_0 a1_1 t184 _ ?side1 ?side2 A3.out).mono ?_); (case side1 => repeat (first | exact (Kd.C_below HR0.out HB.out) | (with_reducible refine Kd.C_alloc ?_ _) | (with_reducible refine Kd.C_drewN ?_ _) | (with_reducible refine Kd.C_drew ?_))); (case side2 => exact HC0.out); rintro e w' ⟨rfl, ⟨nd, rfl⟩⟩; refine ⟨_, rfl, ?_⟩) | ((with_reducible refine gate_callee (f := 7) rfl ?_); refine goesL_ (some 16) rfl rfl Tryd.func7 (by kernel_rfl) rfl #[.slice A0 l0.length c0] rfl (by (try simp only [List.map_toArray, List.map_cons, List.map_nil]); first | done | rfl | (simp only [List.length_drop, List.length_take]; rfl)) ?_; (with_reducible refine (fairwayref0_CopyGroups.calls k _ _ l0 t185 _ ?side1 ?side2 A4.out).mono ?_); (case side1 => repeat (first | exact (Kd.C_below HR0.out (by repeat (first | (with_reducible first | exact HB.out | apply below_alloc | apply pw_below_drewN | apply below_drew1 | refine below_set ?_ GE183.out) | exact HB.out))) | (with_reducible refine Kd.C_alloc ?_ _) | (with_reducible refine Kd.C_drewN ?_ _) | (with_reducible refine Kd.C_drew ?_))); (case side2 => exact HC0.out); rintro e w29 ⟨v186, rfl, ho0, hb⟩; refine ⟨_, rfl, ?_⟩; have n0_ := Aside0.mk (Kd.R_lower (Kd.R_newB ho0 (g := gb183) (o := .cells #[.string a1_0, .string a1_1, .int .i64 a1_2] 29 (0, 0)) (by (with_reducible repeat (first | refine blk_drewN ?_ _ | refine blk_drew ?_ | refine blk_alloc ?_ _)); exact BK183.out)) (below_size (by repeat (first | (with_reducible first | exact HB.out | apply below_alloc | apply pw_below_drewN | apply below_drew1 | refine below_set ?_ GE183.out) | exact HB.out)))); have n1_ := Aside0.mk (blk_below (g := gb183) (o := .cells #[.string a1_0, .string a1_1, .int .i64 a1_2] 29 (0, 0)) (by (with_reducible repeat (first | refine blk_drewN ?_ _ | refine blk_drew ?_ | refine blk_alloc ?_ _)); exact BK183.out) hb); have n2_ := Aside0.mk (below_step (by repeat (first | (with_reducible first | exact HB.out | apply below_alloc | apply pw_below_drewN | apply below_drew1 | refine below_set ?_ GE183.out) | exact HB.out)) hb); clear BK183; clear HB; have HO187 := n0_; have BK183 := n1_; have HB := n2_; clear n0_ n1_ n2_; (try clear hb); (try clear hb2); (try clear hk); (try clear hi); (try clear ho0)))
   go_loopg [7] k (fun kq v7 w' => ∃ (x7_1 : Int), v7 = .int .i64 x7_1 ∧ Aside0 (fairwayref17_Commit.l0 kq l0 x7_1 a1_0 a1_1 a1_2 = some (r1, r2, r3)) ∧ Aside0 (kq ≤ k) ∧ Aside0 (w'.heap[gb183]? = some (.cells #[.string a1_0, .string a1_1, .int .i64 a1_2] 29 (0, 0))) ∧ Aside0 (Below w.heap.size w w'))
   case atStart => exact ⟨(0), (by first | rfl | (simp; done) | (simp [*]; done)), H', ⟨Nat.le_refl _⟩, ⟨by (with_reducible repeat (first | refine blk_drewN ?_ _ | refine blk_drew ?_ | refine blk_alloc ?_ _)); exact BK183.out⟩, ⟨by repeat (first | (with_reducible first | exact HB.out | apply below_alloc | apply pw_below_drewN | apply below_drew1 | refine below_set ?_ GE183.out) | exact HB.out)⟩⟩
   case round =>
    clear H'
    try clear c1
    try clear p1
    try clear q1
    try clear hx1
    try clear c2
    try clear p2
    try clear hx2
    try clear hf2
    try clear c5
    try clear c5b0
    try clear c6
    try clear c6b0
    try clear c7
    try clear c7b0
    try clear c8
    try clear c8b0
    try clear c10
    try clear c14
    try clear p14
    try clear q14
    try clear hx14
    try clear hf14
    try clear c15
    try clear p18
    try clear q18
    try clear hx18
    try clear c21
    try clear hx21
    try clear hf21
    try clear c23
    try clear c23b0
    try clear c23b1
    try clear hcz10_0
    try clear hcz10_1
    try clear hcz10_2
    try clear hcz16_0
    try clear hcz16_1
    try clear hcz16_2
    try clear hcz20_0
    try clear hcz20_1
    try clear hcz20_2
    try clear hcz25_0
    try clear hcz25_1
    try clear hcz25_2
    try clear hcz28_0
    try clear hcz28_1
    try clear hcz28_2
    try clear hfz10_0
    try clear hfz10_1
    try clear hfz10_2
    try clear hfz16_0
    try clear hfz16_1
    try clear hfz16_2
    try clear hfz20_0
    try clear hfz20_1
    try clear hfz20_2
    try clear hfz25_0
    try clear hfz25_1
    try clear hfz25_2
    try clear hfz28_0
    try clear hfz28_1
    try clear hfz28_2
    try clear hx14_0
    try clear hx14_1
    try clear hx14_2
    try clear hx188_0
    try clear hx188_1
    try clear hx188_2
    try clear hx21_0
    try clear hx21_1
    try clear hx21_2
    try clear p14
    try clear p188
    try clear q14
    try clear q188
    obtain ⟨x7_1, rfl, HA, HK1, BK183, HB⟩ := hrel
    cases gk with
    | zero => exact absurd HA.out (by simp [fairwayref17_Commit.l0])
    | succ k1 =>
     have H := HA.out
     clear HA
     simp only [fairwayref17_Commit.l0] at H
     by_cases c30 : x7_1 < (l0.length : Int)
     ·rw [if_pos c30] at H
      have c30b0 : decide (x7_1 < (l0.length : Int)) = true := decide_eq_true c30
      clear c30
      by_cases c31 : 0 ≤ x7_1
      ·rw [if_pos c31] at H
       have c31b0 : decide (0 ≤ x7_1) = true := decide_eq_true c31
       clear c31
       replace H := Option.bind_eq_some_iff.mp H
       obtain ⟨t191, A320, H⟩ := H
       replace H : (if t191 = true then (fairwayref17_Commit.l0 k1 l0 (wrap64 (x7_1 + 1)) a1_0 a1_1 a1_2) else (if x7_1 ≤ (l0.length : Int) then ((fairwayref0_CopyGroups.f k1 (l0.take (x7_1 : Int).toNat)).bind fun t196 => ((some (([(⟨a1_0, a1_1, a1_2⟩ : S29)] : List (S29)) : List (S29))).bind fun y199 => (if t196.length + y199.length < 3518437208883 then ((some (t196 ++ y199 : List (S29))).bind fun y202 => ((some (l0.drop (x7_1 : Int).toNat : List (S29))).bind fun y205 => (if y202.length + y205.length < 3518437208883 then (some ((y202 ++ y205), true, 0)) else (none)))) else (none)))) else (none))) = some (r1, r2, r3) := H
       have A32 := Aside0.mk A320
       clear A320
       by_cases c33 : t191 = true
       ·subst c33
        have H1 : (fairwayref17_Commit.l0 k1 l0 (wrap64 (x7_1 + 1)) a1_0 a1_1 a1_2) = some (r1, r2, r3) := by rw [if_pos rfl] at H; exact H
        clear H
        have H := H1
        clear H1
        have H' := Aside0.mk H
        clear H
        try go_wp2
        have n0_ := Aside0.mk (blk_drew BK183.out)
        have n1_ := Aside0.mk (below_drew1 HB.out)
        clear BK183
        clear HB
        have BK183 := n0_
        have HB := n1_
        clear n0_ n1_
        have p190 : 0 ≤ (x7_1 : Int) := of_decide_eq_true (by first | (with_reducible assumption) | assumption)
        have q190 : x7_1 < (l0.length : Int) := of_decide_eq_true (by first | (with_reducible assumption) | assumption)
        obtain ⟨ad190, e190, hx190_0, hx190_1, hx190_2⟩ := at_T29 HR0.out x7_1 p190 q190
        have hw190_2 := hx190_2
        have hw190_1 := hx190_1
        have hw190_0 := hx190_0
        cases e190
        replace hx190_0 := (HB.out.cell (World.block_lt_of_cell? w _ hx190_0)).trans hx190_0
        replace hx190_1 := (HB.out.cell (World.block_lt_of_cell? w _ hx190_1)).trans hx190_1
        replace hx190_2 := (HB.out.cell (World.block_lt_of_cell? w _ hx190_2)).trans hx190_2
        replace p190 := eq_true p190
        replace q190 := eq_true q190
        refine start_ (n := 12) (S := fun w' => w'.cell? ⟨gb183, 0, none⟩ = some (.string a1_0) ∧ w'.cell? ⟨gb183, 1, none⟩ = some (.string a1_1) ∧ w'.cell? ⟨gb183, 2, none⟩ = some (.int .i64 a1_2) ∧ w'.cell? (ad190.add ((x7_1).toNat * 3)) = some (.string ((rd_T29 l0 x7_1).f0)) ∧ w'.cell? ⟨(ad190.add ((x7_1).toNat * 3)).block, (ad190.add ((x7_1).toNat * 3)).off + 1, none⟩ = some (.string ((rd_T29 l0 x7_1).f1)) ∧ w'.cell? ⟨(ad190.add ((x7_1).toNat * 3)).block, (ad190.add ((x7_1).toNat * 3)).off + 2, none⟩ = some (.int .i64 ((rd_T29 l0 x7_1).f2))) (ds := []) #[O,O,O,O,O,O,O,O,O,O,O,O] (by kernel_rfl) rfl rfl ⟨(blk_cell BK183.out 0).trans rfl, (blk_cell BK183.out 1).trans rfl, (blk_cell BK183.out 2).trans rfl, ((HB.out.cell (World.block_lt_of_cell? w _ hw190_0)).trans hw190_0), ((HB.out.cell (World.block_lt_of_cell? w _ hw190_1)).trans hw190_1), ((HB.out.cell (World.block_lt_of_cell? w _ hw190_2)).trans hw190_2)⟩ (fun hHeld => ?_); refine with_tabW fairwayref17_Commit.tab11 fairwayref17_Commit.bits11 (fun HT_ HW_ => ?_)
        generalize wr.drew = w34 at BK183 HB hx190_0 hx190_1 hx190_2 hHeld ⊢
        refine pure_ (i := 0) (N := some 36) (v := ?_) (a' := ?_) #[I,O,O,O,O,O,O,O,O,O,O,O] rfl rfl (any_of HT_.out (by kernel_rfl)) (fun _ _ _ h => h) (Or.inl ⟨by rfl, ?_⟩) ?_ ?_
        rotate_left
        ·intro w'
         go_simp
         with_reducible rfl
        rotate_left
        ·simp only [Act.put, sTo,sZ,sS, i64_w, i32_w]
         rfl
        refine pure_ (i := 1) (N := some 37) (v := ?_) (a' := ?_) #[I,I,O,O,O,O,O,O,O,O,O,O] rfl rfl (any_of HT_.out (by kernel_rfl)) (fun _ _ _ h => h) (Or.inl ⟨by rfl, ?_⟩) ?_ ?_
        rotate_left
        ·intro w'
         go_simp
         with_reducible rfl
        rotate_left
        ·simp only [Act.put, sTo,sZ,sS, i64_w, i32_w]
         rfl
        refine pure_ (i := 2) (N := some 38) (v := ?_) (a' := ?_) #[I,I,I,O,O,O,O,O,O,O,O,O] rfl rfl (any_of HT_.out (by kernel_rfl)) (fun _ _ _ h => h) (Or.inl ⟨by rfl, ?_⟩) ?_ ?_
        rotate_left
        ·intro w'
         go_simp
         with_reducible rfl
        rotate_left
        ·simp only [Act.put, sTo,sZ,sS, i64_w, i32_w]
         rfl
        refine pure_ (i := 3) (N := some 39) (v := ?_) (a' := ?_) #[I,I,I,I,O,O,O,O,O,O,O,O] rfl rfl (any_of HT_.out (by kernel_rfl)) (fun _ _ _ h => h) (Or.inl ⟨by rfl, ?_⟩) ?_ ?_
        rotate_left
        ·intro w'
         go_simp
         with_reducible rfl
        rotate_left
        ·simp only [Act.put, sTo,sZ,sS, i64_w, i32_w]
         rfl
        refine pure_ (i := 4) (N := some 40) (v := ?_) (a' := ?_) #[I,I,I,I,I,O,O,O,O,O,O,O] rfl rfl (any_of HT_.out (by kernel_rfl)) (fun _ _ _ h => h) (Or.inl ⟨by rfl, ?_⟩) ?_ ?_
        rotate_left
        ·intro w'
         go_simp
         with_reducible rfl
        rotate_left
        ·simp only [Act.put, sTo,sZ,sS, i64_w, i32_w]
         rfl
        refine pure_ (i := 5) (N := some 41) (v := ?_) (a' := ?_) #[I,I,I,I,I,I,O,O,O,O,O,O] rfl rfl (any_of HT_.out (by kernel_rfl)) (fun _ _ _ h => h) (Or.inl ⟨by rfl, ?_⟩) ?_ ?_
        rotate_left
        ·intro w'
         go_simp
         with_reducible rfl
        rotate_left
        ·simp only [Act.put, sTo,sZ,sS, i64_w, i32_w]
         rfl
        refine pure_ (i := 6) (N := some 42) (v := ?_) (a' := ?_) #[I,I,I,I,I,I,I,O,O,O,O,O] rfl rfl (any_of HT_.out (by kernel_rfl)) (fun _ _ _ h => h) (Or.inl ⟨by rfl, ?_⟩) ?_ ?_
        rotate_left
        ·intro w'
         go_simp
         with_reducible rfl
        rotate_left
        ·simp only [Act.put, sTo,sZ,sS, i64_w, i32_w]
         rfl
        refine pure_ (i := 7) (N := some 43) (v := ?_) (a' := ?_) #[I,I,I,I,I,I,I,I,O,O,O,O] rfl rfl (any_of HT_.out (by kernel_rfl)) (fun _ _ _ h => h) (Or.inl ⟨by rfl, ?_⟩) ?_ ?_
        rotate_left
        ·intro w'
         go_simp
         with_reducible rfl
        rotate_left
        ·simp only [Act.put, sTo,sZ,sS, i64_w, i32_w]
         rfl
        refine take_ (i := 8) (N := some 44) (v := ?_) (a' := ?_) #[I,I,I,I,I,I,I,I,I,O,O,O] rfl rfl (take_ofW HT_.out HW_.out (by kernel_rfl)) (fun _ _ _ h => h) (Or.inl ⟨by rfl, ?_⟩) hHeld ?_ ?_
        rotate_left
        ·rintro w' ⟨s0, s1, s2, s3, s4, s5⟩
         go_simp
         with_reducible rfl
        rotate_left
        ·simp only [Act.put, sTo,sZ,sS, i64_w, i32_w]
         rfl
        refine take_ (i := 9) (N := some 45) (v := ?_) (a' := ?_) #[I,I,I,I,I,I,I,I,I,I,O,O] rfl rfl (take_ofW HT_.out HW_.out (by kernel_rfl)) (fun _ _ _ h => h) (Or.inl ⟨by rfl, ?_⟩) hHeld ?_ ?_
        rotate_left
        ·rintro w' ⟨s0, s1, s2, s3, s4, s5⟩
         go_simp
         with_reducible rfl
        rotate_left
        ·simp only [Act.put, sTo,sZ,sS, i64_w, i32_w]
         rfl
        refine one_ (i := 10) (N := some 46) #[I,I,I,I,I,I,I,I,I,I,I,O] rfl rfl (one_of HT_.out (by kernel_rfl)) (by decide) (fun K hK => ?_)
        refine goes_ Tryd.func27 (by kernel_rfl) rfl #[.agg #[.string ((rd_T29 l0 x7_1).f0), .string ((rd_T29 l0 x7_1).f1), .int .i64 ((rd_T29 l0 x7_1).f2)], .agg #[.string a1_0, .string a1_1, .int .i64 a1_2]] (by rfl) rfl rfl (by (try simp only [List.map_toArray, List.map_cons, List.map_nil]); first | done | rfl | (simp only [List.length_drop, List.length_take]; rfl)) ?_
        with_reducible refine (fairwayref17_below.calls ((rd_T29 l0 x7_1).f0) ((rd_T29 l0 x7_1).f1) ((rd_T29 l0 x7_1).f2) a1_0 a1_1 a1_2 true _ A32.out).mono ?_
        rintro e w35 ⟨rfl, hb⟩
        refine ⟨_, rfl, ?_⟩
        have n0_ := Aside0.mk (blk_below (g := gb183) (o := .cells #[.string a1_0, .string a1_1, .int .i64 a1_2] 29 (0, 0)) (by (with_reducible repeat (first | refine blk_drewN ?_ _ | refine blk_drew ?_ | refine blk_alloc ?_ _)); exact BK183.out) hb)
        have n1_ := Aside0.mk (below_step (by repeat (first | (with_reducible first | exact HB.out | apply below_alloc | apply pw_below_drewN | apply below_drew1 | refine below_set ?_ GE183.out) | exact HB.out)) hb)
        clear BK183
        clear HB
        have BK183 := n0_
        have HB := n1_
        clear n0_ n1_
        (try clear hb)
        (try clear hb2)
        (try clear hk)
        (try clear hi)
        refine hK.out _ _ ⟨(blk_cell BK183.out 0).trans rfl, (blk_cell BK183.out 1).trans rfl, (blk_cell BK183.out 2).trans rfl, ((HB.out.cell (World.block_lt_of_cell? w _ hw190_0)).trans hw190_0), ((HB.out.cell (World.block_lt_of_cell? w _ hw190_1)).trans hw190_1), ((HB.out.cell (World.block_lt_of_cell? w _ hw190_2)).trans hw190_2)⟩ (fun hHeld => ?_)
        clear hK K
        refine norm_ (a' := ?_) ?_ ?_
        rotate_left
        ·show Act.put _ (some 46) _ = _
         simp only [Act.put, sTo,sZ,sS, i64_w, i32_w]
         rfl
        refine pure_ (i := 11) (N := some 47) (v := ?_) (a' := ?_) #[I,I,I,I,I,I,I,I,I,I,I,I] rfl rfl (any_of HT_.out (by kernel_rfl)) (fun _ _ _ h => h) (Or.inl ⟨by rfl, ?_⟩) ?_ ?_
        rotate_left
        ·intro w'
         go_simp
         with_reducible rfl
        rotate_left
        ·simp only [Act.put, sTo,sZ,sS, i64_w, i32_w]
         rfl
        refine done_ (done_of HT_.out (by kernel_rfl)) ?_
        try go_wp2
        go_roundg k1
        case measure => have := HK1.out; omega
        case rel => exact ⟨(wrap64 (x7_1 + 1)), (by first | rfl | (simp; done) | (simp [*]; done)), H', ⟨by have := HK1.out; omega⟩, ⟨by (with_reducible repeat (first | refine blk_drewN ?_ _ | refine blk_drew ?_ | refine blk_alloc ?_ _)); exact BK183.out⟩, ⟨by repeat (first | (with_reducible first | exact HB.out | apply below_alloc | apply pw_below_drewN | apply below_drew1 | refine below_set ?_ GE183.out) | exact HB.out)⟩⟩
       ·replace c33 := Bool.eq_false_iff.mpr c33
        subst c33
        have H1 : (if x7_1 ≤ (l0.length : Int) then ((fairwayref0_CopyGroups.f k1 (l0.take (x7_1 : Int).toNat)).bind fun t196 => ((some (([(⟨a1_0, a1_1, a1_2⟩ : S29)] : List (S29)) : List (S29))).bind fun y199 => (if t196.length + y199.length < 3518437208883 then ((some (t196 ++ y199 : List (S29))).bind fun y202 => ((some (l0.drop (x7_1 : Int).toNat : List (S29))).bind fun y205 => (if y202.length + y205.length < 3518437208883 then (some ((y202 ++ y205), true, 0)) else (none)))) else (none)))) else (none)) = some (r1, r2, r3) := by rw [if_neg (show ¬ (false = true) by decide)] at H; exact H
        clear H
        have H := H1
        clear H1
        have c36b0 := eq_true (of_decide_eq_true (by first | (with_reducible assumption) | assumption) : 0 ≤ x7_1)
        by_cases c37 : x7_1 ≤ (l0.length : Int)
        ·rw [if_pos c37] at H
         have c37b0 := eq_true c37
         have c37b1 : decide (x7_1 ≤ (l0.length : Int)) = true := decide_eq_true c37
         clear c37
         obtain ⟨y192, hy192⟩ : ∃ y_ : List (S29), y_ = (l0.take (x7_1 : Int).toNat) := ⟨_, rfl⟩
         replace H : ((fairwayref0_CopyGroups.f k1 y192).bind fun t196 => ((some (([(⟨a1_0, a1_1, a1_2⟩ : S29)] : List (S29)) : List (S29))).bind fun y199 => (if t196.length + y199.length < 3518437208883 then ((some (t196 ++ y199 : List (S29))).bind fun y202 => ((some (l0.drop (x7_1 : Int).toNat : List (S29))).bind fun y205 => (if y202.length + y205.length < 3518437208883 then (some ((y202 ++ y205), true, 0)) else (none)))) else (none)))) = some (r1, r2, r3) := by first | (rw [hy192]; with_reducible exact H) | (have H2_ := (Option.bind_some _ _).symm.trans H; rw [hy192]; with_reducible exact H2_) | (have H2_ := (Option.bind_some _ _).symm.trans H; with_reducible exact H2_) | with_reducible exact H | (rw [hy192]; exact H) | exact H
         have Ny192 := Aside0.mk hy192
         clear hy192
         replace H := Option.bind_eq_some_iff.mp H
         obtain ⟨t196, A380, H⟩ := H
         replace H : ((some (([(⟨a1_0, a1_1, a1_2⟩ : S29)] : List (S29)) : List (S29))).bind fun y199 => (if t196.length + y199.length < 3518437208883 then ((some (t196 ++ y199 : List (S29))).bind fun y202 => ((some (l0.drop (x7_1 : Int).toNat : List (S29))).bind fun y205 => (if y202.length + y205.length < 3518437208883 then (some ((y202 ++ y205), true, 0)) else (none)))) else (none))) = some (r1, r2, r3) := H
         have A38 := Aside0.mk A380
         clear A380
         obtain ⟨y199, hy199⟩ : ∃ y_ : List (S29), y_ = (([(⟨a1_0, a1_1, a1_2⟩ : S29)] : List (S29))) := ⟨_, rfl⟩
         replace H : (if t196.length + y199.length < 3518437208883 then ((some (t196 ++ y199 : List (S29))).bind fun y202 => ((some (l0.drop (x7_1 : Int).toNat : List (S29))).bind fun y205 => (if y202.length + y205.length < 3518437208883 then (some ((y202 ++ y205), true, 0)) else (none)))) else (none)) = some (r1, r2, r3) := by first | (rw [hy199]; with_reducible exact H) | (have H2_ := (Option.bind_some _ _).symm.trans H; rw [hy199]; with_reducible exact H2_) | (have H2_ := (Option.bind_some _ _).symm.trans H; with_reducible exact H2_) | with_reducible exact H | (rw [hy199]; exact H) | exact H
         have Ny199 := Aside0.mk hy199
         clear hy199
         by_cases c39 : t196.length + y199.length < 3518437208883
         ·rw [if_pos c39] at H
          have LMc39 := Aside0.mk c39
          clear c39
          obtain ⟨y202, hy202⟩ : ∃ y_ : List (S29), y_ = (t196 ++ y199) := ⟨_, rfl⟩
          replace H : ((some (l0.drop (x7_1 : Int).toNat : List (S29))).bind fun y205 => (if y202.length + y205.length < 3518437208883 then (some ((y202 ++ y205), true, 0)) else (none))) = some (r1, r2, r3) := by first | (rw [hy202]; with_reducible exact H) | (have H2_ := (Option.bind_some _ _).symm.trans H; rw [hy202]; with_reducible exact H2_) | (have H2_ := (Option.bind_some _ _).symm.trans H; with_reducible exact H2_) | with_reducible exact H | (rw [hy202]; exact H) | exact H
          have Ny202 := Aside0.mk hy202
          clear hy202
          have c40b0 := eq_true (of_decide_eq_true (by first | (with_reducible assumption) | assumption) : 0 ≤ x7_1)
          have c41b0 := eq_true (of_decide_eq_true (by first | (with_reducible assumption) | assumption) : x7_1 ≤ (l0.length : Int))
          obtain ⟨y205, hy205⟩ : ∃ y_ : List (S29), y_ = (l0.drop (x7_1 : Int).toNat) := ⟨_, rfl⟩
          replace H : (if y202.length + y205.length < 3518437208883 then (some ((y202 ++ y205), true, 0)) else (none)) = some (r1, r2, r3) := by first | (rw [hy205]; with_reducible exact H) | (have H2_ := (Option.bind_some _ _).symm.trans H; rw [hy205]; with_reducible exact H2_) | (have H2_ := (Option.bind_some _ _).symm.trans H; with_reducible exact H2_) | with_reducible exact H | (rw [hy205]; exact H) | exact H
          have Ny205 := Aside0.mk hy205
          clear hy205
          by_cases c42 : y202.length + y205.length < 3518437208883
          ·rw [if_pos c42] at H
           have LMc42 := Aside0.mk c42
           clear c42
           obtain ⟨y209, hy209⟩ : ∃ y_ : List (S29), y_ = (y202 ++ y205) := ⟨_, rfl⟩
           replace H : (some (y209, true, 0)) = some (r1, r2, r3) := by first | (rw [hy209]; with_reducible exact H) | (have H2_ := (Option.bind_some _ _).symm.trans H; rw [hy209]; with_reducible exact H2_) | (have H2_ := (Option.bind_some _ _).symm.trans H; with_reducible exact H2_) | with_reducible exact H | (rw [hy209]; exact H) | exact H
           have Ny209 := Aside0.mk hy209
           clear hy209
           simp only [Option.some.injEq, Prod.mk.injEq] at H
           obtain ⟨rfl, rfl, rfl⟩ := H
           try go_wp2
           have n0_ := Aside0.mk (blk_drew BK183.out)
           have n1_ := Aside0.mk (below_drew1 HB.out)
           clear BK183
           clear HB
           have BK183 := n0_
           have HB := n1_
           clear n0_ n1_
           have p190 : 0 ≤ (x7_1 : Int) := of_decide_eq_true (by first | (with_reducible assumption) | assumption)
           have q190 : x7_1 < (l0.length : Int) := of_decide_eq_true (by first | (with_reducible assumption) | assumption)
           obtain ⟨ad190, e190, hx190_0, hx190_1, hx190_2⟩ := at_T29 HR0.out x7_1 p190 q190
           have hw190_2 := hx190_2
           have hw190_1 := hx190_1
           have hw190_0 := hx190_0
           cases e190
           replace hx190_0 := (HB.out.cell (World.block_lt_of_cell? w _ hx190_0)).trans hx190_0
           replace hx190_1 := (HB.out.cell (World.block_lt_of_cell? w _ hx190_1)).trans hx190_1
           replace hx190_2 := (HB.out.cell (World.block_lt_of_cell? w _ hx190_2)).trans hx190_2
           replace p190 := eq_true p190
           replace q190 := eq_true q190
           refine start_ (n := 12) (S := fun w' => w'.cell? ⟨gb183, 0, none⟩ = some (.string a1_0) ∧ w'.cell? ⟨gb183, 1, none⟩ = some (.string a1_1) ∧ w'.cell? ⟨gb183, 2, none⟩ = some (.int .i64 a1_2) ∧ w'.cell? (ad190.add ((x7_1).toNat * 3)) = some (.string ((rd_T29 l0 x7_1).f0)) ∧ w'.cell? ⟨(ad190.add ((x7_1).toNat * 3)).block, (ad190.add ((x7_1).toNat * 3)).off + 1, none⟩ = some (.string ((rd_T29 l0 x7_1).f1)) ∧ w'.cell? ⟨(ad190.add ((x7_1).toNat * 3)).block, (ad190.add ((x7_1).toNat * 3)).off + 2, none⟩ = some (.int .i64 ((rd_T29 l0 x7_1).f2))) (ds := []) #[O,O,O,O,O,O,O,O,O,O,O,O] (by kernel_rfl) rfl rfl ⟨(blk_cell BK183.out 0).trans rfl, (blk_cell BK183.out 1).trans rfl, (blk_cell BK183.out 2).trans rfl, ((HB.out.cell (World.block_lt_of_cell? w _ hw190_0)).trans hw190_0), ((HB.out.cell (World.block_lt_of_cell? w _ hw190_1)).trans hw190_1), ((HB.out.cell (World.block_lt_of_cell? w _ hw190_2)).trans hw190_2)⟩ (fun hHeld => ?_); refine with_tabW fairwayref17_Commit.tab11 fairwayref17_Commit.bits11 (fun HT_ HW_ => ?_)
           generalize wr.drew = w43 at BK183 HB hx190_0 hx190_1 hx190_2 hHeld ⊢
           refine pure_ (i := 0) (N := some 36) (v := ?_) (a' := ?_) #[I,O,O,O,O,O,O,O,O,O,O,O] rfl rfl (any_of HT_.out (by kernel_rfl)) (fun _ _ _ h => h) (Or.inl ⟨by rfl, ?_⟩) ?_ ?_
           rotate_left
           ·intro w'
            go_simp
            with_reducible rfl
           rotate_left
           ·simp only [Act.put, sTo,sZ,sS, i64_w, i32_w]
            rfl
           refine pure_ (i := 1) (N := some 37) (v := ?_) (a' := ?_) #[I,I,O,O,O,O,O,O,O,O,O,O] rfl rfl (any_of HT_.out (by kernel_rfl)) (fun _ _ _ h => h) (Or.inl ⟨by rfl, ?_⟩) ?_ ?_
           rotate_left
           ·intro w'
            go_simp
            with_reducible rfl
           rotate_left
           ·simp only [Act.put, sTo,sZ,sS, i64_w, i32_w]
            rfl
           refine pure_ (i := 2) (N := some 38) (v := ?_) (a' := ?_) #[I,I,I,O,O,O,O,O,O,O,O,O] rfl rfl (any_of HT_.out (by kernel_rfl)) (fun _ _ _ h => h) (Or.inl ⟨by rfl, ?_⟩) ?_ ?_
           rotate_left
           ·intro w'
            go_simp
            with_reducible rfl
           rotate_left
           ·simp only [Act.put, sTo,sZ,sS, i64_w, i32_w]
            rfl
           refine pure_ (i := 3) (N := some 39) (v := ?_) (a' := ?_) #[I,I,I,I,O,O,O,O,O,O,O,O] rfl rfl (any_of HT_.out (by kernel_rfl)) (fun _ _ _ h => h) (Or.inl ⟨by rfl, ?_⟩) ?_ ?_
           rotate_left
           ·intro w'
            go_simp
            with_reducible rfl
           rotate_left
           ·simp only [Act.put, sTo,sZ,sS, i64_w, i32_w]
            rfl
           refine pure_ (i := 4) (N := some 40) (v := ?_) (a' := ?_) #[I,I,I,I,I,O,O,O,O,O,O,O] rfl rfl (any_of HT_.out (by kernel_rfl)) (fun _ _ _ h => h) (Or.inl ⟨by rfl, ?_⟩) ?_ ?_
           rotate_left
           ·intro w'
            go_simp
            with_reducible rfl
           rotate_left
           ·simp only [Act.put, sTo,sZ,sS, i64_w, i32_w]
            rfl
           refine pure_ (i := 5) (N := some 41) (v := ?_) (a' := ?_) #[I,I,I,I,I,I,O,O,O,O,O,O] rfl rfl (any_of HT_.out (by kernel_rfl)) (fun _ _ _ h => h) (Or.inl ⟨by rfl, ?_⟩) ?_ ?_
           rotate_left
           ·intro w'
            go_simp
            with_reducible rfl
           rotate_left
           ·simp only [Act.put, sTo,sZ,sS, i64_w, i32_w]
            rfl
           refine pure_ (i := 6) (N := some 42) (v := ?_) (a' := ?_) #[I,I,I,I,I,I,I,O,O,O,O,O] rfl rfl (any_of HT_.out (by kernel_rfl)) (fun _ _ _ h => h) (Or.inl ⟨by rfl, ?_⟩) ?_ ?_
           rotate_left
           ·intro w'
            go_simp
            with_reducible rfl
           rotate_left
           ·simp only [Act.put, sTo,sZ,sS, i64_w, i32_w]
            rfl
           refine pure_ (i := 7) (N := some 43) (v := ?_) (a' := ?_) #[I,I,I,I,I,I,I,I,O,O,O,O] rfl rfl (any_of HT_.out (by kernel_rfl)) (fun _ _ _ h => h) (Or.inl ⟨by rfl, ?_⟩) ?_ ?_
           rotate_left
           ·intro w'
            go_simp
            with_reducible rfl
           rotate_left
           ·simp only [Act.put, sTo,sZ,sS, i64_w, i32_w]
            rfl
           refine take_ (i := 8) (N := some 44) (v := ?_) (a' := ?_) #[I,I,I,I,I,I,I,I,I,O,O,O] rfl rfl (take_ofW HT_.out HW_.out (by kernel_rfl)) (fun _ _ _ h => h) (Or.inl ⟨by rfl, ?_⟩) hHeld ?_ ?_
           rotate_left
           ·rintro w' ⟨s0, s1, s2, s3, s4, s5⟩
            go_simp
            with_reducible rfl
           rotate_left
           ·simp only [Act.put, sTo,sZ,sS, i64_w, i32_w]
            rfl
           refine take_ (i := 9) (N := some 45) (v := ?_) (a' := ?_) #[I,I,I,I,I,I,I,I,I,I,O,O] rfl rfl (take_ofW HT_.out HW_.out (by kernel_rfl)) (fun _ _ _ h => h) (Or.inl ⟨by rfl, ?_⟩) hHeld ?_ ?_
           rotate_left
           ·rintro w' ⟨s0, s1, s2, s3, s4, s5⟩
            go_simp
            with_reducible rfl
           rotate_left
           ·simp only [Act.put, sTo,sZ,sS, i64_w, i32_w]
            rfl
           refine one_ (i := 10) (N := some 46) #[I,I,I,I,I,I,I,I,I,I,I,O] rfl rfl (one_of HT_.out (by kernel_rfl)) (by decide) (fun K hK => ?_)
           refine goes_ Tryd.func27 (by kernel_rfl) rfl #[.agg #[.string ((rd_T29 l0 x7_1).f0), .string ((rd_T29 l0 x7_1).f1), .int .i64 ((rd_T29 l0 x7_1).f2)], .agg #[.string a1_0, .string a1_1, .int .i64 a1_2]] (by rfl) rfl rfl (by (try simp only [List.map_toArray, List.map_cons, List.map_nil]); first | done | rfl | (simp only [List.length_drop, List.length_take]; rfl)) ?_
           with_reducible refine (fairwayref17_below.calls ((rd_T29 l0 x7_1).f0) ((rd_T29 l0 x7_1).f1) ((rd_T29 l0 x7_1).f2) a1_0 a1_1 a1_2 false _ A32.out).mono ?_
           rintro e w44 ⟨rfl, hb⟩
           refine ⟨_, rfl, ?_⟩
           have n0_ := Aside0.mk (blk_below (g := gb183) (o := .cells #[.string a1_0, .string a1_1, .int .i64 a1_2] 29 (0, 0)) (by (with_reducible repeat (first | refine blk_drewN ?_ _ | refine blk_drew ?_ | refine blk_alloc ?_ _)); exact BK183.out) hb)
           have n1_ := Aside0.mk (below_step (by repeat (first | (with_reducible first | exact HB.out | apply below_alloc | apply pw_below_drewN | apply below_drew1 | refine below_set ?_ GE183.out) | exact HB.out)) hb)
           clear BK183
           clear HB
           have BK183 := n0_
           have HB := n1_
           clear n0_ n1_
           (try clear hb)
           (try clear hb2)
           (try clear hk)
           (try clear hi)
           refine hK.out _ _ ⟨(blk_cell BK183.out 0).trans rfl, (blk_cell BK183.out 1).trans rfl, (blk_cell BK183.out 2).trans rfl, ((HB.out.cell (World.block_lt_of_cell? w _ hw190_0)).trans hw190_0), ((HB.out.cell (World.block_lt_of_cell? w _ hw190_1)).trans hw190_1), ((HB.out.cell (World.block_lt_of_cell? w _ hw190_2)).trans hw190_2)⟩ (fun hHeld => ?_)
           clear hK K
           refine norm_ (a' := ?_) ?_ ?_
           rotate_left
           ·show Act.put _ (some 46) _ = _
            simp only [Act.put, sTo,sZ,sS, i64_w, i32_w]
            rfl
           refine pure_ (i := 11) (N := some 47) (v := ?_) (a' := ?_) #[I,I,I,I,I,I,I,I,I,I,I,I] rfl rfl (any_of HT_.out (by kernel_rfl)) (fun _ _ _ h => h) (Or.inl ⟨by rfl, ?_⟩) ?_ ?_
           rotate_left
           ·intro w'
            go_simp
            with_reducible rfl
           rotate_left
           ·simp only [Act.put, sTo,sZ,sS, i64_w, i32_w]
            rfl
           refine done_ (done_of HT_.out (by kernel_rfl)) ?_
           try go_wp2
           have n0_ := Aside0.mk (blk_drew BK183.out)
           have n1_ := Aside0.mk (below_drew1 HB.out)
           clear BK183
           clear HB
           have BK183 := n0_
           have HB := n1_
           clear n0_ n1_
           have q46 : (x7_1 : Int) ≤ ((l0.length : Int) : Int) := of_decide_eq_true (by first | (with_reducible assumption) | assumption)
           obtain ⟨i046, hi046, _, hsz46, _⟩ := info_parts info29
           have hroom46 : l0.length ≤ c0 := HC0.out
           have hC46 : Kd.C k29 _ (some ad190) l0.length l0 := HR0.out
           have hcut46 := cut_to (P := Tryd.prog) 22 29 .i64 Tryd.underlying22 hi046 (some ad190) l0.length c0 x7_1 (of_decide_eq_true (by first | (with_reducible assumption) | assumption)) q46 hroom46
           have hr46 := Kd.C_take (m := (x7_1 : Int).toNat) hC46 (by omega)
           have hy46 : y192.length = (x7_1 : Int).toNat := (by rw [Ny192.out, List.length_take]; omega)
           rw [← Ny192.out] at hr46
           rw [← hy46] at hcut46
           have HR195 := Aside0.mk hr46
           have HC195 := Aside0.mk (show y192.length ≤ c0 from by omega)
           clear hr46 hC46 hroom46 hi046 hsz46
           have KY46 := Aside0.mk hy46
           clear hy46
           replace q46 := eq_true q46
           refine start_ (n := 8) (S := fun w' => w'.cell? ⟨gb183, 0, none⟩ = some (.string a1_0) ∧ w'.cell? ⟨gb183, 1, none⟩ = some (.string a1_1) ∧ w'.cell? ⟨gb183, 2, none⟩ = some (.int .i64 a1_2)) (ds := []) #[O,O,O,O,O,O,O,O] (by kernel_rfl) rfl rfl ⟨(blk_cell BK183.out 0).trans rfl, (blk_cell BK183.out 1).trans rfl, (blk_cell BK183.out 2).trans rfl⟩ (fun hHeld => ?_); refine with_tabW fairwayref17_Commit.tab13 fairwayref17_Commit.bits13 (fun HT_ HW_ => ?_)
           generalize w44.drew = w45 at BK183 HB HR195 hHeld ⊢
           refine pure_ (i := 0) (N := some 50) (v := ?_) (a' := ?_) #[I,O,O,O,O,O,O,O] rfl rfl (any_of HT_.out (by kernel_rfl)) (fun _ _ _ h => h) (Or.inl ⟨by rfl, ?_⟩) ?_ ?_
           rotate_left
           ·intro w'
            go_simp
            with_reducible rfl
           rotate_left
           ·simp only [Act.put, sTo,sZ,sS, i64_w, i32_w]
            rfl
           refine pure_ (i := 1) (N := some 51) (v := ?_) (a' := ?_) #[I,I,O,O,O,O,O,O] rfl rfl (any_of HT_.out (by kernel_rfl)) (fun _ _ _ h => h) (Or.inl ⟨by rfl, ?_⟩) ?_ ?_
           rotate_left
           ·intro w'
            go_simp
            with_reducible rfl
           rotate_left
           ·simp only [Act.put, sTo,sZ,sS, i64_w, i32_w]
            rfl
           refine pure_ (i := 2) (N := some 52) (v := ?_) (a' := ?_) #[I,I,I,O,O,O,O,O] rfl rfl (any_of HT_.out (by kernel_rfl)) (fun _ _ _ h => h) (Or.inl ⟨by rfl, ?_⟩) ?_ ?_
           rotate_left
           ·intro w'
            go_simp
            with_reducible rfl
           rotate_left
           ·simp only [Act.put, sTo,sZ,sS, i64_w, i32_w]
            rfl
           refine take_ (i := 4) (N := some 54) (v := ?_) (a' := ?_) #[I,I,I,O,I,O,O,O] rfl rfl (take_ofW HT_.out HW_.out (by kernel_rfl)) (fun _ _ _ h => h) (Or.inl ⟨by rfl, ?_⟩) hHeld ?_ ?_
           rotate_left
           ·rintro w' ⟨s0, s1, s2⟩
            go_simp
            with_reducible rfl
           rotate_left
           ·simp only [Act.put, sTo,sZ,sS, i64_w, i32_w]
            rfl
           refine join_ (σ := Value × Value) 2 #[I,I,I,I,I,I,O,O] (fun s_ => [(53, s_.1), (55, s_.2)]) (fun s_ w' => (w'.cell? ⟨gb183, 0, none⟩ = some (.string a1_0) ∧ w'.cell? ⟨gb183, 1, none⟩ = some (.string a1_1) ∧ w'.cell? ⟨gb183, 2, none⟩ = some (.int .i64 a1_2)) ∧ (Kd.R k29 29 w' w.heap.size (fun k_ => some k_ ≠ (s_.2 : Value).ownBlock ∧ k_ ≠ gb183) s_.1 t196) ∧ (Kd.R k29 29 w' w.heap.size (fun k_ => some k_ ≠ (s_.1 : Value).ownBlock ∧ k_ ≠ gb183) s_.2 y199) ∧ (w'.heap[gb183]? = some (.cells #[.string a1_0, .string a1_1, .int .i64 a1_2] 29 (0, 0))) ∧ (Below w.heap.size w w')) ?_ ?_
           rotate_left
           ·intro hCont
            refine two_ (i := 3) (j := 5) (Ni := some 53) (Nj := some 55) #[I,I,I,I,I,O,O,O] #[I,I,I,O,I,I,O,O] rfl rfl rfl rfl (two_of HT_.out (by kernel_rfl)) (by decide) (by decide) (fun K hK => ?_) (fun K hK => ?_)
            ·skip
             refine goes_ Tryd.func7 (by kernel_rfl) rfl #[.slice (some ad190) y192.length c0] (by rfl) rfl rfl (by (try simp only [List.map_toArray, List.map_cons, List.map_nil]); first | done | rfl | (simp only [List.length_drop, List.length_take]; rfl)) ?_
             with_reducible refine (fairwayref0_CopyGroups.calls k1 _ _ y192 t196 _ ?side1 ?side2 A38.out).mono ?_
             (case side1 => repeat (first | exact (Kd.C_below HR195.out HB.out) | (with_reducible refine Kd.C_alloc ?_ _) | (with_reducible refine Kd.C_drewN ?_ _) | (with_reducible refine Kd.C_drew ?_)))
             (case side2 => exact HC195.out)
             rintro e w47 ⟨v197, rfl, ho0, hb⟩
             refine ⟨_, rfl, ?_⟩
             have n0_ := Aside0.mk (Kd.R_lower (Kd.R_newB ho0 (g := gb183) (o := .cells #[.string a1_0, .string a1_1, .int .i64 a1_2] 29 (0, 0)) (by (with_reducible repeat (first | refine blk_drewN ?_ _ | refine blk_drew ?_ | refine blk_alloc ?_ _)); exact BK183.out)) (below_size (by repeat (first | (with_reducible first | exact HB.out | apply below_alloc | apply pw_below_drewN | apply below_drew1 | refine below_set ?_ GE183.out) | exact HB.out))))
             have n1_ := Aside0.mk (blk_below (g := gb183) (o := .cells #[.string a1_0, .string a1_1, .int .i64 a1_2] 29 (0, 0)) (by (with_reducible repeat (first | refine blk_drewN ?_ _ | refine blk_drew ?_ | refine blk_alloc ?_ _)); exact BK183.out) hb)
             have n2_ := Aside0.mk (below_step (by repeat (first | (with_reducible first | exact HB.out | apply below_alloc | apply pw_below_drewN | apply below_drew1 | refine below_set ?_ GE183.out) | exact HB.out)) hb)
             clear BK183
             clear HB
             have HO198 := n0_
             have BK183 := n1_
             have HB := n2_
             clear n0_ n1_ n2_
             (try clear hb)
             (try clear hb2)
             (try clear hk)
             (try clear hi)
             (try clear ho0)
             refine hK.out _ _ ⟨(blk_cell BK183.out 0).trans rfl, (blk_cell BK183.out 1).trans rfl, (blk_cell BK183.out 2).trans rfl⟩ (fun hHeld => ?_)
             clear hK K
             refine norm_ (a' := ?_) ?_ ?_
             rotate_left
             ·show Act.put _ (some 53) _ = _
              simp only [Act.put, sTo,sZ,sS, i64_w, i32_w]
              rfl
             refine one_ (i := 5) (N := some 55) #[I,I,I,I,I,I,O,O] rfl rfl (one_of HT_.out (by kernel_rfl)) (by decide) (fun K hK => ?_)
             refine Kd.R_lit_step k29 _ 29 ?hg (N := 55) ?hd (xs := ([(⟨a1_0, a1_1, a1_2⟩ : S29)] : List (S29))) (inner := [.string a1_0, .string a1_1, .int .i64 a1_2]) (ok := fun _ => True) (okp := fun _ => True) ?hr ?hp (fun _ hk => hk) trivial (Below.refl _ _) (Nat.le_refl _) (by simp) ?_; (case hd => rfl); (case hg => rfl); (case hr => first | (go_simp; done) | (go_simp; rfl)); (case hp => exact (Reps.c3 (show Kd.M k29 _ _ _ (⟨a1_0, a1_1, a1_2⟩ : S29) [.string a1_0, .string a1_1, .int .i64 a1_2] from (k29_mkM _ _ _ (⟨a1_0, a1_1, a1_2⟩ : S29) )) (Reps.none _ _)))
             intro v200 w48 ho49 hb hg_ hnew_
             clear hg_ hnew_
             (first | rw [← Ny199.out] at ho49 | (simp only [Int.reduceToNat] at ho49; rw [← Ny199.out] at ho49))
             have n0_ := Aside0.mk (Kd.R_elder' (by (with_reducible repeat (first | apply Kd.R_alloc | apply Kd.R_drewN | apply Kd.R_drew)); exact HO198.out) (Kd.R_base ho49) hb)
             have n1_ := Aside0.mk (Kd.R_lower (Kd.R_newB (Kd.R_new' ho49 (Kd.R_lt (by (with_reducible repeat (first | apply Kd.R_alloc | apply Kd.R_drewN | apply Kd.R_drew)); exact HO198.out))) (g := gb183) (o := .cells #[.string a1_0, .string a1_1, .int .i64 a1_2] 29 (0, 0)) (by (with_reducible repeat (first | refine blk_drewN ?_ _ | refine blk_drew ?_ | refine blk_alloc ?_ _)); exact BK183.out)) (below_size (by repeat (first | (with_reducible first | exact HB.out | apply below_alloc | apply pw_below_drewN | apply below_drew1 | refine below_set ?_ GE183.out) | exact HB.out))))
             have n2_ := Aside0.mk (blk_below (g := gb183) (o := .cells #[.string a1_0, .string a1_1, .int .i64 a1_2] 29 (0, 0)) (by (with_reducible repeat (first | refine blk_drewN ?_ _ | refine blk_drew ?_ | refine blk_alloc ?_ _)); exact BK183.out) hb)
             have n3_ := Aside0.mk (below_step (by repeat (first | (with_reducible first | exact HB.out | apply below_alloc | apply pw_below_drewN | apply below_drew1 | refine below_set ?_ GE183.out) | exact HB.out)) hb)
             clear HO198
             clear BK183
             clear HB
             have HO198 := n0_
             have HO201 := n1_
             have BK183 := n2_
             have HB := n3_
             clear n0_ n1_ n2_ n3_
             clear hb ho49
             refine hK.out _ _ ⟨(blk_cell BK183.out 0).trans rfl, (blk_cell BK183.out 1).trans rfl, (blk_cell BK183.out 2).trans rfl⟩ (fun hHeld => ?_)
             clear hK K
             refine norm_ (a' := ?_) ?_ ?_
             rotate_left
             ·show Act.put _ (some 55) _ = _
              simp only [Act.put, sTo,sZ,sS, i64_w, i32_w]
              rfl
             exact norm_ (by simp only [putAll, Act.put, sTo,sZ,sS]) (hCont (v197, v200) _ ⟨hHeld, (by (with_reducible repeat (first | apply Kd.R_alloc | apply Kd.R_drewN | apply Kd.R_drew)); exact Kd.R_mono HO198.out (fun _ hk => ⟨hk.2, hk.1.2⟩)), (by (with_reducible repeat (first | apply Kd.R_alloc | apply Kd.R_drewN | apply Kd.R_drew)); exact Kd.R_mono HO201.out (fun _ hk => ⟨hk.1.2, hk.2⟩)), (by (with_reducible repeat (first | refine blk_drewN ?_ _ | refine blk_drew ?_ | refine blk_alloc ?_ _)); exact BK183.out), (by repeat (first | (with_reducible first | exact HB.out | apply below_alloc | apply pw_below_drewN | apply below_drew1 | refine below_set ?_ GE183.out) | exact HB.out))⟩)
            ·skip
             refine Kd.R_lit_step k29 _ 29 ?hg (N := 55) ?hd (xs := ([(⟨a1_0, a1_1, a1_2⟩ : S29)] : List (S29))) (inner := [.string a1_0, .string a1_1, .int .i64 a1_2]) (ok := fun _ => True) (okp := fun _ => True) ?hr ?hp (fun _ hk => hk) trivial (Below.refl _ _) (Nat.le_refl _) (by simp) ?_; (case hd => rfl); (case hg => rfl); (case hr => first | (go_simp; done) | (go_simp; rfl)); (case hp => exact (Reps.c3 (show Kd.M k29 _ _ _ (⟨a1_0, a1_1, a1_2⟩ : S29) [.string a1_0, .string a1_1, .int .i64 a1_2] from (k29_mkM _ _ _ (⟨a1_0, a1_1, a1_2⟩ : S29) )) (Reps.none _ _)))
             intro v200 w47 ho48 hb hg_ hnew_
             clear hg_ hnew_
             (first | rw [← Ny199.out] at ho48 | (simp only [Int.reduceToNat] at ho48; rw [← Ny199.out] at ho48))
             have n0_ := Aside0.mk (Kd.R_lower (Kd.R_newB ho48 (g := gb183) (o := .cells #[.string a1_0, .string a1_1, .int .i64 a1_2] 29 (0, 0)) (by (with_reducible repeat (first | refine blk_drewN ?_ _ | refine blk_drew ?_ | refine blk_alloc ?_ _)); exact BK183.out)) (below_size (by repeat (first | (with_reducible first | exact HB.out | apply below_alloc | apply pw_below_drewN | apply below_drew1 | refine below_set ?_ GE183.out) | exact HB.out))))
             have n1_ := Aside0.mk (blk_below (g := gb183) (o := .cells #[.string a1_0, .string a1_1, .int .i64 a1_2] 29 (0, 0)) (by (with_reducible repeat (first | refine blk_drewN ?_ _ | refine blk_drew ?_ | refine blk_alloc ?_ _)); exact BK183.out) hb)
             have n2_ := Aside0.mk (below_step (by repeat (first | (with_reducible first | exact HB.out | apply below_alloc | apply pw_below_drewN | apply below_drew1 | refine below_set ?_ GE183.out) | exact HB.out)) hb)
             clear BK183
             clear HB
             have HO201 := n0_
             have BK183 := n1_
             have HB := n2_
             clear n0_ n1_ n2_
             clear hb ho48
             refine hK.out _ _ ⟨(blk_cell BK183.out 0).trans rfl, (blk_cell BK183.out 1).trans rfl, (blk_cell BK183.out 2).trans rfl⟩ (fun hHeld => ?_)
             clear hK K
             refine norm_ (a' := ?_) ?_ ?_
             rotate_left
             ·show Act.put _ (some 55) _ = _
              simp only [Act.put, sTo,sZ,sS, i64_w, i32_w]
              rfl
             refine one_ (i := 3) (N := some 53) #[I,I,I,I,I,I,O,O] rfl rfl (one_of HT_.out (by kernel_rfl)) (by decide) (fun K hK => ?_)
             refine goes_ Tryd.func7 (by kernel_rfl) rfl #[.slice (some ad190) y192.length c0] (by rfl) rfl rfl (by (try simp only [List.map_toArray, List.map_cons, List.map_nil]); first | done | rfl | (simp only [List.length_drop, List.length_take]; rfl)) ?_
             with_reducible refine (fairwayref0_CopyGroups.calls k1 _ _ y192 t196 _ ?side1 ?side2 A38.out).mono ?_
             (case side1 => repeat (first | exact (Kd.C_below HR195.out HB.out) | (with_reducible refine Kd.C_alloc ?_ _) | (with_reducible refine Kd.C_drewN ?_ _) | (with_reducible refine Kd.C_drew ?_)))
             (case side2 => exact HC195.out)
             rintro e w49 ⟨v197, rfl, ho0, hb⟩
             refine ⟨_, rfl, ?_⟩
             have n0_ := Aside0.mk (Kd.R_elder' (by (with_reducible repeat (first | apply Kd.R_alloc | apply Kd.R_drewN | apply Kd.R_drew)); exact HO201.out) (Kd.R_base ho0) hb)
             have n1_ := Aside0.mk (Kd.R_lower (Kd.R_newB (Kd.R_new' ho0 (Kd.R_lt (by (with_reducible repeat (first | apply Kd.R_alloc | apply Kd.R_drewN | apply Kd.R_drew)); exact HO201.out))) (g := gb183) (o := .cells #[.string a1_0, .string a1_1, .int .i64 a1_2] 29 (0, 0)) (by (with_reducible repeat (first | refine blk_drewN ?_ _ | refine blk_drew ?_ | refine blk_alloc ?_ _)); exact BK183.out)) (below_size (by repeat (first | (with_reducible first | exact HB.out | apply below_alloc | apply pw_below_drewN | apply below_drew1 | refine below_set ?_ GE183.out) | exact HB.out))))
             have n2_ := Aside0.mk (blk_below (g := gb183) (o := .cells #[.string a1_0, .string a1_1, .int .i64 a1_2] 29 (0, 0)) (by (with_reducible repeat (first | refine blk_drewN ?_ _ | refine blk_drew ?_ | refine blk_alloc ?_ _)); exact BK183.out) hb)
             have n3_ := Aside0.mk (below_step (by repeat (first | (with_reducible first | exact HB.out | apply below_alloc | apply pw_below_drewN | apply below_drew1 | refine below_set ?_ GE183.out) | exact HB.out)) hb)
             clear HO201
             clear BK183
             clear HB
             have HO201 := n0_
             have HO198 := n1_
             have BK183 := n2_
             have HB := n3_
             clear n0_ n1_ n2_ n3_
             (try clear hb)
             (try clear hb2)
             (try clear hk)
             (try clear hi)
             (try clear ho0)
             refine hK.out _ _ ⟨(blk_cell BK183.out 0).trans rfl, (blk_cell BK183.out 1).trans rfl, (blk_cell BK183.out 2).trans rfl⟩ (fun hHeld => ?_)
             clear hK K
             refine norm_ (a' := ?_) ?_ ?_
             rotate_left
             ·show Act.put _ (some 53) _ = _
              simp only [Act.put, sTo,sZ,sS, i64_w, i32_w]
              rfl
             exact norm_ (by simp only [putAll, Act.put, sTo,sZ,sS]) (hCont (v197, v200) _ ⟨hHeld, (by (with_reducible repeat (first | apply Kd.R_alloc | apply Kd.R_drewN | apply Kd.R_drew)); exact Kd.R_mono HO198.out (fun _ hk => ⟨hk.1.2, hk.2⟩)), (by (with_reducible repeat (first | apply Kd.R_alloc | apply Kd.R_drewN | apply Kd.R_drew)); exact Kd.R_mono HO201.out (fun _ hk => ⟨hk.2, hk.1.2⟩)), (by (with_reducible repeat (first | refine blk_drewN ?_ _ | refine blk_drew ?_ | refine blk_alloc ?_ _)); exact BK183.out), (by repeat (first | (with_reducible first | exact HB.out | apply below_alloc | apply pw_below_drewN | apply below_drew1 | refine below_set ?_ GE183.out) | exact HB.out))⟩)
           rintro ⟨v197, v200⟩ w50 ⟨hS_, h0_, h1_, h2_, h3_⟩
           have n0_ : Aside0 (Kd.R k29 29 w50 w.heap.size (fun k_ => some k_ ≠ (v200 : Value).ownBlock ∧ k_ ≠ gb183) v197 t196) := ⟨h0_⟩
           have n1_ : Aside0 (Kd.R k29 29 w50 w.heap.size (fun k_ => some k_ ≠ (v197 : Value).ownBlock ∧ k_ ≠ gb183) v200 y199) := ⟨h1_⟩
           have n2_ : Aside0 (w50.heap[gb183]? = some (.cells #[.string a1_0, .string a1_1, .int .i64 a1_2] 29 (0, 0))) := ⟨h2_⟩
           have n3_ : Aside0 (Below w.heap.size w w50) := ⟨h3_⟩
           clear BK183
           clear HB
           clear h0_ h1_ h2_ h3_
           have HO198 := n0_
           have HO201 := n1_
           have BK183 := n2_
           have HB := n3_
           clear n0_ n1_ n2_ n3_
           have hHeld : w50.cell? ⟨gb183, 0, none⟩ = some (.string a1_0) ∧ w50.cell? ⟨gb183, 1, none⟩ = some (.string a1_1) ∧ w50.cell? ⟨gb183, 2, none⟩ = some (.int .i64 a1_2) := hS_
           obtain ⟨Ao52, co52, eo52⟩ := Kd.R_slice HO201.out
           (first | subst eo52 | (injection eo52 with f1_ f2_ f3_; have f4_ := f1_.symm; have f5_ := f3_.symm; clear f1_ f2_ f3_; subst f4_; subst f5_))
           refine norm_ (a' := ?_) ?_ ?_
           rotate_left
           ·simp only [putAll, Act.put, sTo,sZ,sS]
            rfl
           refine one_ (i := 6) (N := some 56) #[I,I,I,I,I,I,I,O] rfl rfl (one_of HT_.out (by kernel_rfl)) (by decide) (fun K hK => ?_)
           refine Kd.R_append_rows_step k29 (w0 := w) w.heap.size (by rfl) (.tmp 53) (.tmp 55) 22 29 (.agg #[(.string ⟨#[]⟩), (.string ⟨#[]⟩), (.int .i64 0)]) 40 rfl Tryd.underlying22 info29 rfl (by decide) (by omega) v197 t196 y199 _ _ _ (fun k_ => some k_ ≠ (.slice Ao52 y199.length co52 : Value).ownBlock ∧ k_ ≠ gb183) (fun _ => False) rfl rfl ?aO ?aR (fun _ _ h => h) (fun _ h => h.elim) ?aF ?aB ?aS ?aL ?_
           (case aR => repeat (first | exact (Kd.R_reads' HO201.out).2.2 | (with_reducible refine Kd.C_alloc ?_ _) | (with_reducible refine Kd.C_drewN ?_ _) | (with_reducible refine Kd.C_drew ?_)))
           (case aB => exact (by repeat (first | (with_reducible first | exact HB.out | apply below_alloc | apply pw_below_drewN | apply below_drew1 | refine below_set ?_ GE183.out) | exact HB.out)))
           (case aF => exact (fun k_ hk => ⟨Kd.fresh' (Kd.R_lt (by (with_reducible repeat (first | apply Kd.R_alloc | apply Kd.R_drewN | apply Kd.R_drew)); exact HO201.out)) k_ hk, Kd.freshB (g := gb183) (o := .cells #[.string a1_0, .string a1_1, .int .i64 a1_2] 29 (0, 0)) (by (with_reducible repeat (first | refine blk_drewN ?_ _ | refine blk_drew ?_ | refine blk_alloc ?_ _)); exact BK183.out) k_ hk⟩))
           (case aO => exact (by (with_reducible repeat (first | apply Kd.R_alloc | apply Kd.R_drewN | apply Kd.R_drew)); exact HO198.out))
           (case aS => exact (below_size (by repeat (first | (with_reducible first | exact HB.out | apply below_alloc | apply pw_below_drewN | apply below_drew1 | refine below_set ?_ GE183.out) | exact HB.out))))
           (case aL => have := LMc39.out; omega)
           intro v203 w51 ho hb hg hat
           rw [← Ny202.out] at ho
           have n0_ := Aside0.mk (blk_grown (g := gb183) (o := .cells #[.string a1_0, .string a1_1, .int .i64 a1_2] 29 (0, 0)) (by (with_reducible repeat (first | refine blk_drewN ?_ _ | refine blk_drew ?_ | refine blk_alloc ?_ _)); exact BK183.out) hg (Kd.R_away HO198.out (fun _ hk => hk.2)))
           have n1_ := Aside0.mk (Kd.R_after (ok := (fun k_ => k_ ≠ gb183)) (by (with_reducible repeat (first | apply Kd.R_alloc | apply Kd.R_drewN | apply Kd.R_drew)); exact Kd.R_mono HO201.out (fun _ hk => ⟨hk.2, hk.1⟩)) hg hat)
           have n2_ := Aside0.mk (hb)
           have n3_ := Aside0.mk (ho)
           clear BK183
           clear HO201
           clear HB
           clear HO198
           have BK183 := n0_
           have HO201 := n1_
           have HB := n2_
           have HO204 := n3_
           clear n0_ n1_ n2_ n3_
           clear ho hb hg hat
           refine hK.out _ _ ⟨(blk_cell BK183.out 0).trans rfl, (blk_cell BK183.out 1).trans rfl, (blk_cell BK183.out 2).trans rfl⟩ (fun hHeld => ?_)
           clear hK K
           refine norm_ (a' := ?_) ?_ ?_
           rotate_left
           ·show Act.put _ (some 56) _ = _
            simp only [Act.put, sTo,sZ,sS, i64_w, i32_w]
            rfl
           refine pure_ (i := 7) (N := some 8) (v := ?_) (a' := ?_) #[I,I,I,I,I,I,I,I] rfl rfl (any_of HT_.out (by kernel_rfl)) (fun _ _ _ h => h) (Or.inl ⟨by rfl, ?_⟩) ?_ ?_
           rotate_left
           ·intro w'
            go_simp
            with_reducible rfl
           rotate_left
           ·simp only [Act.put, sTo,sZ,sS, i64_w, i32_w]
            rfl
           refine done_ (done_of HT_.out (by kernel_rfl)) ?_
           have q53 : (x7_1 : Int) ≤ ((l0.length : Int) : Int) := of_decide_eq_true (by first | (with_reducible assumption) | assumption)
           obtain ⟨i053, hi053, _, hsz53, _⟩ := info_parts info29
           have hroom53 : l0.length ≤ c0 := HC0.out
           have hC53 : Kd.C k29 _ (some ad190) l0.length l0 := HR0.out
           have q053 : (0 : Int) ≤ (x7_1 : Int) := of_decide_eq_true (by first | (with_reducible assumption) | assumption)
           have hcut53 := cut_from (P := Tryd.prog) 22 29 .i64 Tryd.underlying22 hi053 3 hsz53 (some ad190) l0.length c0 x7_1 q053 q53
           have hr53 := Kd.C_drop (m := (x7_1 : Int).toNat) (c := c0) hC53 (by omega) hroom53
           obtain ⟨A53, hA53⟩ : ∃ A1, A1 = (if c0 = (x7_1 : Int).toNat then (some ad190) else ((some ad190) : Option Addr).map (·.add ((x7_1 : Int).toNat * 3))) := ⟨_, rfl⟩
           obtain ⟨c53, hc53⟩ : ∃ c1, c1 = c0 - (x7_1 : Int).toNat := ⟨_, rfl⟩
           have hy53 : y205.length = l0.length - (x7_1 : Int).toNat := (by rw [Ny205.out, List.length_drop] <;> omega)
           rw [show (l0).drop (x7_1 : Int).toNat = y205 from Ny205.out.symm] at hr53
           replace hr53 : Kd.C k29 _ A53 y205.length y205 := (by rw [hA53]; exact hr53)
           rw [← hy53, ← hA53, ← hc53] at hcut53
           have HR208 := Aside0.mk hr53
           have HC208 := Aside0.mk (show y205.length ≤ c53 from by rw [hy53, hc53]; exact Nat.sub_le_sub_right hroom53 _)
           clear hr53 hC53 hroom53 hi053 hsz53 hc53
           have KY53 := Aside0.mk hy53
           have KA53 := Aside0.mk hA53
           clear hy53 hA53
           replace q53 := eq_true q53
           try go_wp2_with (first | ((with_reducible refine gate_builtin (b := .append) (xs := #[.tmp 57, .tmp 60]) rfl ?_); at_builtin; refine Kd.R_append_rows k29 (w0 := w) w.heap.size rfl (.tmp 57) (.tmp 60) 22 29 (.agg #[(.string ⟨#[]⟩), (.string ⟨#[]⟩), (.int .i64 0)]) 40 rfl Tryd.underlying22 info29 rfl (by decide) (by omega) v203 y202 y205 _ _ _ (fun k_ => some k_ ≠ (.slice Ao52 y199.length co52 : Value).ownBlock ∧ k_ ≠ gb183) (fun _ => False) rfl rfl ?aO ?aR (fun _ _ h => h) (fun _ h => h.elim) ?aF ?aB ?aS ?aL ?_; (case aR => repeat (first | exact (Kd.C_below HR208.out HB.out) | (with_reducible refine Kd.C_alloc ?_ _) | (with_reducible refine Kd.C_drewN ?_ _) | (with_reducible refine Kd.C_drew ?_))); (case aB => exact (by repeat (first | (with_reducible first | exact HB.out | apply below_alloc | apply pw_below_drewN | apply below_drew1 | refine below_set ?_ GE183.out) | exact HB.out))); (case aF => exact (fun k_ hk => ⟨Kd.fresh' (Kd.R_lt (by (with_reducible repeat (first | apply Kd.R_alloc | apply Kd.R_drewN | apply Kd.R_drew)); exact HO201.out)) k_ hk, Kd.freshB (g := gb183) (o := .cells #[.string a1_0, .string a1_1, .int .i64 a1_2] 29 (0, 0)) (by (with_reducible repeat (first | refine blk_drewN ?_ _ | refine blk_drew ?_ | refine blk_alloc ?_ _)); exact BK183.out) k_ hk⟩)); (case aO => exact (by (with_reducible repeat (first | apply Kd.R_alloc | apply Kd.R_drewN | apply Kd.R_drew)); exact HO204.out)); (case aS => exact (below_size (by repeat (first | (with_reducible first | exact HB.out | apply below_alloc | apply pw_below_drewN | apply below_drew1 | refine below_set ?_ GE183.out) | exact HB.out)))); (case aL => have := LMc42.out; omega); intro v210 w54 ho hb hg hat; rw [← Ny209.out] at ho; have n0_ := Aside0.mk (blk_grown (g := gb183) (o := .cells #[.string a1_0, .string a1_1, .int .i64 a1_2] 29 (0, 0)) (by (with_reducible repeat (first | refine blk_drewN ?_ _ | refine blk_drew ?_ | refine blk_alloc ?_ _)); exact BK183.out) hg (Kd.R_away HO204.out (fun _ hk => hk.2))); have n1_ := Aside0.mk (Kd.R_after (ok := (fun k_ => k_ ≠ gb183)) (by (with_reducible repeat (first | apply Kd.R_alloc | apply Kd.R_drewN | apply Kd.R_drew)); exact HO201.out) hg hat); have n2_ := Aside0.mk (hb); have n3_ := Aside0.mk (ho); clear BK183; clear HO201; clear HB; clear HO204; have BK183 := n0_; have HO201 := n1_; have HB := n2_; have HO211 := n3_; clear n0_ n1_ n2_ n3_; clear ho hb hg hat))
           go_ret3
           exact ⟨_, by first | rfl | (simp [errW_none, errW_some] <;> rfl) | (simp [*, errW_none, errW_some] <;> rfl), by (with_reducible repeat (first | apply Kd.R_alloc | apply Kd.R_drewN | apply Kd.R_drew)); exact Kd.R_mono HO211.out (fun _ hk => trivial), by repeat (first | (with_reducible first | exact HB.out | apply below_alloc | apply pw_below_drewN | apply below_drew1 | refine below_set ?_ GE183.out) | exact HB.out)⟩
          ·rw [if_neg c42] at H
           exact absurd H (by simp)
         ·rw [if_neg c39] at H
          exact absurd H (by simp)
        ·rw [if_neg c37] at H
         exact absurd H (by simp)
      ·rw [if_neg c31] at H
       exact absurd H (by simp)
     ·rw [if_neg c30] at H
      have c30b0 : decide (x7_1 < (l0.length : Int)) = false := decide_eq_false c30
      clear c30
      by_cases c55 : 0 ≤ x7_1
      ·rw [if_pos c55] at H
       have c55b0 := eq_true c55
       have c55b1 : decide (0 ≤ x7_1) = true := decide_eq_true c55
       clear c55
       by_cases c56 : x7_1 ≤ (l0.length : Int)
       ·rw [if_pos c56] at H
        have c56b0 := eq_true c56
        have c56b1 : decide (x7_1 ≤ (l0.length : Int)) = true := decide_eq_true c56
        clear c56
        obtain ⟨y212, hy212⟩ : ∃ y_ : List (S29), y_ = (l0.take (x7_1 : Int).toNat) := ⟨_, rfl⟩
        replace H : ((fairwayref0_CopyGroups.f k1 y212).bind fun t216 => ((some (([(⟨a1_0, a1_1, a1_2⟩ : S29)] : List (S29)) : List (S29))).bind fun y219 => (if t216.length + y219.length < 3518437208883 then ((some (t216 ++ y219 : List (S29))).bind fun y222 => ((some (l0.drop (x7_1 : Int).toNat : List (S29))).bind fun y225 => (if y222.length + y225.length < 3518437208883 then (some ((y222 ++ y225), true, 0)) else (none)))) else (none)))) = some (r1, r2, r3) := by first | (rw [hy212]; with_reducible exact H) | (have H2_ := (Option.bind_some _ _).symm.trans H; rw [hy212]; with_reducible exact H2_) | (have H2_ := (Option.bind_some _ _).symm.trans H; with_reducible exact H2_) | with_reducible exact H | (rw [hy212]; exact H) | exact H
        have Ny212 := Aside0.mk hy212
        clear hy212
        replace H := Option.bind_eq_some_iff.mp H
        obtain ⟨t216, A570, H⟩ := H
        replace H : ((some (([(⟨a1_0, a1_1, a1_2⟩ : S29)] : List (S29)) : List (S29))).bind fun y219 => (if t216.length + y219.length < 3518437208883 then ((some (t216 ++ y219 : List (S29))).bind fun y222 => ((some (l0.drop (x7_1 : Int).toNat : List (S29))).bind fun y225 => (if y222.length + y225.length < 3518437208883 then (some ((y222 ++ y225), true, 0)) else (none)))) else (none))) = some (r1, r2, r3) := H
        have A57 := Aside0.mk A570
        clear A570
        obtain ⟨y219, hy219⟩ : ∃ y_ : List (S29), y_ = (([(⟨a1_0, a1_1, a1_2⟩ : S29)] : List (S29))) := ⟨_, rfl⟩
        replace H : (if t216.length + y219.length < 3518437208883 then ((some (t216 ++ y219 : List (S29))).bind fun y222 => ((some (l0.drop (x7_1 : Int).toNat : List (S29))).bind fun y225 => (if y222.length + y225.length < 3518437208883 then (some ((y222 ++ y225), true, 0)) else (none)))) else (none)) = some (r1, r2, r3) := by first | (rw [hy219]; with_reducible exact H) | (have H2_ := (Option.bind_some _ _).symm.trans H; rw [hy219]; with_reducible exact H2_) | (have H2_ := (Option.bind_some _ _).symm.trans H; with_reducible exact H2_) | with_reducible exact H | (rw [hy219]; exact H) | exact H
        have Ny219 := Aside0.mk hy219
        clear hy219
        by_cases c58 : t216.length + y219.length < 3518437208883
        ·rw [if_pos c58] at H
         have LMc58 := Aside0.mk c58
         clear c58
         obtain ⟨y222, hy222⟩ : ∃ y_ : List (S29), y_ = (t216 ++ y219) := ⟨_, rfl⟩
         replace H : ((some (l0.drop (x7_1 : Int).toNat : List (S29))).bind fun y225 => (if y222.length + y225.length < 3518437208883 then (some ((y222 ++ y225), true, 0)) else (none))) = some (r1, r2, r3) := by first | (rw [hy222]; with_reducible exact H) | (have H2_ := (Option.bind_some _ _).symm.trans H; rw [hy222]; with_reducible exact H2_) | (have H2_ := (Option.bind_some _ _).symm.trans H; with_reducible exact H2_) | with_reducible exact H | (rw [hy222]; exact H) | exact H
         have Ny222 := Aside0.mk hy222
         clear hy222
         have c59b0 := eq_true (of_decide_eq_true (by first | (with_reducible assumption) | assumption) : 0 ≤ x7_1)
         have c60b0 := eq_true (of_decide_eq_true (by first | (with_reducible assumption) | assumption) : x7_1 ≤ (l0.length : Int))
         obtain ⟨y225, hy225⟩ : ∃ y_ : List (S29), y_ = (l0.drop (x7_1 : Int).toNat) := ⟨_, rfl⟩
         replace H : (if y222.length + y225.length < 3518437208883 then (some ((y222 ++ y225), true, 0)) else (none)) = some (r1, r2, r3) := by first | (rw [hy225]; with_reducible exact H) | (have H2_ := (Option.bind_some _ _).symm.trans H; rw [hy225]; with_reducible exact H2_) | (have H2_ := (Option.bind_some _ _).symm.trans H; with_reducible exact H2_) | with_reducible exact H | (rw [hy225]; exact H) | exact H
         have Ny225 := Aside0.mk hy225
         clear hy225
         by_cases c61 : y222.length + y225.length < 3518437208883
         ·rw [if_pos c61] at H
          have LMc61 := Aside0.mk c61
          clear c61
          obtain ⟨y229, hy229⟩ : ∃ y_ : List (S29), y_ = (y222 ++ y225) := ⟨_, rfl⟩
          replace H : (some (y229, true, 0)) = some (r1, r2, r3) := by first | (rw [hy229]; with_reducible exact H) | (have H2_ := (Option.bind_some _ _).symm.trans H; rw [hy229]; with_reducible exact H2_) | (have H2_ := (Option.bind_some _ _).symm.trans H; with_reducible exact H2_) | with_reducible exact H | (rw [hy229]; exact H) | exact H
          have Ny229 := Aside0.mk hy229
          clear hy229
          simp only [Option.some.injEq, Prod.mk.injEq] at H
          obtain ⟨rfl, rfl, rfl⟩ := H
          try go_wp2
          have n0_ := Aside0.mk (blk_drew BK183.out)
          have n1_ := Aside0.mk (below_drew1 HB.out)
          clear BK183
          clear HB
          have BK183 := n0_
          have HB := n1_
          clear n0_ n1_
          refine start_ (n := 12) (S := fun w' => True) (ds := []) #[O,O,O,O,O,O,O,O,O,O,O,O] (by kernel_rfl) rfl rfl trivial (fun hHeld => ?_); refine with_tabW fairwayref17_Commit.tab11 fairwayref17_Commit.bits11 (fun HT_ HW_ => ?_)
          generalize wr.drew = w62 at BK183 HB hHeld ⊢
          refine pure_ (i := 0) (N := some 36) (v := ?_) (a' := ?_) #[I,O,O,O,O,O,O,O,O,O,O,O] rfl rfl (any_of HT_.out (by kernel_rfl)) (fun _ _ _ h => h) (Or.inl ⟨by rfl, ?_⟩) ?_ ?_
          rotate_left
          ·intro w'
           go_simp
           with_reducible rfl
          rotate_left
          ·simp only [Act.put, sTo,sZ,sS, i64_w, i32_w]
           rfl
          refine pure_ (i := 1) (N := some 37) (v := ?_) (a' := ?_) #[I,I,O,O,O,O,O,O,O,O,O,O] rfl rfl (any_of HT_.out (by kernel_rfl)) (fun _ _ _ h => h) (Or.inl ⟨by rfl, ?_⟩) ?_ ?_
          rotate_left
          ·intro w'
           go_simp
           with_reducible rfl
          rotate_left
          ·simp only [Act.put, sTo,sZ,sS, i64_w, i32_w]
           rfl
          refine pure_ (i := 2) (N := some 38) (v := ?_) (a' := ?_) #[I,I,I,O,O,O,O,O,O,O,O,O] rfl rfl (any_of HT_.out (by kernel_rfl)) (fun _ _ _ h => h) (Or.inl ⟨by rfl, ?_⟩) ?_ ?_
          rotate_left
          ·intro w'
           go_simp
           with_reducible rfl
          rotate_left
          ·simp only [Act.put, sTo,sZ,sS, i64_w, i32_w]
           rfl
          refine pure_ (i := 3) (N := some 39) (v := ?_) (a' := ?_) #[I,I,I,I,O,O,O,O,O,O,O,O] rfl rfl (any_of HT_.out (by kernel_rfl)) (fun _ _ _ h => h) (Or.inl ⟨by rfl, ?_⟩) ?_ ?_
          rotate_left
          ·intro w'
           go_simp
           with_reducible rfl
          rotate_left
          ·simp only [Act.put, sTo,sZ,sS, i64_w, i32_w]
           rfl
          refine pure_ (i := 4) (N := some 40) (v := ?_) (a' := ?_) #[I,I,I,I,I,O,O,O,O,O,O,O] rfl rfl (any_of HT_.out (by kernel_rfl)) (fun _ _ _ h => h) (Or.inl ⟨by rfl, ?_⟩) ?_ ?_
          rotate_left
          ·intro w'
           go_simp
           with_reducible rfl
          rotate_left
          ·simp only [Act.put, sTo,sZ,sS, i64_w, i32_w]
           rfl
          refine pure_ (i := 5) (N := some 41) (v := undef) (a' := ?_) #[I,I,I,I,I,I,O,O,O,O,O,O] rfl rfl (any_of HT_.out (by kernel_rfl)) (fun _ _ _ h => h) (Or.inr ⟨by rfl, rfl⟩) ?_ ?_
          rotate_left
          ·simp only [Act.put, sTo,sZ,sS, i64_w, i32_w]
           rfl
          refine pure_ (i := 6) (N := some 42) (v := undef) (a' := ?_) #[I,I,I,I,I,I,I,O,O,O,O,O] rfl rfl (any_of HT_.out (by kernel_rfl)) (fun _ _ _ h => h) (Or.inr ⟨by rfl, rfl⟩) ?_ ?_
          rotate_left
          ·simp only [Act.put, sTo,sZ,sS, i64_w, i32_w]
           rfl
          refine pure_ (i := 7) (N := some 43) (v := undef) (a' := ?_) #[I,I,I,I,I,I,I,I,O,O,O,O] rfl rfl (any_of HT_.out (by kernel_rfl)) (fun _ _ _ h => h) (Or.inr ⟨by rfl, rfl⟩) ?_ ?_
          rotate_left
          ·simp only [Act.put, sTo,sZ,sS, i64_w, i32_w]
           rfl
          refine pure_ (i := 8) (N := some 44) (v := undef) (a' := ?_) #[I,I,I,I,I,I,I,I,I,O,O,O] rfl rfl (any_of HT_.out (by kernel_rfl)) (fun _ _ _ h => h) (Or.inr ⟨by rfl, rfl⟩) ?_ ?_
          rotate_left
          ·simp only [Act.put, sTo,sZ,sS, i64_w, i32_w]
           rfl
          refine pure_ (i := 9) (N := some 45) (v := undef) (a' := ?_) #[I,I,I,I,I,I,I,I,I,I,O,O] rfl rfl (any_of HT_.out (by kernel_rfl)) (fun _ _ _ h => h) (Or.inr ⟨by rfl, rfl⟩) ?_ ?_
          rotate_left
          ·simp only [Act.put, sTo,sZ,sS, i64_w, i32_w]
           rfl
          refine pure_ (i := 10) (N := some 46) (v := undef) (a' := ?_) #[I,I,I,I,I,I,I,I,I,I,I,O] rfl rfl (any_of HT_.out (by kernel_rfl)) (fun _ _ _ h => h) (Or.inr ⟨by rfl, rfl⟩) ?_ ?_
          rotate_left
          ·simp only [Act.put, sTo,sZ,sS, i64_w, i32_w]
           rfl
          refine pure_ (i := 11) (N := some 47) (v := ?_) (a' := ?_) #[I,I,I,I,I,I,I,I,I,I,I,I] rfl rfl (any_of HT_.out (by kernel_rfl)) (fun _ _ _ h => h) (Or.inl ⟨by rfl, ?_⟩) ?_ ?_
          rotate_left
          ·intro w'
           go_simp
           with_reducible rfl
          rotate_left
          ·simp only [Act.put, sTo,sZ,sS, i64_w, i32_w]
           rfl
          refine done_ (done_of HT_.out (by kernel_rfl)) ?_
          try go_wp2
          have n0_ := Aside0.mk (blk_drew BK183.out)
          have n1_ := Aside0.mk (below_drew1 HB.out)
          clear BK183
          clear HB
          have BK183 := n0_
          have HB := n1_
          clear n0_ n1_
          have q64 : (x7_1 : Int) ≤ ((l0.length : Int) : Int) := of_decide_eq_true (by first | (with_reducible assumption) | assumption)
          obtain ⟨i064, hi064, _, hsz64, _⟩ := info_parts info29
          have hroom64 : l0.length ≤ c0 := HC0.out
          have hC64 : Kd.C k29 _ A0 l0.length l0 := HR0.out
          have hcut64 := cut_to (P := Tryd.prog) 22 29 .i64 Tryd.underlying22 hi064 A0 l0.length c0 x7_1 (of_decide_eq_true (by first | (with_reducible assumption) | assumption)) q64 hroom64
          have hr64 := Kd.C_take (m := (x7_1 : Int).toNat) hC64 (by omega)
          have hy64 : y212.length = (x7_1 : Int).toNat := (by rw [Ny212.out, List.length_take]; omega)
          rw [← Ny212.out] at hr64
          rw [← hy64] at hcut64
          have HR215 := Aside0.mk hr64
          have HC215 := Aside0.mk (show y212.length ≤ c0 from by omega)
          clear hr64 hC64 hroom64 hi064 hsz64
          have KY64 := Aside0.mk hy64
          clear hy64
          replace q64 := eq_true q64
          refine start_ (n := 8) (S := fun w' => w'.cell? ⟨gb183, 0, none⟩ = some (.string a1_0) ∧ w'.cell? ⟨gb183, 1, none⟩ = some (.string a1_1) ∧ w'.cell? ⟨gb183, 2, none⟩ = some (.int .i64 a1_2)) (ds := []) #[O,O,O,O,O,O,O,O] (by kernel_rfl) rfl rfl ⟨(blk_cell BK183.out 0).trans rfl, (blk_cell BK183.out 1).trans rfl, (blk_cell BK183.out 2).trans rfl⟩ (fun hHeld => ?_); refine with_tabW fairwayref17_Commit.tab13 fairwayref17_Commit.bits13 (fun HT_ HW_ => ?_)
          generalize w62.drew = w63 at BK183 HB HR215 hHeld ⊢
          refine pure_ (i := 0) (N := some 50) (v := ?_) (a' := ?_) #[I,O,O,O,O,O,O,O] rfl rfl (any_of HT_.out (by kernel_rfl)) (fun _ _ _ h => h) (Or.inl ⟨by rfl, ?_⟩) ?_ ?_
          rotate_left
          ·intro w'
           go_simp
           with_reducible rfl
          rotate_left
          ·simp only [Act.put, sTo,sZ,sS, i64_w, i32_w]
           rfl
          refine pure_ (i := 1) (N := some 51) (v := ?_) (a' := ?_) #[I,I,O,O,O,O,O,O] rfl rfl (any_of HT_.out (by kernel_rfl)) (fun _ _ _ h => h) (Or.inl ⟨by rfl, ?_⟩) ?_ ?_
          rotate_left
          ·intro w'
           go_simp
           with_reducible rfl
          rotate_left
          ·simp only [Act.put, sTo,sZ,sS, i64_w, i32_w]
           rfl
          refine pure_ (i := 2) (N := some 52) (v := ?_) (a' := ?_) #[I,I,I,O,O,O,O,O] rfl rfl (any_of HT_.out (by kernel_rfl)) (fun _ _ _ h => h) (Or.inl ⟨by rfl, ?_⟩) ?_ ?_
          rotate_left
          ·intro w'
           go_simp
           with_reducible rfl
          rotate_left
          ·simp only [Act.put, sTo,sZ,sS, i64_w, i32_w]
           rfl
          refine take_ (i := 4) (N := some 54) (v := ?_) (a' := ?_) #[I,I,I,O,I,O,O,O] rfl rfl (take_ofW HT_.out HW_.out (by kernel_rfl)) (fun _ _ _ h => h) (Or.inl ⟨by rfl, ?_⟩) hHeld ?_ ?_
          rotate_left
          ·rintro w' ⟨s0, s1, s2⟩
           go_simp
           with_reducible rfl
          rotate_left
          ·simp only [Act.put, sTo,sZ,sS, i64_w, i32_w]
           rfl
          refine join_ (σ := Value × Value) 2 #[I,I,I,I,I,I,O,O] (fun s_ => [(53, s_.1), (55, s_.2)]) (fun s_ w' => (w'.cell? ⟨gb183, 0, none⟩ = some (.string a1_0) ∧ w'.cell? ⟨gb183, 1, none⟩ = some (.string a1_1) ∧ w'.cell? ⟨gb183, 2, none⟩ = some (.int .i64 a1_2)) ∧ (Kd.R k29 29 w' w.heap.size (fun k_ => some k_ ≠ (s_.2 : Value).ownBlock ∧ k_ ≠ gb183) s_.1 t216) ∧ (Kd.R k29 29 w' w.heap.size (fun k_ => some k_ ≠ (s_.1 : Value).ownBlock ∧ k_ ≠ gb183) s_.2 y219) ∧ (w'.heap[gb183]? = some (.cells #[.string a1_0, .string a1_1, .int .i64 a1_2] 29 (0, 0))) ∧ (Below w.heap.size w w')) ?_ ?_
          rotate_left
          ·intro hCont
           refine two_ (i := 3) (j := 5) (Ni := some 53) (Nj := some 55) #[I,I,I,I,I,O,O,O] #[I,I,I,O,I,I,O,O] rfl rfl rfl rfl (two_of HT_.out (by kernel_rfl)) (by decide) (by decide) (fun K hK => ?_) (fun K hK => ?_)
           ·skip
            refine goes_ Tryd.func7 (by kernel_rfl) rfl #[.slice A0 y212.length c0] (by rfl) rfl rfl (by (try simp only [List.map_toArray, List.map_cons, List.map_nil]); first | done | rfl | (simp only [List.length_drop, List.length_take]; rfl)) ?_
            with_reducible refine (fairwayref0_CopyGroups.calls k1 _ _ y212 t216 _ ?side1 ?side2 A57.out).mono ?_
            (case side1 => repeat (first | exact (Kd.C_below HR215.out HB.out) | (with_reducible refine Kd.C_alloc ?_ _) | (with_reducible refine Kd.C_drewN ?_ _) | (with_reducible refine Kd.C_drew ?_)))
            (case side2 => exact HC215.out)
            rintro e w65 ⟨v217, rfl, ho0, hb⟩
            refine ⟨_, rfl, ?_⟩
            have n0_ := Aside0.mk (Kd.R_lower (Kd.R_newB ho0 (g := gb183) (o := .cells #[.string a1_0, .string a1_1, .int .i64 a1_2] 29 (0, 0)) (by (with_reducible repeat (first | refine blk_drewN ?_ _ | refine blk_drew ?_ | refine blk_alloc ?_ _)); exact BK183.out)) (below_size (by repeat (first | (with_reducible first | exact HB.out | apply below_alloc | apply pw_below_drewN | apply below_drew1 | refine below_set ?_ GE183.out) | exact HB.out))))
            have n1_ := Aside0.mk (blk_below (g := gb183) (o := .cells #[.string a1_0, .string a1_1, .int .i64 a1_2] 29 (0, 0)) (by (with_reducible repeat (first | refine blk_drewN ?_ _ | refine blk_drew ?_ | refine blk_alloc ?_ _)); exact BK183.out) hb)
            have n2_ := Aside0.mk (below_step (by repeat (first | (with_reducible first | exact HB.out | apply below_alloc | apply pw_below_drewN | apply below_drew1 | refine below_set ?_ GE183.out) | exact HB.out)) hb)
            clear BK183
            clear HB
            have HO218 := n0_
            have BK183 := n1_
            have HB := n2_
            clear n0_ n1_ n2_
            (try clear hb)
            (try clear hb2)
            (try clear hk)
            (try clear hi)
            (try clear ho0)
            refine hK.out _ _ ⟨(blk_cell BK183.out 0).trans rfl, (blk_cell BK183.out 1).trans rfl, (blk_cell BK183.out 2).trans rfl⟩ (fun hHeld => ?_)
            clear hK K
            refine norm_ (a' := ?_) ?_ ?_
            rotate_left
            ·show Act.put _ (some 53) _ = _
             simp only [Act.put, sTo,sZ,sS, i64_w, i32_w]
             rfl
            refine one_ (i := 5) (N := some 55) #[I,I,I,I,I,I,O,O] rfl rfl (one_of HT_.out (by kernel_rfl)) (by decide) (fun K hK => ?_)
            refine Kd.R_lit_step k29 _ 29 ?hg (N := 55) ?hd (xs := ([(⟨a1_0, a1_1, a1_2⟩ : S29)] : List (S29))) (inner := [.string a1_0, .string a1_1, .int .i64 a1_2]) (ok := fun _ => True) (okp := fun _ => True) ?hr ?hp (fun _ hk => hk) trivial (Below.refl _ _) (Nat.le_refl _) (by simp) ?_; (case hd => rfl); (case hg => rfl); (case hr => first | (go_simp; done) | (go_simp; rfl)); (case hp => exact (Reps.c3 (show Kd.M k29 _ _ _ (⟨a1_0, a1_1, a1_2⟩ : S29) [.string a1_0, .string a1_1, .int .i64 a1_2] from (k29_mkM _ _ _ (⟨a1_0, a1_1, a1_2⟩ : S29) )) (Reps.none _ _)))
            intro v220 w66 ho67 hb hg_ hnew_
            clear hg_ hnew_
            (first | rw [← Ny219.out] at ho67 | (simp only [Int.reduceToNat] at ho67; rw [← Ny219.out] at ho67))
            have n0_ := Aside0.mk (Kd.R_elder' (by (with_reducible repeat (first | apply Kd.R_alloc | apply Kd.R_drewN | apply Kd.R_drew)); exact HO218.out) (Kd.R_base ho67) hb)
            have n1_ := Aside0.mk (Kd.R_lower (Kd.R_newB (Kd.R_new' ho67 (Kd.R_lt (by (with_reducible repeat (first | apply Kd.R_alloc | apply Kd.R_drewN | apply Kd.R_drew)); exact HO218.out))) (g := gb183) (o := .cells #[.string a1_0, .string a1_1, .int .i64 a1_2] 29 (0, 0)) (by (with_reducible repeat (first | refine blk_drewN ?_ _ | refine blk_drew ?_ | refine blk_alloc ?_ _)); exact BK183.out)) (below_size (by repeat (first | (with_reducible first | exact HB.out | apply below_alloc | apply pw_below_drewN | apply below_drew1 | refine below_set ?_ GE183.out) | exact HB.out))))
            have n2_ := Aside0.mk (blk_below (g := gb183) (o := .cells #[.string a1_0, .string a1_1, .int .i64 a1_2] 29 (0, 0)) (by (with_reducible repeat (first | refine blk_drewN ?_ _ | refine blk_drew ?_ | refine blk_alloc ?_ _)); exact BK183.out) hb)
            have n3_ := Aside0.mk (below_step (by repeat (first | (with_reducible first | exact HB.out | apply below_alloc | apply pw_below_drewN | apply below_drew1 | refine below_set ?_ GE183.out) | exact HB.out)) hb)
            clear HO218
            clear BK183
            clear HB
            have HO218 := n0_
            have HO221 := n1_
            have BK183 := n2_
            have HB := n3_
            clear n0_ n1_ n2_ n3_
            clear hb ho67
            refine hK.out _ _ ⟨(blk_cell BK183.out 0).trans rfl, (blk_cell BK183.out 1).trans rfl, (blk_cell BK183.out 2).trans rfl⟩ (fun hHeld => ?_)
            clear hK K
            refine norm_ (a' := ?_) ?_ ?_
            rotate_left
            ·show Act.put _ (some 55) _ = _
             simp only [Act.put, sTo,sZ,sS, i64_w, i32_w]
             rfl
            exact norm_ (by simp only [putAll, Act.put, sTo,sZ,sS]) (hCont (v217, v220) _ ⟨hHeld, (by (with_reducible repeat (first | apply Kd.R_alloc | apply Kd.R_drewN | apply Kd.R_drew)); exact Kd.R_mono HO218.out (fun _ hk => ⟨hk.2, hk.1.2⟩)), (by (with_reducible repeat (first | apply Kd.R_alloc | apply Kd.R_drewN | apply Kd.R_drew)); exact Kd.R_mono HO221.out (fun _ hk => ⟨hk.1.2, hk.2⟩)), (by (with_reducible repeat (first | refine blk_drewN ?_ _ | refine blk_drew ?_ | refine blk_alloc ?_ _)); exact BK183.out), (by repeat (first | (with_reducible first | exact HB.out | apply below_alloc | apply pw_below_drewN | apply below_drew1 | refine below_set ?_ GE183.out) | exact HB.out))⟩)
           ·skip
            refine Kd.R_lit_step k29 _ 29 ?hg (N := 55) ?hd (xs := ([(⟨a1_0, a1_1, a1_2⟩ : S29)] : List (S29))) (inner := [.string a1_0, .string a1_1, .int .i64 a1_2]) (ok := fun _ => True) (okp := fun _ => True) ?hr ?hp (fun _ hk => hk) trivial (Below.refl _ _) (Nat.le_refl _) (by simp) ?_; (case hd => rfl); (case hg => rfl); (case hr => first | (go_simp; done) | (go_simp; rfl)); (case hp => exact (Reps.c3 (show Kd.M k29 _ _ _ (⟨a1_0, a1_1, a1_2⟩ : S29) [.string a1_0, .string a1_1, .int .i64 a1_2] from (k29_mkM _ _ _ (⟨a1_0, a1_1, a1_2⟩ : S29) )) (Reps.none _ _)))
            intro v220 w65 ho66 hb hg_ hnew_
            clear hg_ hnew_
            (first | rw [← Ny219.out] at ho66 | (simp only [Int.reduceToNat] at ho66; rw [← Ny219.out] at ho66))
            have n0_ := Aside0.mk (Kd.R_lower (Kd.R_newB ho66 (g := gb183) (o := .cells #[.string a1_0, .string a1_1, .int .i64 a1_2] 29 (0, 0)) (by (with_reducible repeat (first | refine blk_drewN ?_ _ | refine blk_drew ?_ | refine blk_alloc ?_ _)); exact BK183.out)) (below_size (by repeat (first | (with_reducible first | exact HB.out | apply below_alloc | apply pw_below_drewN | apply below_drew1 | refine below_set ?_ GE183.out) | exact HB.out))))
            have n1_ := Aside0.mk (blk_below (g := gb183) (o := .cells #[.string a1_0, .string a1_1, .int .i64 a1_2] 29 (0, 0)) (by (with_reducible repeat (first | refine blk_drewN ?_ _ | refine blk_drew ?_ | refine blk_alloc ?_ _)); exact BK183.out) hb)
            have n2_ := Aside0.mk (below_step (by repeat (first | (with_reducible first | exact HB.out | apply below_alloc | apply pw_below_drewN | apply below_drew1 | refine below_set ?_ GE183.out) | exact HB.out)) hb)
            clear BK183
            clear HB
            have HO221 := n0_
            have BK183 := n1_
            have HB := n2_
            clear n0_ n1_ n2_
            clear hb ho66
            refine hK.out _ _ ⟨(blk_cell BK183.out 0).trans rfl, (blk_cell BK183.out 1).trans rfl, (blk_cell BK183.out 2).trans rfl⟩ (fun hHeld => ?_)
            clear hK K
            refine norm_ (a' := ?_) ?_ ?_
            rotate_left
            ·show Act.put _ (some 55) _ = _
             simp only [Act.put, sTo,sZ,sS, i64_w, i32_w]
             rfl
            refine one_ (i := 3) (N := some 53) #[I,I,I,I,I,I,O,O] rfl rfl (one_of HT_.out (by kernel_rfl)) (by decide) (fun K hK => ?_)
            refine goes_ Tryd.func7 (by kernel_rfl) rfl #[.slice A0 y212.length c0] (by rfl) rfl rfl (by (try simp only [List.map_toArray, List.map_cons, List.map_nil]); first | done | rfl | (simp only [List.length_drop, List.length_take]; rfl)) ?_
            with_reducible refine (fairwayref0_CopyGroups.calls k1 _ _ y212 t216 _ ?side1 ?side2 A57.out).mono ?_
            (case side1 => repeat (first | exact (Kd.C_below HR215.out HB.out) | (with_reducible refine Kd.C_alloc ?_ _) | (with_reducible refine Kd.C_drewN ?_ _) | (with_reducible refine Kd.C_drew ?_)))
            (case side2 => exact HC215.out)
            rintro e w67 ⟨v217, rfl, ho0, hb⟩
            refine ⟨_, rfl, ?_⟩
            have n0_ := Aside0.mk (Kd.R_elder' (by (with_reducible repeat (first | apply Kd.R_alloc | apply Kd.R_drewN | apply Kd.R_drew)); exact HO221.out) (Kd.R_base ho0) hb)
            have n1_ := Aside0.mk (Kd.R_lower (Kd.R_newB (Kd.R_new' ho0 (Kd.R_lt (by (with_reducible repeat (first | apply Kd.R_alloc | apply Kd.R_drewN | apply Kd.R_drew)); exact HO221.out))) (g := gb183) (o := .cells #[.string a1_0, .string a1_1, .int .i64 a1_2] 29 (0, 0)) (by (with_reducible repeat (first | refine blk_drewN ?_ _ | refine blk_drew ?_ | refine blk_alloc ?_ _)); exact BK183.out)) (below_size (by repeat (first | (with_reducible first | exact HB.out | apply below_alloc | apply pw_below_drewN | apply below_drew1 | refine below_set ?_ GE183.out) | exact HB.out))))
            have n2_ := Aside0.mk (blk_below (g := gb183) (o := .cells #[.string a1_0, .string a1_1, .int .i64 a1_2] 29 (0, 0)) (by (with_reducible repeat (first | refine blk_drewN ?_ _ | refine blk_drew ?_ | refine blk_alloc ?_ _)); exact BK183.out) hb)
            have n3_ := Aside0.mk (below_step (by repeat (first | (with_reducible first | exact HB.out | apply below_alloc | apply pw_below_drewN | apply below_drew1 | refine below_set ?_ GE183.out) | exact HB.out)) hb)
            clear HO221
            clear BK183
            clear HB
            have HO221 := n0_
            have HO218 := n1_
            have BK183 := n2_
            have HB := n3_
            clear n0_ n1_ n2_ n3_
            (try clear hb)
            (try clear hb2)
            (try clear hk)
            (try clear hi)
            (try clear ho0)
            refine hK.out _ _ ⟨(blk_cell BK183.out 0).trans rfl, (blk_cell BK183.out 1).trans rfl, (blk_cell BK183.out 2).trans rfl⟩ (fun hHeld => ?_)
            clear hK K
            refine norm_ (a' := ?_) ?_ ?_
            rotate_left
            ·show Act.put _ (some 53) _ = _
             simp only [Act.put, sTo,sZ,sS, i64_w, i32_w]
             rfl
            exact norm_ (by simp only [putAll, Act.put, sTo,sZ,sS]) (hCont (v217, v220) _ ⟨hHeld, (by (with_reducible repeat (first | apply Kd.R_alloc | apply Kd.R_drewN | apply Kd.R_drew)); exact Kd.R_mono HO218.out (fun _ hk => ⟨hk.1.2, hk.2⟩)), (by (with_reducible repeat (first | apply Kd.R_alloc | apply Kd.R_drewN | apply Kd.R_drew)); exact Kd.R_mono HO221.out (fun _ hk => ⟨hk.2, hk.1.2⟩)), (by (with_reducible repeat (first | refine blk_drewN ?_ _ | refine blk_drew ?_ | refine blk_alloc ?_ _)); exact BK183.out), (by repeat (first | (with_reducible first | exact HB.out | apply below_alloc | apply pw_below_drewN | apply below_drew1 | refine below_set ?_ GE183.out) | exact HB.out))⟩)
          rintro ⟨v217, v220⟩ w68 ⟨hS_, h0_, h1_, h2_, h3_⟩
          have n0_ : Aside0 (Kd.R k29 29 w68 w.heap.size (fun k_ => some k_ ≠ (v220 : Value).ownBlock ∧ k_ ≠ gb183) v217 t216) := ⟨h0_⟩
          have n1_ : Aside0 (Kd.R k29 29 w68 w.heap.size (fun k_ => some k_ ≠ (v217 : Value).ownBlock ∧ k_ ≠ gb183) v220 y219) := ⟨h1_⟩
          have n2_ : Aside0 (w68.heap[gb183]? = some (.cells #[.string a1_0, .string a1_1, .int .i64 a1_2] 29 (0, 0))) := ⟨h2_⟩
          have n3_ : Aside0 (Below w.heap.size w w68) := ⟨h3_⟩
          clear BK183
          clear HB
          clear h0_ h1_ h2_ h3_
          have HO218 := n0_
          have HO221 := n1_
          have BK183 := n2_
          have HB := n3_
          clear n0_ n1_ n2_ n3_
          have hHeld : w68.cell? ⟨gb183, 0, none⟩ = some (.string a1_0) ∧ w68.cell? ⟨gb183, 1, none⟩ = some (.string a1_1) ∧ w68.cell? ⟨gb183, 2, none⟩ = some (.int .i64 a1_2) := hS_
          obtain ⟨Ao70, co70, eo70⟩ := Kd.R_slice HO221.out
          (first | subst eo70 | (injection eo70 with f1_ f2_ f3_; have f4_ := f1_.symm; have f5_ := f3_.symm; clear f1_ f2_ f3_; subst f4_; subst f5_))
          refine norm_ (a' := ?_) ?_ ?_
          rotate_left
          ·simp only [putAll, Act.put, sTo,sZ,sS]
           rfl
          refine one_ (i := 6) (N := some 56) #[I,I,I,I,I,I,I,O] rfl rfl (one_of HT_.out (by kernel_rfl)) (by decide) (fun K hK => ?_)
          refine Kd.R_append_rows_step k29 (w0 := w) w.heap.size (by rfl) (.tmp 53) (.tmp 55) 22 29 (.agg #[(.string ⟨#[]⟩), (.string ⟨#[]⟩), (.int .i64 0)]) 40 rfl Tryd.underlying22 info29 rfl (by decide) (by omega) v217 t216 y219 _ _ _ (fun k_ => some k_ ≠ (.slice Ao70 y219.length co70 : Value).ownBlock ∧ k_ ≠ gb183) (fun _ => False) rfl rfl ?aO ?aR (fun _ _ h => h) (fun _ h => h.elim) ?aF ?aB ?aS ?aL ?_
          (case aR => repeat (first | exact (Kd.R_reads' HO221.out).2.2 | (with_reducible refine Kd.C_alloc ?_ _) | (with_reducible refine Kd.C_drewN ?_ _) | (with_reducible refine Kd.C_drew ?_)))
          (case aB => exact (by repeat (first | (with_reducible first | exact HB.out | apply below_alloc | apply pw_below_drewN | apply below_drew1 | refine below_set ?_ GE183.out) | exact HB.out)))
          (case aF => exact (fun k_ hk => ⟨Kd.fresh' (Kd.R_lt (by (with_reducible repeat (first | apply Kd.R_alloc | apply Kd.R_drewN | apply Kd.R_drew)); exact HO221.out)) k_ hk, Kd.freshB (g := gb183) (o := .cells #[.string a1_0, .string a1_1, .int .i64 a1_2] 29 (0, 0)) (by (with_reducible repeat (first | refine blk_drewN ?_ _ | refine blk_drew ?_ | refine blk_alloc ?_ _)); exact BK183.out) k_ hk⟩))
          (case aO => exact (by (with_reducible repeat (first | apply Kd.R_alloc | apply Kd.R_drewN | apply Kd.R_drew)); exact HO218.out))
          (case aS => exact (below_size (by repeat (first | (with_reducible first | exact HB.out | apply below_alloc | apply pw_below_drewN | apply below_drew1 | refine below_set ?_ GE183.out) | exact HB.out))))
          (case aL => have := LMc58.out; omega)
          intro v223 w69 ho hb hg hat
          rw [← Ny222.out] at ho
          have n0_ := Aside0.mk (blk_grown (g := gb183) (o := .cells #[.string a1_0, .string a1_1, .int .i64 a1_2] 29 (0, 0)) (by (with_reducible repeat (first | refine blk_drewN ?_ _ | refine blk_drew ?_ | refine blk_alloc ?_ _)); exact BK183.out) hg (Kd.R_away HO218.out (fun _ hk => hk.2)))
          have n1_ := Aside0.mk (Kd.R_after (ok := (fun k_ => k_ ≠ gb183)) (by (with_reducible repeat (first | apply Kd.R_alloc | apply Kd.R_drewN | apply Kd.R_drew)); exact Kd.R_mono HO221.out (fun _ hk => ⟨hk.2, hk.1⟩)) hg hat)
          have n2_ := Aside0.mk (hb)
          have n3_ := Aside0.mk (ho)
          clear BK183
          clear HO221
          clear HB
          clear HO218
          have BK183 := n0_
          have HO221 := n1_
          have HB := n2_
          have HO224 := n3_
          clear n0_ n1_ n2_ n3_
          clear ho hb hg hat
          refine hK.out _ _ ⟨(blk_cell BK183.out 0).trans rfl, (blk_cell BK183.out 1).trans rfl, (blk_cell BK183.out 2).trans rfl⟩ (fun hHeld => ?_)
          clear hK K
          refine norm_ (a' := ?_) ?_ ?_
          rotate_left
          ·show Act.put _ (some 56) _ = _
           simp only [Act.put, sTo,sZ,sS, i64_w, i32_w]
           rfl
          refine pure_ (i := 7) (N := some 8) (v := ?_) (a' := ?_) #[I,I,I,I,I,I,I,I] rfl rfl (any_of HT_.out (by kernel_rfl)) (fun _ _ _ h => h) (Or.inl ⟨by rfl, ?_⟩) ?_ ?_
          rotate_left
          ·intro w'
           go_simp
           with_reducible rfl
          rotate_left
          ·simp only [Act.put, sTo,sZ,sS, i64_w, i32_w]
           rfl
          refine done_ (done_of HT_.out (by kernel_rfl)) ?_
          have q71 : (x7_1 : Int) ≤ ((l0.length : Int) : Int) := of_decide_eq_true (by first | (with_reducible assumption) | assumption)
          obtain ⟨i071, hi071, _, hsz71, _⟩ := info_parts info29
          have hroom71 : l0.length ≤ c0 := HC0.out
          have hC71 : Kd.C k29 _ A0 l0.length l0 := HR0.out
          have q071 : (0 : Int) ≤ (x7_1 : Int) := of_decide_eq_true (by first | (with_reducible assumption) | assumption)
          have hcut71 := cut_from (P := Tryd.prog) 22 29 .i64 Tryd.underlying22 hi071 3 hsz71 A0 l0.length c0 x7_1 q071 q71
          have hr71 := Kd.C_drop (m := (x7_1 : Int).toNat) (c := c0) hC71 (by omega) hroom71
          obtain ⟨A71, hA71⟩ : ∃ A1, A1 = (if c0 = (x7_1 : Int).toNat then A0 else (A0 : Option Addr).map (·.add ((x7_1 : Int).toNat * 3))) := ⟨_, rfl⟩
          obtain ⟨c71, hc71⟩ : ∃ c1, c1 = c0 - (x7_1 : Int).toNat := ⟨_, rfl⟩
          have hy71 : y225.length = l0.length - (x7_1 : Int).toNat := (by rw [Ny225.out, List.length_drop] <;> omega)
          rw [show (l0).drop (x7_1 : Int).toNat = y225 from Ny225.out.symm] at hr71
          replace hr71 : Kd.C k29 _ A71 y225.length y225 := (by rw [hA71]; exact hr71)
          rw [← hy71, ← hA71, ← hc71] at hcut71
          have HR228 := Aside0.mk hr71
          have HC228 := Aside0.mk (show y225.length ≤ c71 from by rw [hy71, hc71]; exact Nat.sub_le_sub_right hroom71 _)
          clear hr71 hC71 hroom71 hi071 hsz71 hc71
          have KY71 := Aside0.mk hy71
          have KA71 := Aside0.mk hA71
          clear hy71 hA71
          replace q71 := eq_true q71
          try go_wp2_with (first | ((with_reducible refine gate_builtin (b := .append) (xs := #[.tmp 57, .tmp 60]) rfl ?_); at_builtin; refine Kd.R_append_rows k29 (w0 := w) w.heap.size rfl (.tmp 57) (.tmp 60) 22 29 (.agg #[(.string ⟨#[]⟩), (.string ⟨#[]⟩), (.int .i64 0)]) 40 rfl Tryd.underlying22 info29 rfl (by decide) (by omega) v223 y222 y225 _ _ _ (fun k_ => some k_ ≠ (.slice Ao70 y219.length co70 : Value).ownBlock ∧ k_ ≠ gb183) (fun _ => False) rfl rfl ?aO ?aR (fun _ _ h => h) (fun _ h => h.elim) ?aF ?aB ?aS ?aL ?_; (case aR => repeat (first | exact (Kd.C_below HR228.out HB.out) | (with_reducible refine Kd.C_alloc ?_ _) | (with_reducible refine Kd.C_drewN ?_ _) | (with_reducible refine Kd.C_drew ?_))); (case aB => exact (by repeat (first | (with_reducible first | exact HB.out | apply below_alloc | apply pw_below_drewN | apply below_drew1 | refine below_set ?_ GE183.out) | exact HB.out))); (case aF => exact (fun k_ hk => ⟨Kd.fresh' (Kd.R_lt (by (with_reducible repeat (first | apply Kd.R_alloc | apply Kd.R_drewN | apply Kd.R_drew)); exact HO221.out)) k_ hk, Kd.freshB (g := gb183) (o := .cells #[.string a1_0, .string a1_1, .int .i64 a1_2] 29 (0, 0)) (by (with_reducible repeat (first | refine blk_drewN ?_ _ | refine blk_drew ?_ | refine blk_alloc ?_ _)); exact BK183.out) k_ hk⟩)); (case aO => exact (by (with_reducible repeat (first | apply Kd.R_alloc | apply Kd.R_drewN | apply Kd.R_drew)); exact HO224.out)); (case aS => exact (below_size (by repeat (first | (with_reducible first | exact HB.out | apply below_alloc | apply pw_below_drewN | apply below_drew1 | refine below_set ?_ GE183.out) | exact HB.out)))); (case aL => have := LMc61.out; omega); intro v230 w72 ho hb hg hat; rw [← Ny229.out] at ho; have n0_ := Aside0.mk (blk_grown (g := gb183) (o := .cells #[.string a1_0, .string a1_1, .int .i64 a1_2] 29 (0, 0)) (by (with_reducible repeat (first | refine blk_drewN ?_ _ | refine blk_drew ?_ | refine blk_alloc ?_ _)); exact BK183.out) hg (Kd.R_away HO224.out (fun _ hk => hk.2))); have n1_ := Aside0.mk (Kd.R_after (ok := (fun k_ => k_ ≠ gb183)) (by (with_reducible repeat (first | apply Kd.R_alloc | apply Kd.R_drewN | apply Kd.R_drew)); exact HO221.out) hg hat); have n2_ := Aside0.mk (hb); have n3_ := Aside0.mk (ho); clear BK183; clear HO221; clear HB; clear HO224; have BK183 := n0_; have HO221 := n1_; have HB := n2_; have HO231 := n3_; clear n0_ n1_ n2_ n3_; clear ho hb hg hat))
          go_ret3
          exact ⟨_, by first | rfl | (simp [errW_none, errW_some] <;> rfl) | (simp [*, errW_none, errW_some] <;> rfl), by (with_reducible repeat (first | apply Kd.R_alloc | apply Kd.R_drewN | apply Kd.R_drew)); exact Kd.R_mono HO231.out (fun _ hk => trivial), by repeat (first | (with_reducible first | exact HB.out | apply below_alloc | apply pw_below_drewN | apply below_drew1 | refine below_set ?_ GE183.out) | exact HB.out)⟩
         ·rw [if_neg c61] at H
          exact absurd H (by simp)
        ·rw [if_neg c58] at H
         exact absurd H (by simp)
       ·rw [if_neg c56] at H
        exact absurd H (by simp)
      ·rw [if_neg c55] at H
       exact absurd H (by simp)

end Go.Proofs.YtoflajekfpggbaaDoor.P
