-- made by wip/myprint.py out of the translation; not trusted: Lean checks it
import Derived.Test.YtnaeffgkdoanfaaDoorP0
import Derived.Test.YtnaeffgkdoanfaaDoorP1
import Derived.Test.YtnaeffgkdoanfaaDoorP2
import Derived.Test.YtnaeffgkdoanfaaDoorP4
import Derived.Test.YtnaeffgkdoanfaaDoorHLevels
namespace Go.Proofs.YtnaeffgkdoanfaaDoor.P
open Go.RowKit Go.Proofs.YtnaeffgkdoanfaaDoorW.PrintWords Go.Proofs.YtnaeffgkdoanfaaDoorW.PrintLast Go.Proofs.YtnaeffgkdoanfaaDoorW.PrintMore
attribute [local go_sem] max2_int min2_int max_two min_two max_three min_three max_four min_four   -- for this text's walks alone
set_option linter.unusedVariables false
set_option linter.unusedSimpArgs false

/-! ### fairwaylaw7_NameOwn: function 4 -/
mutual
def fairwaylaw7_NameOwn.l0 : Nat → List (S25) → Int → Option (Bool)
  | 0, _, _ => none
  | k + 1, x0, x3 => if x3 < (x0.length : Int) then (fairwaylaw7_NameOwn.j1 k x0 x3 (decide (x3 < 12))) else (fairwaylaw7_NameOwn.j1 k x0 x3 false)
def fairwaylaw7_NameOwn.j1 : Nat → List (S25) → Int → Bool → Option (Bool)
  | 0, _, _, _ => none
  | k + 1, x0, x3, x16 => if x16 = true then (if 0 ≤ x3 then (if x3 < (x0.length : Int) then ((fairwaylaw7_heavy.f ((rd_T25 x0 x3).f0) ((rd_T25 x0 x3).f1)).bind fun t241 => (if t241 = true then (fairwaylaw7_NameOwn.j2 k x0 x3 ((rd_T25 x0 x3).f1) true) else (if ((rd_T25 x0 x3).f1).toList = ([] : List UInt8) then (fairwaylaw7_NameOwn.j2 k x0 x3 ((rd_T25 x0 x3).f1) true) else ((name_Topic.f ((rd_T25 x0 x3).f1)).bind fun t242 => ((fairwaylaw7_num.f t242).bind fun t243 => (if t243 = 0 then (if 0 < (((rd_T25 x0 x3).f1).size : Int) then (if (bt ((rd_T25 x0 x3).f1) 0) = 36 then (fairwaylaw7_NameOwn.j2 k x0 x3 ((rd_T25 x0 x3).f1) true) else (fairwaylaw7_NameOwn.j2 k x0 x3 ((rd_T25 x0 x3).f1) (decide ((((rd_T25 x0 x3).f1).size : Int) > 1020)))) else (none)) else (fairwaylaw7_NameOwn.j2 k x0 x3 ((rd_T25 x0 x3).f1) true))))))) else (none)) else (none)) else ((fairwaylaw7_wakes.f k).bind fun t238 => (some t238))
def fairwaylaw7_NameOwn.j2 : Nat → List (S25) → Int → ByteArray → Bool → Option (Bool)
  | 0, _, _, _, _ => none
  | k + 1, x0, x3, x4, x48 => if x48 = true then (fairwaylaw7_NameOwn.l0 k x0 (wrap64 (x3 + 1))) else ((name_Levels.f x4).bind fun t244 => ((name_Match.f k x4 x4).bind fun t247 => (if t247 = true then (if x4.size + 1 ≤ 9223372036854775807 then ((name_Match.f k x4 (x4 ++ (⟨#[120]⟩ : ByteArray))).bind fun t248 => (if t248 = true then (fairwaylaw7_NameOwn.j3 k x0 x3 x4 t244 true) else ((name_Filter.f k x4).bind fun t249 => ((fairwaylaw7_num.f t249).bind fun t250 => (if t250 = 0 then ((name_Match.f k (⟨#[35]⟩ : ByteArray) x4).bind fun t251 => (fairwaylaw7_NameOwn.j3 k x0 x3 x4 t244 (!t251))) else (fairwaylaw7_NameOwn.j3 k x0 x3 x4 t244 true)))))) else (none)) else (fairwaylaw7_NameOwn.j3 k x0 x3 x4 t244 true))))
def fairwaylaw7_NameOwn.j3 : Nat → List (S25) → Int → ByteArray → List ByteArray → Bool → Option (Bool)
  | 0, _, _, _, _, _ => none
  | k + 1, x0, x3, x4, x5, x71 => if x71 = true then (some false) else (if (x5.length : Int) < 16 then (if x4.size + 2 ≤ 9223372036854775807 then ((name_Match.f k (x4 ++ (⟨#[47, 35]⟩ : ByteArray)) x4).bind fun t252 => (if t252 = true then ((name_Match.f k (x4 ++ (⟨#[47, 35]⟩ : ByteArray)) (x4 ++ (⟨#[47, 120]⟩ : ByteArray))).bind fun t253 => (if t253 = true then ((name_Match.f k (x4 ++ (⟨#[47, 43]⟩ : ByteArray)) x4).bind fun t254 => (if t254 = true then (some false) else ((name_Match.f k (x4 ++ (⟨#[47, 43]⟩ : ByteArray)) (x4 ++ (⟨#[47, 120]⟩ : ByteArray))).bind fun t255 => (if t255 = true then (fairwaylaw7_NameOwn.j4 k x0 x3 x4 x5) else (some false))))) else (some false))) else (some false))) else (none)) else (fairwaylaw7_NameOwn.j4 k x0 x3 x4 x5))
def fairwaylaw7_NameOwn.j4 : Nat → List (S25) → Int → ByteArray → List ByteArray → Option (Bool)
  | 0, _, _, _, _ => none
  | k + 1, x0, x3, x4, x5 => fairwaylaw7_NameOwn.l1 k x0 x3 x4 x5 0
def fairwaylaw7_NameOwn.l1 : Nat → List (S25) → Int → ByteArray → List ByteArray → Int → Option (Bool)
  | 0, _, _, _, _, _ => none
  | k + 1, x0, x3, x4, x5, x6 => if x6 < (x5.length : Int) then (fairwaylaw7_NameOwn.l2 k x0 x3 x4 x5 x6 (⟨#[]⟩ : ByteArray) 0) else (fairwaylaw7_NameOwn.l0 k x0 (wrap64 (x3 + 1)))
def fairwaylaw7_NameOwn.l2 : Nat → List (S25) → Int → ByteArray → List ByteArray → Int → ByteArray → Int → Option (Bool)
  | 0, _, _, _, _, _, _, _ => none
  | k + 1, x0, x3, x4, x5, x6, x7, x8 => if x8 < (x5.length : Int) then (if x8 > 0 then (if x7.size + 1 ≤ 9223372036854775807 then (if x8 = x6 then (if (x7 ++ (⟨#[47]⟩ : ByteArray)).size + 1 ≤ 9223372036854775807 then (fairwaylaw7_NameOwn.l2 k x0 x3 x4 x5 x6 ((x7 ++ (⟨#[47]⟩ : ByteArray)) ++ (⟨#[43]⟩ : ByteArray)) (wrap64 (x8 + 1))) else (none)) else (if 0 ≤ x8 then (if (x7 ++ (⟨#[47]⟩ : ByteArray)).size + (rdOf ByteArray.empty x5 x8).size ≤ 9223372036854775807 then (fairwaylaw7_NameOwn.l2 k x0 x3 x4 x5 x6 ((x7 ++ (⟨#[47]⟩ : ByteArray)) ++ (rdOf ByteArray.empty x5 x8)) (wrap64 (x8 + 1))) else (none)) else (none))) else (none)) else (if x8 = x6 then (if x7.size + 1 ≤ 9223372036854775807 then (fairwaylaw7_NameOwn.l2 k x0 x3 x4 x5 x6 (x7 ++ (⟨#[43]⟩ : ByteArray)) (wrap64 (x8 + 1))) else (none)) else (if 0 ≤ x8 then (if x7.size + (rdOf ByteArray.empty x5 x8).size ≤ 9223372036854775807 then (fairwaylaw7_NameOwn.l2 k x0 x3 x4 x5 x6 (x7 ++ (rdOf ByteArray.empty x5 x8)) (wrap64 (x8 + 1))) else (none)) else (none)))) else ((name_Filter.f k x7).bind fun t258 => ((fairwaylaw7_num.f t258).bind fun t259 => (if t259 = 0 then ((name_Match.f k x7 x4).bind fun t260 => (if t260 = true then (fairwaylaw7_NameOwn.l1 k x0 x3 x4 x5 (wrap64 (x6 + 1))) else (some false))) else (fairwaylaw7_NameOwn.l1 k x0 x3 x4 x5 (wrap64 (x6 + 1))))))
end
def fairwaylaw7_NameOwn.f (k : Nat) (l0 : List (S25)) : Option (Bool) := fairwaylaw7_NameOwn.l0 k l0 0
theorem fairwaylaw7_NameOwn.mono_l : ∀ k, (∀ y0 y1, LeO (fairwaylaw7_NameOwn.l0 k y0 y1) (fairwaylaw7_NameOwn.l0 (k + 1) y0 y1)) ∧ (∀ y0 y1 y2, LeO (fairwaylaw7_NameOwn.j1 k y0 y1 y2) (fairwaylaw7_NameOwn.j1 (k + 1) y0 y1 y2)) ∧ (∀ y0 y1 y2 y3, LeO (fairwaylaw7_NameOwn.j2 k y0 y1 y2 y3) (fairwaylaw7_NameOwn.j2 (k + 1) y0 y1 y2 y3)) ∧ (∀ y0 y1 y2 y3 y4, LeO (fairwaylaw7_NameOwn.j3 k y0 y1 y2 y3 y4) (fairwaylaw7_NameOwn.j3 (k + 1) y0 y1 y2 y3 y4)) ∧ (∀ y0 y1 y2 y3, LeO (fairwaylaw7_NameOwn.j4 k y0 y1 y2 y3) (fairwaylaw7_NameOwn.j4 (k + 1) y0 y1 y2 y3)) ∧ (∀ y0 y1 y2 y3 y4, LeO (fairwaylaw7_NameOwn.l1 k y0 y1 y2 y3 y4) (fairwaylaw7_NameOwn.l1 (k + 1) y0 y1 y2 y3 y4)) ∧ (∀ y0 y1 y2 y3 y4 y5 y6, LeO (fairwaylaw7_NameOwn.l2 k y0 y1 y2 y3 y4 y5 y6) (fairwaylaw7_NameOwn.l2 (k + 1) y0 y1 y2 y3 y4 y5 y6))
  | 0 => ⟨fun _ _ r h => by simp [fairwaylaw7_NameOwn.l0] at h, fun _ _ _ r h => by simp [fairwaylaw7_NameOwn.j1] at h, fun _ _ _ _ r h => by simp [fairwaylaw7_NameOwn.j2] at h, fun _ _ _ _ _ r h => by simp [fairwaylaw7_NameOwn.j3] at h, fun _ _ _ _ r h => by simp [fairwaylaw7_NameOwn.j4] at h, fun _ _ _ _ _ r h => by simp [fairwaylaw7_NameOwn.l1] at h, fun _ _ _ _ _ _ _ r h => by simp [fairwaylaw7_NameOwn.l2] at h⟩
  | k + 1 => by
    obtain ⟨ih0, ih1, ih2, ih3, ih4, ih5, ih6⟩ := fairwaylaw7_NameOwn.mono_l k
    refine ⟨?_, ?_, ?_, ?_, ?_, ?_, ?_⟩
    · intro y0 y1
      unfold fairwaylaw7_NameOwn.l0
      repeat' first
      | (with_reducible exact ih0 _ _)
      | (with_reducible exact ih1 _ _ _)
      | (with_reducible exact ih2 _ _ _ _)
      | (with_reducible exact ih3 _ _ _ _ _)
      | (with_reducible exact ih4 _ _ _ _)
      | (with_reducible exact ih5 _ _ _ _ _)
      | (with_reducible exact ih6 _ _ _ _ _ _ _)
      | (with_reducible exact fairwaylaw7_wakes.mono _)
      | (with_reducible exact name_Filter.mono _ _)
      | (with_reducible exact name_Match.mono _ _ _)
      | (with_reducible exact LeO.refl _)
      | (with_reducible exact LeO.none _)
      | (with_reducible refine LeO.ite ?_ ?_)
      | (with_reducible refine LeO.bind ?_ (fun _ => ?_))
      | exact ih0 _ _
      | exact ih1 _ _ _
      | exact ih2 _ _ _ _
      | exact ih3 _ _ _ _ _
      | exact ih4 _ _ _ _
      | exact ih5 _ _ _ _ _
      | exact ih6 _ _ _ _ _ _ _
      | exact fairwaylaw7_wakes.mono _
      | exact name_Filter.mono _ _
      | exact name_Match.mono _ _ _
      | exact LeO.none _
      | refine LeO.ite ?_ ?_
      | refine LeO.bind ?_ (fun _ => ?_)
    · intro y0 y1 y2
      unfold fairwaylaw7_NameOwn.j1
      repeat' first
      | (with_reducible exact ih0 _ _)
      | (with_reducible exact ih1 _ _ _)
      | (with_reducible exact ih2 _ _ _ _)
      | (with_reducible exact ih3 _ _ _ _ _)
      | (with_reducible exact ih4 _ _ _ _)
      | (with_reducible exact ih5 _ _ _ _ _)
      | (with_reducible exact ih6 _ _ _ _ _ _ _)
      | (with_reducible exact fairwaylaw7_wakes.mono _)
      | (with_reducible exact name_Filter.mono _ _)
      | (with_reducible exact name_Match.mono _ _ _)
      | (with_reducible exact LeO.refl _)
      | (with_reducible exact LeO.none _)
      | (with_reducible refine LeO.ite ?_ ?_)
      | (with_reducible refine LeO.bind ?_ (fun _ => ?_))
      | exact ih0 _ _
      | exact ih1 _ _ _
      | exact ih2 _ _ _ _
      | exact ih3 _ _ _ _ _
      | exact ih4 _ _ _ _
      | exact ih5 _ _ _ _ _
      | exact ih6 _ _ _ _ _ _ _
      | exact fairwaylaw7_wakes.mono _
      | exact name_Filter.mono _ _
      | exact name_Match.mono _ _ _
      | exact LeO.none _
      | refine LeO.ite ?_ ?_
      | refine LeO.bind ?_ (fun _ => ?_)
    · intro y0 y1 y2 y3
      unfold fairwaylaw7_NameOwn.j2
      repeat' first
      | (with_reducible exact ih0 _ _)
      | (with_reducible exact ih1 _ _ _)
      | (with_reducible exact ih2 _ _ _ _)
      | (with_reducible exact ih3 _ _ _ _ _)
      | (with_reducible exact ih4 _ _ _ _)
      | (with_reducible exact ih5 _ _ _ _ _)
      | (with_reducible exact ih6 _ _ _ _ _ _ _)
      | (with_reducible exact fairwaylaw7_wakes.mono _)
      | (with_reducible exact name_Filter.mono _ _)
      | (with_reducible exact name_Match.mono _ _ _)
      | (with_reducible exact LeO.refl _)
      | (with_reducible exact LeO.none _)
      | (with_reducible refine LeO.ite ?_ ?_)
      | (with_reducible refine LeO.bind ?_ (fun _ => ?_))
      | exact ih0 _ _
      | exact ih1 _ _ _
      | exact ih2 _ _ _ _
      | exact ih3 _ _ _ _ _
      | exact ih4 _ _ _ _
      | exact ih5 _ _ _ _ _
      | exact ih6 _ _ _ _ _ _ _
      | exact fairwaylaw7_wakes.mono _
      | exact name_Filter.mono _ _
      | exact name_Match.mono _ _ _
      | exact LeO.none _
      | refine LeO.ite ?_ ?_
      | refine LeO.bind ?_ (fun _ => ?_)
    · intro y0 y1 y2 y3 y4
      unfold fairwaylaw7_NameOwn.j3
      repeat' first
      | (with_reducible exact ih0 _ _)
      | (with_reducible exact ih1 _ _ _)
      | (with_reducible exact ih2 _ _ _ _)
      | (with_reducible exact ih3 _ _ _ _ _)
      | (with_reducible exact ih4 _ _ _ _)
      | (with_reducible exact ih5 _ _ _ _ _)
      | (with_reducible exact ih6 _ _ _ _ _ _ _)
      | (with_reducible exact fairwaylaw7_wakes.mono _)
      | (with_reducible exact name_Filter.mono _ _)
      | (with_reducible exact name_Match.mono _ _ _)
      | (with_reducible exact LeO.refl _)
      | (with_reducible exact LeO.none _)
      | (with_reducible refine LeO.ite ?_ ?_)
      | (with_reducible refine LeO.bind ?_ (fun _ => ?_))
      | exact ih0 _ _
      | exact ih1 _ _ _
      | exact ih2 _ _ _ _
      | exact ih3 _ _ _ _ _
      | exact ih4 _ _ _ _
      | exact ih5 _ _ _ _ _
      | exact ih6 _ _ _ _ _ _ _
      | exact fairwaylaw7_wakes.mono _
      | exact name_Filter.mono _ _
      | exact name_Match.mono _ _ _
      | exact LeO.none _
      | refine LeO.ite ?_ ?_
      | refine LeO.bind ?_ (fun _ => ?_)
    · intro y0 y1 y2 y3
      unfold fairwaylaw7_NameOwn.j4
      repeat' first
      | (with_reducible exact ih0 _ _)
      | (with_reducible exact ih1 _ _ _)
      | (with_reducible exact ih2 _ _ _ _)
      | (with_reducible exact ih3 _ _ _ _ _)
      | (with_reducible exact ih4 _ _ _ _)
      | (with_reducible exact ih5 _ _ _ _ _)
      | (with_reducible exact ih6 _ _ _ _ _ _ _)
      | (with_reducible exact fairwaylaw7_wakes.mono _)
      | (with_reducible exact name_Filter.mono _ _)
      | (with_reducible exact name_Match.mono _ _ _)
      | (with_reducible exact LeO.refl _)
      | (with_reducible exact LeO.none _)
      | (with_reducible refine LeO.ite ?_ ?_)
      | (with_reducible refine LeO.bind ?_ (fun _ => ?_))
      | exact ih0 _ _
      | exact ih1 _ _ _
      | exact ih2 _ _ _ _
      | exact ih3 _ _ _ _ _
      | exact ih4 _ _ _ _
      | exact ih5 _ _ _ _ _
      | exact ih6 _ _ _ _ _ _ _
      | exact fairwaylaw7_wakes.mono _
      | exact name_Filter.mono _ _
      | exact name_Match.mono _ _ _
      | exact LeO.none _
      | refine LeO.ite ?_ ?_
      | refine LeO.bind ?_ (fun _ => ?_)
    · intro y0 y1 y2 y3 y4
      unfold fairwaylaw7_NameOwn.l1
      repeat' first
      | (with_reducible exact ih0 _ _)
      | (with_reducible exact ih1 _ _ _)
      | (with_reducible exact ih2 _ _ _ _)
      | (with_reducible exact ih3 _ _ _ _ _)
      | (with_reducible exact ih4 _ _ _ _)
      | (with_reducible exact ih5 _ _ _ _ _)
      | (with_reducible exact ih6 _ _ _ _ _ _ _)
      | (with_reducible exact fairwaylaw7_wakes.mono _)
      | (with_reducible exact name_Filter.mono _ _)
      | (with_reducible exact name_Match.mono _ _ _)
      | (with_reducible exact LeO.refl _)
      | (with_reducible exact LeO.none _)
      | (with_reducible refine LeO.ite ?_ ?_)
      | (with_reducible refine LeO.bind ?_ (fun _ => ?_))
      | exact ih0 _ _
      | exact ih1 _ _ _
      | exact ih2 _ _ _ _
      | exact ih3 _ _ _ _ _
      | exact ih4 _ _ _ _
      | exact ih5 _ _ _ _ _
      | exact ih6 _ _ _ _ _ _ _
      | exact fairwaylaw7_wakes.mono _
      | exact name_Filter.mono _ _
      | exact name_Match.mono _ _ _
      | exact LeO.none _
      | refine LeO.ite ?_ ?_
      | refine LeO.bind ?_ (fun _ => ?_)
    · intro y0 y1 y2 y3 y4 y5 y6
      unfold fairwaylaw7_NameOwn.l2
      repeat' first
      | (with_reducible exact ih0 _ _)
      | (with_reducible exact ih1 _ _ _)
      | (with_reducible exact ih2 _ _ _ _)
      | (with_reducible exact ih3 _ _ _ _ _)
      | (with_reducible exact ih4 _ _ _ _)
      | (with_reducible exact ih5 _ _ _ _ _)
      | (with_reducible exact ih6 _ _ _ _ _ _ _)
      | (with_reducible exact fairwaylaw7_wakes.mono _)
      | (with_reducible exact name_Filter.mono _ _)
      | (with_reducible exact name_Match.mono _ _ _)
      | (with_reducible exact LeO.refl _)
      | (with_reducible exact LeO.none _)
      | (with_reducible refine LeO.ite ?_ ?_)
      | (with_reducible refine LeO.bind ?_ (fun _ => ?_))
      | exact ih0 _ _
      | exact ih1 _ _ _
      | exact ih2 _ _ _ _
      | exact ih3 _ _ _ _ _
      | exact ih4 _ _ _ _
      | exact ih5 _ _ _ _ _
      | exact ih6 _ _ _ _ _ _ _
      | exact fairwaylaw7_wakes.mono _
      | exact name_Filter.mono _ _
      | exact name_Match.mono _ _ _
      | exact LeO.none _
      | refine LeO.ite ?_ ?_
      | refine LeO.bind ?_ (fun _ => ?_)
theorem fairwaylaw7_NameOwn.mono : ∀ a0 k, LeO (fairwaylaw7_NameOwn.f k a0) (fairwaylaw7_NameOwn.f (k + 1) a0) := by
  intro a0 k
  obtain ⟨ih0, ih1, ih2, ih3, ih4, ih5, ih6⟩ := fairwaylaw7_NameOwn.mono_l k
  unfold fairwaylaw7_NameOwn.f
  repeat' first
      | (with_reducible exact ih0 _ _)
      | (with_reducible exact ih1 _ _ _)
      | (with_reducible exact ih2 _ _ _ _)
      | (with_reducible exact ih3 _ _ _ _ _)
      | (with_reducible exact ih4 _ _ _ _)
      | (with_reducible exact ih5 _ _ _ _ _)
      | (with_reducible exact ih6 _ _ _ _ _ _ _)
      | (with_reducible exact fairwaylaw7_wakes.mono _)
      | (with_reducible exact name_Filter.mono _ _)
      | (with_reducible exact name_Match.mono _ _ _)
      | (with_reducible exact LeO.refl _)
      | (with_reducible exact LeO.none _)
      | (with_reducible refine LeO.ite ?_ ?_)
      | (with_reducible refine LeO.bind ?_ (fun _ => ?_))
      | exact ih0 _ _
      | exact ih1 _ _ _
      | exact ih2 _ _ _ _
      | exact ih3 _ _ _ _ _
      | exact ih4 _ _ _ _
      | exact ih5 _ _ _ _ _
      | exact ih6 _ _ _ _ _ _ _
      | exact fairwaylaw7_wakes.mono _
      | exact name_Filter.mono _ _
      | exact name_Match.mono _ _ _
      | exact LeO.none _
      | refine LeO.ite ?_ ?_
      | refine LeO.bind ?_ (fun _ => ?_)
set_option maxHeartbeats 8000000 in
set_option maxRecDepth 100000 in
theorem fairwaylaw7_NameOwn.calls (k : Nat) (A0 : Option Addr) (c0 : Nat) (l0 : List (S25)) (r : Bool) (w : World) (hr0 : Kd.C k25 w A0 l0.length l0) (hc0 : l0.length ≤ c0) (h : fairwaylaw7_NameOwn.f k l0 = some r) (hT : Tabs w) :
    Calls Tryd.prog 4 #[.slice A0 l0.length c0] w fun e w' => e = .returned (.bool r) ∧ Below w.heap.size w w' := by
  have hu25 := Tryd.underlying25
  have HR0 := Aside0.mk hr0
  have HC0 := Aside0.mk hc0
  clear hr0 hc0
  have HT := Aside0.mk hT
  clear hT
  have HB := Aside0.mk (Below.refl w.heap.size w)
  have H : (fairwaylaw7_NameOwn.l0 k l0 0) = some r := h
  clear h
  have H' := Aside0.mk H
  clear H
  go_enter Tryd.func4, Tryd.ntmps4
  go_wp2
  go_loopg [3] k (fun kq v3 w' => ∃ (x3_1 : Int), v3 = .int .i64 x3_1 ∧ Aside0 (fairwaylaw7_NameOwn.l0 kq l0 x3_1 = some r) ∧ Aside0 (kq ≤ k) ∧ Aside0 (Below w.heap.size w w'))
  case atStart => exact ⟨(0), (by first | rfl | (simp; done) | (simp [*]; done)), H', ⟨Nat.le_refl _⟩, ⟨by repeat (first | (with_reducible first | exact HB.out | apply below_alloc | apply pw_below_drewN | apply below_drew1) | exact HB.out)⟩⟩
  case round =>
    clear H'
    obtain ⟨x3_1, rfl, HA, HK1, HB⟩ := hrel
    cases gk with
    | zero => exact absurd HA.out (by simp [fairwaylaw7_NameOwn.l0])
    | succ k1 =>
      have H := HA.out
      clear HA
      simp only [fairwaylaw7_NameOwn.l0] at H
      have HC2 := Aside0.mk H
      clear H
      go_upto_region 2 with (fail)
      go_cut [16] (fun v16 wc => ∃ (kq : Nat) (x16_1 : Bool), v16 = .bool x16_1 ∧ Aside0 (fairwaylaw7_NameOwn.j1 kq l0 x3_1 x16_1 = some r) ∧ Aside0 (kq ≤ k1) ∧ Aside0 (Below w.heap.size w wc))
      case first =>
        have H := HC2.out
        clear HC2
        by_cases c3 : x3_1 < (l0.length : Int)
        · rw [if_pos c3] at H
          have c3b0 : decide (x3_1 < (l0.length : Int)) = true := decide_eq_true c3
          clear c3
          (first | rw [c3b0] | (simp only [i64_w, i32_w]; rw [c3b0]) | skip)
          have H' := Aside0.mk H
          clear H
          go_wp2
          go_meet
          case rel => exact ⟨_, (decide (x3_1 < 12)), (by first | rfl | (simp; done) | (simp [*]; done)), H', ⟨by have := HK1.out; first | omega | exact Nat.le_refl _⟩, ⟨by repeat (first | (with_reducible first | exact HB.out | apply below_alloc | apply pw_below_drewN | apply below_drew1) | exact HB.out)⟩⟩
        · rw [if_neg c3] at H
          have c3b0 : decide (x3_1 < (l0.length : Int)) = false := decide_eq_false c3
          clear c3
          (first | rw [c3b0] | (simp only [i64_w, i32_w]; rw [c3b0]) | skip)
          have H' := Aside0.mk H
          clear H
          go_wp2
          go_meet
          case rel => exact ⟨_, (false), (by first | rfl | (simp; done) | (simp [*]; done)), H', ⟨by have := HK1.out; first | omega | exact Nat.le_refl _⟩, ⟨by repeat (first | (with_reducible first | exact HB.out | apply below_alloc | apply pw_below_drewN | apply below_drew1) | exact HB.out)⟩⟩
      case rest =>
        clear HC2
        try clear p2
        try clear c3
        try clear c3b0
        obtain ⟨kq, x16_1, rfl, HA, HJ1, HB⟩ := hcut
        cases kq with
        | zero => exact absurd HA.out (by simp [fairwaylaw7_NameOwn.j1])
        | succ kj1 =>
          have H := HA.out
          clear HA
          simp only [fairwaylaw7_NameOwn.j1] at H
          by_cases c4 : x16_1 = true
          · subst c4
            have H1 : (if 0 ≤ x3_1 then (if x3_1 < (l0.length : Int) then ((fairwaylaw7_heavy.f ((rd_T25 l0 x3_1).f0) ((rd_T25 l0 x3_1).f1)).bind fun t241 => (if t241 = true then (fairwaylaw7_NameOwn.j2 kj1 l0 x3_1 ((rd_T25 l0 x3_1).f1) true) else (if ((rd_T25 l0 x3_1).f1).toList = ([] : List UInt8) then (fairwaylaw7_NameOwn.j2 kj1 l0 x3_1 ((rd_T25 l0 x3_1).f1) true) else ((name_Topic.f ((rd_T25 l0 x3_1).f1)).bind fun t242 => ((fairwaylaw7_num.f t242).bind fun t243 => (if t243 = 0 then (if 0 < (((rd_T25 l0 x3_1).f1).size : Int) then (if (bt ((rd_T25 l0 x3_1).f1) 0) = 36 then (fairwaylaw7_NameOwn.j2 kj1 l0 x3_1 ((rd_T25 l0 x3_1).f1) true) else (fairwaylaw7_NameOwn.j2 kj1 l0 x3_1 ((rd_T25 l0 x3_1).f1) (decide ((((rd_T25 l0 x3_1).f1).size : Int) > 1020)))) else (none)) else (fairwaylaw7_NameOwn.j2 kj1 l0 x3_1 ((rd_T25 l0 x3_1).f1) true))))))) else (none)) else (none)) = some r := by rw [if_pos rfl] at H; exact H
            clear H
            have H := H1
            clear H1
            by_cases c5 : 0 ≤ x3_1
            · rw [if_pos c5] at H
              have c5b0 : decide (0 ≤ x3_1) = true := decide_eq_true c5
              clear c5
              by_cases c6 : x3_1 < (l0.length : Int)
              · rw [if_pos c6] at H
                have c6b0 : decide (x3_1 < (l0.length : Int)) = true := decide_eq_true c6
                clear c6
                have HC7 := Aside0.mk H
                clear H
                have p239 : 0 ≤ (x3_1 : Int) := of_decide_eq_true (by first | (with_reducible assumption) | assumption)
                have q239 : x3_1 < (l0.length : Int) := of_decide_eq_true (by first | (with_reducible assumption) | assumption)
                obtain ⟨ad239, e239, hx239_0, hx239_1⟩ := at_T25 HR0.out x3_1 p239 q239
                cases e239
                replace hx239_0 := (HB.out.cell (World.block_lt_of_cell? w _ hx239_0)).trans hx239_0
                replace hx239_1 := (HB.out.cell (World.block_lt_of_cell? w _ hx239_1)).trans hx239_1
                replace p239 := eq_true p239
                replace q239 := eq_true q239
                go_upto_region 5 with (fail)
                go_cut [48] (fun v48 wc => ∃ (kq : Nat) (x48_6 : Bool), v48 = .bool x48_6 ∧ Aside0 (fairwaylaw7_NameOwn.j2 kq l0 x3_1 ((rd_T25 l0 x3_1).f1) x48_6 = some r) ∧ Aside0 (kq ≤ kj1) ∧ Aside0 (Below w.heap.size w wc))
                case first =>
                  have H := HC7.out
                  clear HC7
                  replace H := Option.bind_eq_some_iff.mp H
                  obtain ⟨t241, A80, H⟩ := H
                  replace H : (if t241 = true then (fairwaylaw7_NameOwn.j2 kj1 l0 x3_1 ((rd_T25 l0 x3_1).f1) true) else (if ((rd_T25 l0 x3_1).f1).toList = ([] : List UInt8) then (fairwaylaw7_NameOwn.j2 kj1 l0 x3_1 ((rd_T25 l0 x3_1).f1) true) else ((name_Topic.f ((rd_T25 l0 x3_1).f1)).bind fun t242 => ((fairwaylaw7_num.f t242).bind fun t243 => (if t243 = 0 then (if 0 < (((rd_T25 l0 x3_1).f1).size : Int) then (if (bt ((rd_T25 l0 x3_1).f1) 0) = 36 then (fairwaylaw7_NameOwn.j2 kj1 l0 x3_1 ((rd_T25 l0 x3_1).f1) true) else (fairwaylaw7_NameOwn.j2 kj1 l0 x3_1 ((rd_T25 l0 x3_1).f1) (decide ((((rd_T25 l0 x3_1).f1).size : Int) > 1020)))) else (none)) else (fairwaylaw7_NameOwn.j2 kj1 l0 x3_1 ((rd_T25 l0 x3_1).f1) true)))))) = some r := H
                  have A8 := Aside0.mk A80
                  clear A80
                  by_cases c9 : t241 = true
                  · subst c9
                    have H1 : (fairwaylaw7_NameOwn.j2 kj1 l0 x3_1 ((rd_T25 l0 x3_1).f1) true) = some r := by rw [if_pos rfl] at H; exact H
                    clear H
                    have H := H1
                    clear H1
                    have H' := Aside0.mk H
                    clear H
                    have p240 : 0 ≤ (x3_1 : Int) := of_decide_eq_true (by first | (with_reducible assumption) | assumption)
                    have q240 : x3_1 < (l0.length : Int) := of_decide_eq_true (by first | (with_reducible assumption) | assumption)
                    obtain ⟨ad240, e240, hx240_0, hx240_1⟩ := at_T25 HR0.out x3_1 p240 q240
                    obtain rfl : ad239 = ad240 := (by injection e240)
                    replace hx240_0 := (HB.out.cell (World.block_lt_of_cell? w _ hx240_0)).trans hx240_0
                    replace hx240_1 := (HB.out.cell (World.block_lt_of_cell? w _ hx240_1)).trans hx240_1
                    replace p240 := eq_true p240
                    replace q240 := eq_true q240
                    go_wp2_with (first | ((with_reducible refine gate_callee (f := 10) rfl ?_); refine goesL_ (some 28) rfl rfl Tryd.func10 (by kernel_rfl) rfl #[.agg #[.string ((rd_T25 l0 x3_1).f0), .string ((rd_T25 l0 x3_1).f1)]] rfl (by (try simp only [List.map_toArray, List.map_cons, List.map_nil]); first | done | rfl | (simp only [List.length_drop, List.length_take]; rfl)) ?_; (with_reducible refine (fairwaylaw7_heavy.calls ((rd_T25 l0 x3_1).f0) ((rd_T25 l0 x3_1).f1) true _ A8.out).mono ?_); rintro e w10 ⟨rfl, hb⟩; refine ⟨_, rfl, ?_⟩; have n0_ := Aside0.mk (below_step (by repeat (first | (with_reducible first | exact HB.out | apply below_alloc | apply pw_below_drewN | apply below_drew1) | exact HB.out)) hb); clear HB; have HB := n0_; clear n0_; (try clear hb); (try clear hb2); (try clear hk); (try clear hi)))
                    go_meet
                    case rel => exact ⟨_, (true), (by first | rfl | (simp; done) | (simp [*]; done)), H', ⟨by have := HK1.out; have := HJ1.out; first | omega | exact Nat.le_refl _⟩, ⟨by repeat (first | (with_reducible first | exact HB.out | apply below_alloc | apply pw_below_drewN | apply below_drew1) | exact HB.out)⟩⟩
                  · replace c9 := Bool.eq_false_iff.mpr c9
                    subst c9
                    have H1 : (if ((rd_T25 l0 x3_1).f1).toList = ([] : List UInt8) then (fairwaylaw7_NameOwn.j2 kj1 l0 x3_1 ((rd_T25 l0 x3_1).f1) true) else ((name_Topic.f ((rd_T25 l0 x3_1).f1)).bind fun t242 => ((fairwaylaw7_num.f t242).bind fun t243 => (if t243 = 0 then (if 0 < (((rd_T25 l0 x3_1).f1).size : Int) then (if (bt ((rd_T25 l0 x3_1).f1) 0) = 36 then (fairwaylaw7_NameOwn.j2 kj1 l0 x3_1 ((rd_T25 l0 x3_1).f1) true) else (fairwaylaw7_NameOwn.j2 kj1 l0 x3_1 ((rd_T25 l0 x3_1).f1) (decide ((((rd_T25 l0 x3_1).f1).size : Int) > 1020)))) else (none)) else (fairwaylaw7_NameOwn.j2 kj1 l0 x3_1 ((rd_T25 l0 x3_1).f1) true))))) = some r := by rw [if_neg (show ¬ (false = true) by decide)] at H; exact H
                    clear H
                    have H := H1
                    clear H1
                    by_cases c11 : ((rd_T25 l0 x3_1).f1).toList = ([] : List UInt8)
                    · rw [if_pos c11] at H
                      have c11b0 : (((rd_T25 l0 x3_1).f1).toList == ([] : List UInt8)) = true := beq_iff_eq.mpr c11
                      have c11b1 : (((rd_T25 l0 x3_1).f1).toList != ([] : List UInt8)) = false := bne_eq_false_iff_eq.mpr c11
                      clear c11
                      (first | rw [c11b0] | (simp only [i64_w, i32_w]; rw [c11b0]) | skip)
                      have H' := Aside0.mk H
                      clear H
                      have p240 : 0 ≤ (x3_1 : Int) := of_decide_eq_true (by first | (with_reducible assumption) | assumption)
                      have q240 : x3_1 < (l0.length : Int) := of_decide_eq_true (by first | (with_reducible assumption) | assumption)
                      obtain ⟨ad240, e240, hx240_0, hx240_1⟩ := at_T25 HR0.out x3_1 p240 q240
                      obtain rfl : ad239 = ad240 := (by injection e240)
                      replace hx240_0 := (HB.out.cell (World.block_lt_of_cell? w _ hx240_0)).trans hx240_0
                      replace hx240_1 := (HB.out.cell (World.block_lt_of_cell? w _ hx240_1)).trans hx240_1
                      replace p240 := eq_true p240
                      replace q240 := eq_true q240
                      go_wp2_with (first | ((with_reducible refine gate_callee (f := 10) rfl ?_); refine goesL_ (some 28) rfl rfl Tryd.func10 (by kernel_rfl) rfl #[.agg #[.string ((rd_T25 l0 x3_1).f0), .string ((rd_T25 l0 x3_1).f1)]] rfl (by (try simp only [List.map_toArray, List.map_cons, List.map_nil]); first | done | rfl | (simp only [List.length_drop, List.length_take]; rfl)) ?_; (with_reducible refine (fairwaylaw7_heavy.calls ((rd_T25 l0 x3_1).f0) ((rd_T25 l0 x3_1).f1) false _ A8.out).mono ?_); rintro e w12 ⟨rfl, hb⟩; refine ⟨_, rfl, ?_⟩; have n0_ := Aside0.mk (below_step (by repeat (first | (with_reducible first | exact HB.out | apply below_alloc | apply pw_below_drewN | apply below_drew1) | exact HB.out)) hb); clear HB; have HB := n0_; clear n0_; (try clear hb); (try clear hb2); (try clear hk); (try clear hi)))
                      go_meet
                      case rel => exact ⟨_, (true), (by first | rfl | (simp; done) | (simp [*]; done)), H', ⟨by have := HK1.out; have := HJ1.out; first | omega | exact Nat.le_refl _⟩, ⟨by repeat (first | (with_reducible first | exact HB.out | apply below_alloc | apply pw_below_drewN | apply below_drew1) | exact HB.out)⟩⟩
                    · rw [if_neg c11] at H
                      have c11b0 : (((rd_T25 l0 x3_1).f1).toList == ([] : List UInt8)) = false := beq_eq_false_iff_ne.mpr c11
                      have c11b1 : (((rd_T25 l0 x3_1).f1).toList != ([] : List UInt8)) = true := bne_iff_ne.mpr c11
                      (first | rw [c11b0] | (simp only [i64_w, i32_w]; rw [c11b0]) | skip)
                      replace H := Option.bind_eq_some_iff.mp H
                      obtain ⟨t242, A130, H⟩ := H
                      replace H : ((fairwaylaw7_num.f t242).bind fun t243 => (if t243 = 0 then (if 0 < (((rd_T25 l0 x3_1).f1).size : Int) then (if (bt ((rd_T25 l0 x3_1).f1) 0) = 36 then (fairwaylaw7_NameOwn.j2 kj1 l0 x3_1 ((rd_T25 l0 x3_1).f1) true) else (fairwaylaw7_NameOwn.j2 kj1 l0 x3_1 ((rd_T25 l0 x3_1).f1) (decide ((((rd_T25 l0 x3_1).f1).size : Int) > 1020)))) else (none)) else (fairwaylaw7_NameOwn.j2 kj1 l0 x3_1 ((rd_T25 l0 x3_1).f1) true))) = some r := H
                      have A13 := Aside0.mk A130
                      clear A130
                      replace H := Option.bind_eq_some_iff.mp H
                      obtain ⟨t243, A140, H⟩ := H
                      replace H : (if t243 = 0 then (if 0 < (((rd_T25 l0 x3_1).f1).size : Int) then (if (bt ((rd_T25 l0 x3_1).f1) 0) = 36 then (fairwaylaw7_NameOwn.j2 kj1 l0 x3_1 ((rd_T25 l0 x3_1).f1) true) else (fairwaylaw7_NameOwn.j2 kj1 l0 x3_1 ((rd_T25 l0 x3_1).f1) (decide ((((rd_T25 l0 x3_1).f1).size : Int) > 1020)))) else (none)) else (fairwaylaw7_NameOwn.j2 kj1 l0 x3_1 ((rd_T25 l0 x3_1).f1) true)) = some r := H
                      have A14 := Aside0.mk A140
                      clear A140
                      by_cases c15 : t243 = 0
                      · rw [if_pos c15] at H
                        have c15b0 : (t243 == 0) = true := beq_iff_eq.mpr c15
                        have c15b1 : (t243 != 0) = false := bne_eq_false_iff_eq.mpr c15
                        clear c15
                        by_cases c16 : 0 < (((rd_T25 l0 x3_1).f1).size : Int)
                        · rw [if_pos c16] at H
                          have c16b0 : decide (0 < (((rd_T25 l0 x3_1).f1).size : Int)) = true := decide_eq_true c16
                          have c16b1 : decide (0 < ((rd_T25 l0 x3_1).f1).size) = true := decide_eq_true (by omega)
                          clear c16
                          by_cases c18 : (bt ((rd_T25 l0 x3_1).f1) 0) = 36
                          · rw [if_pos c18] at H
                            have c18b0 : ((bt ((rd_T25 l0 x3_1).f1) 0) == 36) = true := beq_iff_eq.mpr c18
                            have c18b1 : ((bt ((rd_T25 l0 x3_1).f1) 0) != 36) = false := bne_eq_false_iff_eq.mpr c18
                            clear c18
                            have H' := Aside0.mk H
                            clear H
                            have p240 : 0 ≤ (x3_1 : Int) := of_decide_eq_true (by first | (with_reducible assumption) | assumption)
                            have q240 : x3_1 < (l0.length : Int) := of_decide_eq_true (by first | (with_reducible assumption) | assumption)
                            obtain ⟨ad240, e240, hx240_0, hx240_1⟩ := at_T25 HR0.out x3_1 p240 q240
                            obtain rfl : ad239 = ad240 := (by injection e240)
                            replace hx240_0 := (HB.out.cell (World.block_lt_of_cell? w _ hx240_0)).trans hx240_0
                            replace hx240_1 := (HB.out.cell (World.block_lt_of_cell? w _ hx240_1)).trans hx240_1
                            replace p240 := eq_true p240
                            replace q240 := eq_true q240
                            go_wp2_with (first | ((with_reducible refine gate_callee (f := 10) rfl ?_); refine goesL_ (some 28) rfl rfl Tryd.func10 (by kernel_rfl) rfl #[.agg #[.string ((rd_T25 l0 x3_1).f0), .string ((rd_T25 l0 x3_1).f1)]] rfl (by (try simp only [List.map_toArray, List.map_cons, List.map_nil]); first | done | rfl | (simp only [List.length_drop, List.length_take]; rfl)) ?_; (with_reducible refine (fairwaylaw7_heavy.calls ((rd_T25 l0 x3_1).f0) ((rd_T25 l0 x3_1).f1) false _ A8.out).mono ?_); rintro e w19 ⟨rfl, hb⟩; refine ⟨_, rfl, ?_⟩; have n0_ := Aside0.mk (below_step (by repeat (first | (with_reducible first | exact HB.out | apply below_alloc | apply pw_below_drewN | apply below_drew1) | exact HB.out)) hb); clear HB; have HB := n0_; clear n0_; (try clear hb); (try clear hb2); (try clear hk); (try clear hi)) | (go_at_call 15; (with_reducible refine (name_Topic.calls ((rd_T25 l0 x3_1).f1) t242 _ A13.out ?side1).mono ?_); (case side1 => exact Tabs_below HT.out (by repeat (first | (with_reducible first | exact HB.out | apply below_alloc | apply pw_below_drewN | apply below_drew1) | exact HB.out))); rintro e w20 ⟨rfl, hb⟩; have n0_ := Aside0.mk (below_step (by repeat (first | (with_reducible first | exact HB.out | apply below_alloc | apply pw_below_drewN | apply below_drew1) | exact HB.out)) hb); clear HB; have HB := n0_; clear n0_; (try clear hb); (try clear hb2); (try clear hk); (try clear hi)) | (go_at_call 14; (with_reducible refine (fairwaylaw7_num.calls t242 t243 _ A14.out).mono ?_); rintro e w' ⟨rfl, ⟨nd, rfl⟩⟩; have p17 : 0 ≤ (0 : Int) := (by omega); have q17 : 0 < ((rd_T25 l0 x3_1).f1).size := (by have : (0 : Int) < (((rd_T25 l0 x3_1).f1).size : Int) := of_decide_eq_true (by first | (with_reducible assumption) | assumption); omega); have hx17 : ∀ h : 0 < ((rd_T25 l0 x3_1).f1).size, ((((rd_T25 l0 x3_1).f1)[0]'h).toNat : Int) = bt ((rd_T25 l0 x3_1).f1) 0 := bt_at ((rd_T25 l0 x3_1).f1) 0; clear p17; have qi17 : (0 < (((rd_T25 l0 x3_1).f1).size : Int)) = True := eq_true (of_decide_eq_true (by first | (with_reducible assumption) | assumption)); replace q17 := eq_true q17))
                            go_meet
                            case rel => exact ⟨_, (true), (by first | rfl | (simp; done) | (simp [*]; done)), H', ⟨by have := HK1.out; have := HJ1.out; first | omega | exact Nat.le_refl _⟩, ⟨by repeat (first | (with_reducible first | exact HB.out | apply below_alloc | apply pw_below_drewN | apply below_drew1) | exact HB.out)⟩⟩
                          · rw [if_neg c18] at H
                            have c18b0 : ((bt ((rd_T25 l0 x3_1).f1) 0) == 36) = false := beq_eq_false_iff_ne.mpr c18
                            have c18b1 : ((bt ((rd_T25 l0 x3_1).f1) 0) != 36) = true := bne_iff_ne.mpr c18
                            have H' := Aside0.mk H
                            clear H
                            have p240 : 0 ≤ (x3_1 : Int) := of_decide_eq_true (by first | (with_reducible assumption) | assumption)
                            have q240 : x3_1 < (l0.length : Int) := of_decide_eq_true (by first | (with_reducible assumption) | assumption)
                            obtain ⟨ad240, e240, hx240_0, hx240_1⟩ := at_T25 HR0.out x3_1 p240 q240
                            obtain rfl : ad239 = ad240 := (by injection e240)
                            replace hx240_0 := (HB.out.cell (World.block_lt_of_cell? w _ hx240_0)).trans hx240_0
                            replace hx240_1 := (HB.out.cell (World.block_lt_of_cell? w _ hx240_1)).trans hx240_1
                            replace p240 := eq_true p240
                            replace q240 := eq_true q240
                            go_wp2_with (first | ((with_reducible refine gate_callee (f := 10) rfl ?_); refine goesL_ (some 28) rfl rfl Tryd.func10 (by kernel_rfl) rfl #[.agg #[.string ((rd_T25 l0 x3_1).f0), .string ((rd_T25 l0 x3_1).f1)]] rfl (by (try simp only [List.map_toArray, List.map_cons, List.map_nil]); first | done | rfl | (simp only [List.length_drop, List.length_take]; rfl)) ?_; (with_reducible refine (fairwaylaw7_heavy.calls ((rd_T25 l0 x3_1).f0) ((rd_T25 l0 x3_1).f1) false _ A8.out).mono ?_); rintro e w21 ⟨rfl, hb⟩; refine ⟨_, rfl, ?_⟩; have n0_ := Aside0.mk (below_step (by repeat (first | (with_reducible first | exact HB.out | apply below_alloc | apply pw_below_drewN | apply below_drew1) | exact HB.out)) hb); clear HB; have HB := n0_; clear n0_; (try clear hb); (try clear hb2); (try clear hk); (try clear hi)) | (go_at_call 15; (with_reducible refine (name_Topic.calls ((rd_T25 l0 x3_1).f1) t242 _ A13.out ?side1).mono ?_); (case side1 => exact Tabs_below HT.out (by repeat (first | (with_reducible first | exact HB.out | apply below_alloc | apply pw_below_drewN | apply below_drew1) | exact HB.out))); rintro e w22 ⟨rfl, hb⟩; have n0_ := Aside0.mk (below_step (by repeat (first | (with_reducible first | exact HB.out | apply below_alloc | apply pw_below_drewN | apply below_drew1) | exact HB.out)) hb); clear HB; have HB := n0_; clear n0_; (try clear hb); (try clear hb2); (try clear hk); (try clear hi)) | (go_at_call 14; (with_reducible refine (fairwaylaw7_num.calls t242 t243 _ A14.out).mono ?_); rintro e w' ⟨rfl, ⟨nd, rfl⟩⟩; have p17 : 0 ≤ (0 : Int) := (by omega); have q17 : 0 < ((rd_T25 l0 x3_1).f1).size := (by have : (0 : Int) < (((rd_T25 l0 x3_1).f1).size : Int) := of_decide_eq_true (by first | (with_reducible assumption) | assumption); omega); have hx17 : ∀ h : 0 < ((rd_T25 l0 x3_1).f1).size, ((((rd_T25 l0 x3_1).f1)[0]'h).toNat : Int) = bt ((rd_T25 l0 x3_1).f1) 0 := bt_at ((rd_T25 l0 x3_1).f1) 0; clear p17; have qi17 : (0 < (((rd_T25 l0 x3_1).f1).size : Int)) = True := eq_true (of_decide_eq_true (by first | (with_reducible assumption) | assumption)); replace q17 := eq_true q17))
                            go_meet
                            case rel => exact ⟨_, (decide ((((rd_T25 l0 x3_1).f1).size : Int) > 1020)), (by first | rfl | (simp; done) | (simp [*]; done)), H', ⟨by have := HK1.out; have := HJ1.out; first | omega | exact Nat.le_refl _⟩, ⟨by repeat (first | (with_reducible first | exact HB.out | apply below_alloc | apply pw_below_drewN | apply below_drew1) | exact HB.out)⟩⟩
                        · rw [if_neg c16] at H
                          exact absurd H (by simp)
                      · rw [if_neg c15] at H
                        have c15b0 : (t243 == 0) = false := beq_eq_false_iff_ne.mpr c15
                        have c15b1 : (t243 != 0) = true := bne_iff_ne.mpr c15
                        have H' := Aside0.mk H
                        clear H
                        have p240 : 0 ≤ (x3_1 : Int) := of_decide_eq_true (by first | (with_reducible assumption) | assumption)
                        have q240 : x3_1 < (l0.length : Int) := of_decide_eq_true (by first | (with_reducible assumption) | assumption)
                        obtain ⟨ad240, e240, hx240_0, hx240_1⟩ := at_T25 HR0.out x3_1 p240 q240
                        obtain rfl : ad239 = ad240 := (by injection e240)
                        replace hx240_0 := (HB.out.cell (World.block_lt_of_cell? w _ hx240_0)).trans hx240_0
                        replace hx240_1 := (HB.out.cell (World.block_lt_of_cell? w _ hx240_1)).trans hx240_1
                        replace p240 := eq_true p240
                        replace q240 := eq_true q240
                        go_wp2_with (first | ((with_reducible refine gate_callee (f := 10) rfl ?_); refine goesL_ (some 28) rfl rfl Tryd.func10 (by kernel_rfl) rfl #[.agg #[.string ((rd_T25 l0 x3_1).f0), .string ((rd_T25 l0 x3_1).f1)]] rfl (by (try simp only [List.map_toArray, List.map_cons, List.map_nil]); first | done | rfl | (simp only [List.length_drop, List.length_take]; rfl)) ?_; (with_reducible refine (fairwaylaw7_heavy.calls ((rd_T25 l0 x3_1).f0) ((rd_T25 l0 x3_1).f1) false _ A8.out).mono ?_); rintro e w23 ⟨rfl, hb⟩; refine ⟨_, rfl, ?_⟩; have n0_ := Aside0.mk (below_step (by repeat (first | (with_reducible first | exact HB.out | apply below_alloc | apply pw_below_drewN | apply below_drew1) | exact HB.out)) hb); clear HB; have HB := n0_; clear n0_; (try clear hb); (try clear hb2); (try clear hk); (try clear hi)) | (go_at_call 15; (with_reducible refine (name_Topic.calls ((rd_T25 l0 x3_1).f1) t242 _ A13.out ?side1).mono ?_); (case side1 => exact Tabs_below HT.out (by repeat (first | (with_reducible first | exact HB.out | apply below_alloc | apply pw_below_drewN | apply below_drew1) | exact HB.out))); rintro e w24 ⟨rfl, hb⟩; have n0_ := Aside0.mk (below_step (by repeat (first | (with_reducible first | exact HB.out | apply below_alloc | apply pw_below_drewN | apply below_drew1) | exact HB.out)) hb); clear HB; have HB := n0_; clear n0_; (try clear hb); (try clear hb2); (try clear hk); (try clear hi)) | (go_at_call 14; (with_reducible refine (fairwaylaw7_num.calls t242 t243 _ A14.out).mono ?_); rintro e w' ⟨rfl, ⟨nd, rfl⟩⟩))
                        go_meet
                        case rel => exact ⟨_, (true), (by first | rfl | (simp; done) | (simp [*]; done)), H', ⟨by have := HK1.out; have := HJ1.out; first | omega | exact Nat.le_refl _⟩, ⟨by repeat (first | (with_reducible first | exact HB.out | apply below_alloc | apply pw_below_drewN | apply below_drew1) | exact HB.out)⟩⟩
                case rest =>
                  clear HC7
                  try clear c1
                  try clear p1
                  try clear q1
                  try clear hx1
                  try clear qi1
                  try clear p2
                  try clear q2
                  try clear hx2
                  try clear c3
                  try clear c3b0
                  try clear c4
                  try clear c5
                  try clear c5b0
                  try clear c6
                  try clear c6b0
                  try clear c9
                  try clear c10
                  try clear c11
                  try clear c11b0
                  try clear c11b1
                  try clear c15
                  try clear c15b0
                  try clear c15b1
                  try clear c16
                  try clear c16b0
                  try clear c16b1
                  try clear p17
                  try clear q17
                  try clear hx17
                  try clear qi17
                  try clear c18
                  try clear c18b0
                  try clear c18b1
                  try clear p23
                  try clear q23
                  try clear hx23
                  try clear p24
                  try clear q24
                  try clear hx24
                  try clear hx239_0
                  try clear hx239_1
                  try clear hx240_0
                  try clear hx240_1
                  try clear p17
                  try clear p2
                  try clear p239
                  try clear p240
                  try clear q17
                  try clear q239
                  try clear q240
                  obtain ⟨kq, x48_6, rfl, HA, HJ6, HB⟩ := hcut
                  cases kq with
                  | zero => exact absurd HA.out (by simp [fairwaylaw7_NameOwn.j2])
                  | succ kj6 =>
                    have H := HA.out
                    clear HA
                    simp only [fairwaylaw7_NameOwn.j2] at H
                    by_cases c25 : x48_6 = true
                    · subst c25
                      have H1 : (fairwaylaw7_NameOwn.l0 kj6 l0 (wrap64 (x3_1 + 1))) = some r := by rw [if_pos rfl] at H; exact H
                      clear H
                      have H := H1
                      clear H1
                      have H' := Aside0.mk H
                      clear H
                      go_wp2
                      go_roundg kj6
                      case measure => have := HK1.out; have := HJ1.out; have := HJ6.out; omega
                      case rel => exact ⟨(wrap64 (x3_1 + 1)), (by first | rfl | (simp; done) | (simp [*]; done)), H', ⟨by have := HK1.out; have := HJ1.out; have := HJ6.out; omega⟩, ⟨by repeat (first | (with_reducible first | exact HB.out | apply below_alloc | apply pw_below_drewN | apply below_drew1) | exact HB.out)⟩⟩
                    · replace c25 := Bool.eq_false_iff.mpr c25
                      subst c25
                      have H1 : ((name_Levels.f ((rd_T25 l0 x3_1).f1)).bind fun t244 => ((name_Match.f kj6 ((rd_T25 l0 x3_1).f1) ((rd_T25 l0 x3_1).f1)).bind fun t247 => (if t247 = true then (if ((rd_T25 l0 x3_1).f1).size + 1 ≤ 9223372036854775807 then ((name_Match.f kj6 ((rd_T25 l0 x3_1).f1) (((rd_T25 l0 x3_1).f1) ++ (⟨#[120]⟩ : ByteArray))).bind fun t248 => (if t248 = true then (fairwaylaw7_NameOwn.j3 kj6 l0 x3_1 ((rd_T25 l0 x3_1).f1) t244 true) else ((name_Filter.f kj6 ((rd_T25 l0 x3_1).f1)).bind fun t249 => ((fairwaylaw7_num.f t249).bind fun t250 => (if t250 = 0 then ((name_Match.f kj6 (⟨#[35]⟩ : ByteArray) ((rd_T25 l0 x3_1).f1)).bind fun t251 => (fairwaylaw7_NameOwn.j3 kj6 l0 x3_1 ((rd_T25 l0 x3_1).f1) t244 (!t251))) else (fairwaylaw7_NameOwn.j3 kj6 l0 x3_1 ((rd_T25 l0 x3_1).f1) t244 true)))))) else (none)) else (fairwaylaw7_NameOwn.j3 kj6 l0 x3_1 ((rd_T25 l0 x3_1).f1) t244 true)))) = some r := by rw [if_neg (show ¬ (false = true) by decide)] at H; exact H
                      clear H
                      have H := H1
                      clear H1
                      replace H := Option.bind_eq_some_iff.mp H
                      obtain ⟨t244, A260, H⟩ := H
                      replace H : ((name_Match.f kj6 ((rd_T25 l0 x3_1).f1) ((rd_T25 l0 x3_1).f1)).bind fun t247 => (if t247 = true then (if ((rd_T25 l0 x3_1).f1).size + 1 ≤ 9223372036854775807 then ((name_Match.f kj6 ((rd_T25 l0 x3_1).f1) (((rd_T25 l0 x3_1).f1) ++ (⟨#[120]⟩ : ByteArray))).bind fun t248 => (if t248 = true then (fairwaylaw7_NameOwn.j3 kj6 l0 x3_1 ((rd_T25 l0 x3_1).f1) t244 true) else ((name_Filter.f kj6 ((rd_T25 l0 x3_1).f1)).bind fun t249 => ((fairwaylaw7_num.f t249).bind fun t250 => (if t250 = 0 then ((name_Match.f kj6 (⟨#[35]⟩ : ByteArray) ((rd_T25 l0 x3_1).f1)).bind fun t251 => (fairwaylaw7_NameOwn.j3 kj6 l0 x3_1 ((rd_T25 l0 x3_1).f1) t244 (!t251))) else (fairwaylaw7_NameOwn.j3 kj6 l0 x3_1 ((rd_T25 l0 x3_1).f1) t244 true)))))) else (none)) else (fairwaylaw7_NameOwn.j3 kj6 l0 x3_1 ((rd_T25 l0 x3_1).f1) t244 true))) = some r := H
                      have A26 := Aside0.mk A260
                      clear A260
                      have HC27 := Aside0.mk H
                      clear H
                      go_upto_region 7 with (first | ((with_reducible refine gate_callee (f := 16) rfl ?_); refine goesL_ (some 50) rfl rfl Tryd.func16 (by kernel_rfl) rfl #[.string ((rd_T25 l0 x3_1).f1)] rfl (by (try simp only [List.map_toArray, List.map_cons, List.map_nil]); first | done | rfl | (simp only [List.length_drop, List.length_take]; rfl)) ?_; (with_reducible refine (name_Levels.calls ((rd_T25 l0 x3_1).f1) t244 _ A26.out).mono ?_); rintro e w28 ⟨v245, rfl, ho0, hb⟩; refine ⟨_, rfl, ?_⟩; have n0_ := Aside0.mk (Kd.R_lower ho0 (below_size (by repeat (first | (with_reducible first | exact HB.out | apply below_alloc | apply pw_below_drewN | apply below_drew1) | exact HB.out)))); have n1_ := Aside0.mk (below_step (by repeat (first | (with_reducible first | exact HB.out | apply below_alloc | apply pw_below_drewN | apply below_drew1) | exact HB.out)) hb); clear HB; have HO246 := n0_; have HB := n1_; clear n0_ n1_; (try clear hb); (try clear hb2); (try clear hk); (try clear hi); (try clear ho0)))
                      (try simp only [Act.put, List.setIfInBounds_toArray, List.set_cons_zero, List.set_cons_succ])
                      go_cut [71] (fun v71 wc => ∃ (kq : Nat) (x71_26 : Bool), v71 = .bool x71_26 ∧ Aside0 (fairwaylaw7_NameOwn.j3 kq l0 x3_1 ((rd_T25 l0 x3_1).f1) t244 x71_26 = some r) ∧ Aside0 (kq ≤ kj6) ∧ Aside0 (Kd.R Kd.string 9 wc w.heap.size (fun _ => True) v245 t244) ∧ Aside0 (Below w.heap.size w wc))
                      case first =>
                        have H := HC27.out
                        clear HC27
                        replace H := Option.bind_eq_some_iff.mp H
                        obtain ⟨t247, A290, H⟩ := H
                        replace H : (if t247 = true then (if ((rd_T25 l0 x3_1).f1).size + 1 ≤ 9223372036854775807 then ((name_Match.f kj6 ((rd_T25 l0 x3_1).f1) (((rd_T25 l0 x3_1).f1) ++ (⟨#[120]⟩ : ByteArray))).bind fun t248 => (if t248 = true then (fairwaylaw7_NameOwn.j3 kj6 l0 x3_1 ((rd_T25 l0 x3_1).f1) t244 true) else ((name_Filter.f kj6 ((rd_T25 l0 x3_1).f1)).bind fun t249 => ((fairwaylaw7_num.f t249).bind fun t250 => (if t250 = 0 then ((name_Match.f kj6 (⟨#[35]⟩ : ByteArray) ((rd_T25 l0 x3_1).f1)).bind fun t251 => (fairwaylaw7_NameOwn.j3 kj6 l0 x3_1 ((rd_T25 l0 x3_1).f1) t244 (!t251))) else (fairwaylaw7_NameOwn.j3 kj6 l0 x3_1 ((rd_T25 l0 x3_1).f1) t244 true)))))) else (none)) else (fairwaylaw7_NameOwn.j3 kj6 l0 x3_1 ((rd_T25 l0 x3_1).f1) t244 true)) = some r := H
                        have A29 := Aside0.mk A290
                        clear A290
                        by_cases c30 : t247 = true
                        · subst c30
                          have H1 : (if ((rd_T25 l0 x3_1).f1).size + 1 ≤ 9223372036854775807 then ((name_Match.f kj6 ((rd_T25 l0 x3_1).f1) (((rd_T25 l0 x3_1).f1) ++ (⟨#[120]⟩ : ByteArray))).bind fun t248 => (if t248 = true then (fairwaylaw7_NameOwn.j3 kj6 l0 x3_1 ((rd_T25 l0 x3_1).f1) t244 true) else ((name_Filter.f kj6 ((rd_T25 l0 x3_1).f1)).bind fun t249 => ((fairwaylaw7_num.f t249).bind fun t250 => (if t250 = 0 then ((name_Match.f kj6 (⟨#[35]⟩ : ByteArray) ((rd_T25 l0 x3_1).f1)).bind fun t251 => (fairwaylaw7_NameOwn.j3 kj6 l0 x3_1 ((rd_T25 l0 x3_1).f1) t244 (!t251))) else (fairwaylaw7_NameOwn.j3 kj6 l0 x3_1 ((rd_T25 l0 x3_1).f1) t244 true)))))) else (none)) = some r := by rw [if_pos rfl] at H; exact H
                          clear H
                          have H := H1
                          clear H1
                          by_cases c31 : ((rd_T25 l0 x3_1).f1).size + 1 ≤ 9223372036854775807
                          · rw [if_pos c31] at H
                            have c31b0 := eq_true c31
                            have c31b1 : decide (((rd_T25 l0 x3_1).f1).size + 1 ≤ 9223372036854775807) = true := decide_eq_true c31
                            try have c31b2 : (9223372036854775807 < ((rd_T25 l0 x3_1).f1).size + 1) = False := eq_false (Nat.not_lt.2 c31)
                            replace H := Option.bind_eq_some_iff.mp H
                            obtain ⟨t248, A320, H⟩ := H
                            replace H : (if t248 = true then (fairwaylaw7_NameOwn.j3 kj6 l0 x3_1 ((rd_T25 l0 x3_1).f1) t244 true) else ((name_Filter.f kj6 ((rd_T25 l0 x3_1).f1)).bind fun t249 => ((fairwaylaw7_num.f t249).bind fun t250 => (if t250 = 0 then ((name_Match.f kj6 (⟨#[35]⟩ : ByteArray) ((rd_T25 l0 x3_1).f1)).bind fun t251 => (fairwaylaw7_NameOwn.j3 kj6 l0 x3_1 ((rd_T25 l0 x3_1).f1) t244 (!t251))) else (fairwaylaw7_NameOwn.j3 kj6 l0 x3_1 ((rd_T25 l0 x3_1).f1) t244 true))))) = some r := H
                            have A32 := Aside0.mk A320
                            clear A320
                            by_cases c33 : t248 = true
                            · subst c33
                              have H1 : (fairwaylaw7_NameOwn.j3 kj6 l0 x3_1 ((rd_T25 l0 x3_1).f1) t244 true) = some r := by rw [if_pos rfl] at H; exact H
                              clear H
                              have H := H1
                              clear H1
                              have H' := Aside0.mk H
                              clear H
                              go_wp2_with (first | ((with_reducible refine gate_callee (f := 11) rfl ?_); refine goesL_ (some 53) rfl rfl Tryd.func11 (by kernel_rfl) rfl #[.string ((rd_T25 l0 x3_1).f1), .string ((rd_T25 l0 x3_1).f1)] rfl (by (try simp only [List.map_toArray, List.map_cons, List.map_nil]); first | done | rfl | (simp only [List.length_drop, List.length_take]; rfl)) ?_; (with_reducible refine (name_Match.calls kj6 ((rd_T25 l0 x3_1).f1) ((rd_T25 l0 x3_1).f1) true _ A29.out ?side1).mono ?_); (case side1 => exact Tabs_below HT.out (by repeat (first | (with_reducible first | exact HB.out | apply below_alloc | apply pw_below_drewN | apply below_drew1) | exact HB.out))); rintro e w34 ⟨rfl, hb⟩; refine ⟨_, rfl, ?_⟩; have n0_ := Aside0.mk (Kd.R_below (by (with_reducible repeat (first | apply Kd.R_alloc | apply Kd.R_drewN | apply Kd.R_drew)); exact HO246.out) hb); have n1_ := Aside0.mk (below_step (by repeat (first | (with_reducible first | exact HB.out | apply below_alloc | apply pw_below_drewN | apply below_drew1) | exact HB.out)) hb); clear HO246; clear HB; have HO246 := n0_; have HB := n1_; clear n0_ n1_; (try clear hb); (try clear hb2); (try clear hk); (try clear hi)) | (go_at_call 11; (with_reducible refine (name_Match.calls kj6 ((rd_T25 l0 x3_1).f1) (((rd_T25 l0 x3_1).f1) ++ (⟨#[120]⟩ : ByteArray)) true _ A32.out ?side1).mono ?_); (case side1 => exact Tabs_below HT.out (by repeat (first | (with_reducible first | exact HB.out | apply below_alloc | apply pw_below_drewN | apply below_drew1) | exact HB.out))); rintro e w35 ⟨rfl, hb⟩; have n0_ := Aside0.mk (Kd.R_below (by (with_reducible repeat (first | apply Kd.R_alloc | apply Kd.R_drewN | apply Kd.R_drew)); exact HO246.out) hb); have n1_ := Aside0.mk (below_step (by repeat (first | (with_reducible first | exact HB.out | apply below_alloc | apply pw_below_drewN | apply below_drew1) | exact HB.out)) hb); clear HO246; clear HB; have HO246 := n0_; have HB := n1_; clear n0_ n1_; (try clear hb); (try clear hb2); (try clear hk); (try clear hi)))
                              go_meet
                              case rel => exact ⟨_, (true), (by first | rfl | (simp; done) | (simp [*]; done)), H', ⟨by have := HK1.out; have := HJ1.out; have := HJ6.out; first | omega | exact Nat.le_refl _⟩, ⟨by (with_reducible repeat (first | apply Kd.R_alloc | apply Kd.R_drewN | apply Kd.R_drew)); exact HO246.out⟩, ⟨by repeat (first | (with_reducible first | exact HB.out | apply below_alloc | apply pw_below_drewN | apply below_drew1) | exact HB.out)⟩⟩
                            · replace c33 := Bool.eq_false_iff.mpr c33
                              subst c33
                              have H1 : ((name_Filter.f kj6 ((rd_T25 l0 x3_1).f1)).bind fun t249 => ((fairwaylaw7_num.f t249).bind fun t250 => (if t250 = 0 then ((name_Match.f kj6 (⟨#[35]⟩ : ByteArray) ((rd_T25 l0 x3_1).f1)).bind fun t251 => (fairwaylaw7_NameOwn.j3 kj6 l0 x3_1 ((rd_T25 l0 x3_1).f1) t244 (!t251))) else (fairwaylaw7_NameOwn.j3 kj6 l0 x3_1 ((rd_T25 l0 x3_1).f1) t244 true)))) = some r := by rw [if_neg (show ¬ (false = true) by decide)] at H; exact H
                              clear H
                              have H := H1
                              clear H1
                              replace H := Option.bind_eq_some_iff.mp H
                              obtain ⟨t249, A360, H⟩ := H
                              replace H : ((fairwaylaw7_num.f t249).bind fun t250 => (if t250 = 0 then ((name_Match.f kj6 (⟨#[35]⟩ : ByteArray) ((rd_T25 l0 x3_1).f1)).bind fun t251 => (fairwaylaw7_NameOwn.j3 kj6 l0 x3_1 ((rd_T25 l0 x3_1).f1) t244 (!t251))) else (fairwaylaw7_NameOwn.j3 kj6 l0 x3_1 ((rd_T25 l0 x3_1).f1) t244 true))) = some r := H
                              have A36 := Aside0.mk A360
                              clear A360
                              replace H := Option.bind_eq_some_iff.mp H
                              obtain ⟨t250, A370, H⟩ := H
                              replace H : (if t250 = 0 then ((name_Match.f kj6 (⟨#[35]⟩ : ByteArray) ((rd_T25 l0 x3_1).f1)).bind fun t251 => (fairwaylaw7_NameOwn.j3 kj6 l0 x3_1 ((rd_T25 l0 x3_1).f1) t244 (!t251))) else (fairwaylaw7_NameOwn.j3 kj6 l0 x3_1 ((rd_T25 l0 x3_1).f1) t244 true)) = some r := H
                              have A37 := Aside0.mk A370
                              clear A370
                              by_cases c38 : t250 = 0
                              · rw [if_pos c38] at H
                                have c38b0 : (t250 == 0) = true := beq_iff_eq.mpr c38
                                have c38b1 : (t250 != 0) = false := bne_eq_false_iff_eq.mpr c38
                                clear c38
                                (first | rw [c38b0] | (simp only [i64_w, i32_w]; rw [c38b0]) | skip)
                                replace H := Option.bind_eq_some_iff.mp H
                                obtain ⟨t251, A390, H⟩ := H
                                replace H : (fairwaylaw7_NameOwn.j3 kj6 l0 x3_1 ((rd_T25 l0 x3_1).f1) t244 (!t251)) = some r := H
                                have A39 := Aside0.mk A390
                                clear A390
                                have H' := Aside0.mk H
                                clear H
                                go_wp2_with (first | ((with_reducible refine gate_callee (f := 11) rfl ?_); refine goesL_ (some 53) rfl rfl Tryd.func11 (by kernel_rfl) rfl #[.string ((rd_T25 l0 x3_1).f1), .string ((rd_T25 l0 x3_1).f1)] rfl (by (try simp only [List.map_toArray, List.map_cons, List.map_nil]); first | done | rfl | (simp only [List.length_drop, List.length_take]; rfl)) ?_; (with_reducible refine (name_Match.calls kj6 ((rd_T25 l0 x3_1).f1) ((rd_T25 l0 x3_1).f1) true _ A29.out ?side1).mono ?_); (case side1 => exact Tabs_below HT.out (by repeat (first | (with_reducible first | exact HB.out | apply below_alloc | apply pw_below_drewN | apply below_drew1) | exact HB.out))); rintro e w40 ⟨rfl, hb⟩; refine ⟨_, rfl, ?_⟩; have n0_ := Aside0.mk (Kd.R_below (by (with_reducible repeat (first | apply Kd.R_alloc | apply Kd.R_drewN | apply Kd.R_drew)); exact HO246.out) hb); have n1_ := Aside0.mk (below_step (by repeat (first | (with_reducible first | exact HB.out | apply below_alloc | apply pw_below_drewN | apply below_drew1) | exact HB.out)) hb); clear HO246; clear HB; have HO246 := n0_; have HB := n1_; clear n0_ n1_; (try clear hb); (try clear hb2); (try clear hk); (try clear hi)) | (go_at_call 11; (with_reducible refine (name_Match.calls kj6 ((rd_T25 l0 x3_1).f1) (((rd_T25 l0 x3_1).f1) ++ (⟨#[120]⟩ : ByteArray)) false _ A32.out ?side1).mono ?_); (case side1 => exact Tabs_below HT.out (by repeat (first | (with_reducible first | exact HB.out | apply below_alloc | apply pw_below_drewN | apply below_drew1) | exact HB.out))); rintro e w41 ⟨rfl, hb⟩; have n0_ := Aside0.mk (Kd.R_below (by (with_reducible repeat (first | apply Kd.R_alloc | apply Kd.R_drewN | apply Kd.R_drew)); exact HO246.out) hb); have n1_ := Aside0.mk (below_step (by repeat (first | (with_reducible first | exact HB.out | apply below_alloc | apply pw_below_drewN | apply below_drew1) | exact HB.out)) hb); clear HO246; clear HB; have HO246 := n0_; have HB := n1_; clear n0_ n1_; (try clear hb); (try clear hb2); (try clear hk); (try clear hi)) | (go_at_call 17; (with_reducible refine (name_Filter.calls kj6 ((rd_T25 l0 x3_1).f1) t249 _ A36.out ?side1).mono ?_); (case side1 => exact Tabs_below HT.out (by repeat (first | (with_reducible first | exact HB.out | apply below_alloc | apply pw_below_drewN | apply below_drew1) | exact HB.out))); rintro e w42 ⟨rfl, hb⟩; have n0_ := Aside0.mk (Kd.R_below (by (with_reducible repeat (first | apply Kd.R_alloc | apply Kd.R_drewN | apply Kd.R_drew)); exact HO246.out) hb); have n1_ := Aside0.mk (below_step (by repeat (first | (with_reducible first | exact HB.out | apply below_alloc | apply pw_below_drewN | apply below_drew1) | exact HB.out)) hb); clear HO246; clear HB; have HO246 := n0_; have HB := n1_; clear n0_ n1_; (try clear hb); (try clear hb2); (try clear hk); (try clear hi)) | (go_at_call 14; (with_reducible refine (fairwaylaw7_num.calls t249 t250 _ A37.out).mono ?_); rintro e w' ⟨rfl, ⟨nd, rfl⟩⟩) | (go_at_call 11; (with_reducible refine (name_Match.calls kj6 (⟨#[35]⟩ : ByteArray) ((rd_T25 l0 x3_1).f1) t251 _ A39.out ?side1).mono ?_); (case side1 => exact Tabs_below HT.out (by repeat (first | (with_reducible first | exact HB.out | apply below_alloc | apply pw_below_drewN | apply below_drew1) | exact HB.out))); rintro e w43 ⟨rfl, hb⟩; have n0_ := Aside0.mk (Kd.R_below (by (with_reducible repeat (first | apply Kd.R_alloc | apply Kd.R_drewN | apply Kd.R_drew)); exact HO246.out) hb); have n1_ := Aside0.mk (below_step (by repeat (first | (with_reducible first | exact HB.out | apply below_alloc | apply pw_below_drewN | apply below_drew1) | exact HB.out)) hb); clear HO246; clear HB; have HO246 := n0_; have HB := n1_; clear n0_ n1_; (try clear hb); (try clear hb2); (try clear hk); (try clear hi)))
                                go_meet
                                case rel => exact ⟨_, (!t251), (by first | rfl | (simp; done) | (simp [*]; done)), H', ⟨by have := HK1.out; have := HJ1.out; have := HJ6.out; first | omega | exact Nat.le_refl _⟩, ⟨by (with_reducible repeat (first | apply Kd.R_alloc | apply Kd.R_drewN | apply Kd.R_drew)); exact HO246.out⟩, ⟨by repeat (first | (with_reducible first | exact HB.out | apply below_alloc | apply pw_below_drewN | apply below_drew1) | exact HB.out)⟩⟩
                              · rw [if_neg c38] at H
                                have c38b0 : (t250 == 0) = false := beq_eq_false_iff_ne.mpr c38
                                have c38b1 : (t250 != 0) = true := bne_iff_ne.mpr c38
                                (first | rw [c38b0] | (simp only [i64_w, i32_w]; rw [c38b0]) | skip)
                                have H' := Aside0.mk H
                                clear H
                                go_wp2_with (first | ((with_reducible refine gate_callee (f := 11) rfl ?_); refine goesL_ (some 53) rfl rfl Tryd.func11 (by kernel_rfl) rfl #[.string ((rd_T25 l0 x3_1).f1), .string ((rd_T25 l0 x3_1).f1)] rfl (by (try simp only [List.map_toArray, List.map_cons, List.map_nil]); first | done | rfl | (simp only [List.length_drop, List.length_take]; rfl)) ?_; (with_reducible refine (name_Match.calls kj6 ((rd_T25 l0 x3_1).f1) ((rd_T25 l0 x3_1).f1) true _ A29.out ?side1).mono ?_); (case side1 => exact Tabs_below HT.out (by repeat (first | (with_reducible first | exact HB.out | apply below_alloc | apply pw_below_drewN | apply below_drew1) | exact HB.out))); rintro e w44 ⟨rfl, hb⟩; refine ⟨_, rfl, ?_⟩; have n0_ := Aside0.mk (Kd.R_below (by (with_reducible repeat (first | apply Kd.R_alloc | apply Kd.R_drewN | apply Kd.R_drew)); exact HO246.out) hb); have n1_ := Aside0.mk (below_step (by repeat (first | (with_reducible first | exact HB.out | apply below_alloc | apply pw_below_drewN | apply below_drew1) | exact HB.out)) hb); clear HO246; clear HB; have HO246 := n0_; have HB := n1_; clear n0_ n1_; (try clear hb); (try clear hb2); (try clear hk); (try clear hi)) | (go_at_call 11; (with_reducible refine (name_Match.calls kj6 ((rd_T25 l0 x3_1).f1) (((rd_T25 l0 x3_1).f1) ++ (⟨#[120]⟩ : ByteArray)) false _ A32.out ?side1).mono ?_); (case side1 => exact Tabs_below HT.out (by repeat (first | (with_reducible first | exact HB.out | apply below_alloc | apply pw_below_drewN | apply below_drew1) | exact HB.out))); rintro e w45 ⟨rfl, hb⟩; have n0_ := Aside0.mk (Kd.R_below (by (with_reducible repeat (first | apply Kd.R_alloc | apply Kd.R_drewN | apply Kd.R_drew)); exact HO246.out) hb); have n1_ := Aside0.mk (below_step (by repeat (first | (with_reducible first | exact HB.out | apply below_alloc | apply pw_below_drewN | apply below_drew1) | exact HB.out)) hb); clear HO246; clear HB; have HO246 := n0_; have HB := n1_; clear n0_ n1_; (try clear hb); (try clear hb2); (try clear hk); (try clear hi)) | (go_at_call 17; (with_reducible refine (name_Filter.calls kj6 ((rd_T25 l0 x3_1).f1) t249 _ A36.out ?side1).mono ?_); (case side1 => exact Tabs_below HT.out (by repeat (first | (with_reducible first | exact HB.out | apply below_alloc | apply pw_below_drewN | apply below_drew1) | exact HB.out))); rintro e w46 ⟨rfl, hb⟩; have n0_ := Aside0.mk (Kd.R_below (by (with_reducible repeat (first | apply Kd.R_alloc | apply Kd.R_drewN | apply Kd.R_drew)); exact HO246.out) hb); have n1_ := Aside0.mk (below_step (by repeat (first | (with_reducible first | exact HB.out | apply below_alloc | apply pw_below_drewN | apply below_drew1) | exact HB.out)) hb); clear HO246; clear HB; have HO246 := n0_; have HB := n1_; clear n0_ n1_; (try clear hb); (try clear hb2); (try clear hk); (try clear hi)) | (go_at_call 14; (with_reducible refine (fairwaylaw7_num.calls t249 t250 _ A37.out).mono ?_); rintro e w' ⟨rfl, ⟨nd, rfl⟩⟩))
                                go_meet
                                case rel => exact ⟨_, (true), (by first | rfl | (simp; done) | (simp [*]; done)), H', ⟨by have := HK1.out; have := HJ1.out; have := HJ6.out; first | omega | exact Nat.le_refl _⟩, ⟨by (with_reducible repeat (first | apply Kd.R_alloc | apply Kd.R_drewN | apply Kd.R_drew)); exact HO246.out⟩, ⟨by repeat (first | (with_reducible first | exact HB.out | apply below_alloc | apply pw_below_drewN | apply below_drew1) | exact HB.out)⟩⟩
                          · rw [if_neg c31] at H
                            exact absurd H (by simp)
                        · replace c30 := Bool.eq_false_iff.mpr c30
                          subst c30
                          have H1 : (fairwaylaw7_NameOwn.j3 kj6 l0 x3_1 ((rd_T25 l0 x3_1).f1) t244 true) = some r := by rw [if_neg (show ¬ (false = true) by decide)] at H; exact H
                          clear H
                          have H := H1
                          clear H1
                          have H' := Aside0.mk H
                          clear H
                          go_wp2_with (first | ((with_reducible refine gate_callee (f := 11) rfl ?_); refine goesL_ (some 53) rfl rfl Tryd.func11 (by kernel_rfl) rfl #[.string ((rd_T25 l0 x3_1).f1), .string ((rd_T25 l0 x3_1).f1)] rfl (by (try simp only [List.map_toArray, List.map_cons, List.map_nil]); first | done | rfl | (simp only [List.length_drop, List.length_take]; rfl)) ?_; (with_reducible refine (name_Match.calls kj6 ((rd_T25 l0 x3_1).f1) ((rd_T25 l0 x3_1).f1) false _ A29.out ?side1).mono ?_); (case side1 => exact Tabs_below HT.out (by repeat (first | (with_reducible first | exact HB.out | apply below_alloc | apply pw_below_drewN | apply below_drew1) | exact HB.out))); rintro e w47 ⟨rfl, hb⟩; refine ⟨_, rfl, ?_⟩; have n0_ := Aside0.mk (Kd.R_below (by (with_reducible repeat (first | apply Kd.R_alloc | apply Kd.R_drewN | apply Kd.R_drew)); exact HO246.out) hb); have n1_ := Aside0.mk (below_step (by repeat (first | (with_reducible first | exact HB.out | apply below_alloc | apply pw_below_drewN | apply below_drew1) | exact HB.out)) hb); clear HO246; clear HB; have HO246 := n0_; have HB := n1_; clear n0_ n1_; (try clear hb); (try clear hb2); (try clear hk); (try clear hi)))
                          go_meet
                          case rel => exact ⟨_, (true), (by first | rfl | (simp; done) | (simp [*]; done)), H', ⟨by have := HK1.out; have := HJ1.out; have := HJ6.out; first | omega | exact Nat.le_refl _⟩, ⟨by (with_reducible repeat (first | apply Kd.R_alloc | apply Kd.R_drewN | apply Kd.R_drew)); exact HO246.out⟩, ⟨by repeat (first | (with_reducible first | exact HB.out | apply below_alloc | apply pw_below_drewN | apply below_drew1) | exact HB.out)⟩⟩
                      case rest =>
                        clear HC27
                        try clear c1
                        try clear p1
                        try clear q1
                        try clear hx1
                        try clear qi1
                        try clear c2
                        try clear p2
                        try clear q2
                        try clear hx2
                        try clear c3
                        try clear c3b0
                        try clear c4
                        try clear c5
                        try clear c5b0
                        try clear c6
                        try clear c6b0
                        try clear p6
                        try clear c9
                        try clear c10
                        try clear c11
                        try clear c11b0
                        try clear c11b1
                        try clear c15
                        try clear c15b0
                        try clear c15b1
                        try clear c16
                        try clear c16b0
                        try clear c16b1
                        try clear p17
                        try clear q17
                        try clear hx17
                        try clear qi17
                        try clear c18
                        try clear c18b0
                        try clear c18b1
                        try clear p23
                        try clear q23
                        try clear hx23
                        try clear p24
                        try clear q24
                        try clear hx24
                        try clear c25
                        try clear c30
                        try clear c31
                        try clear c31b0
                        try clear c31b1
                        try clear c31b2
                        try clear c33
                        try clear c38
                        try clear c38b0
                        try clear c38b1
                        try clear hx239_0
                        try clear hx239_1
                        try clear hx240_0
                        try clear hx240_1
                        try clear p1
                        try clear p17
                        try clear p2
                        try clear p23
                        try clear p239
                        try clear p24
                        try clear p240
                        try clear q1
                        try clear q17
                        try clear q2
                        try clear q23
                        try clear q239
                        try clear q24
                        try clear q240
                        obtain ⟨kq, x71_26, rfl, HA, HJ26, HO_5, HB⟩ := hcut
                        cases kq with
                        | zero => exact absurd HA.out (by simp [fairwaylaw7_NameOwn.j3])
                        | succ kj26 =>
                          have H := HA.out
                          clear HA
                          simp only [fairwaylaw7_NameOwn.j3] at H
                          by_cases c48 : x71_26 = true
                          · subst c48
                            have H1 : (some false) = some r := by rw [if_pos rfl] at H; exact H
                            clear H
                            have H := H1
                            clear H1
                            obtain rfl := Option.some.inj H
                            go_wp2
                            go_ret
                            exact ⟨by first | rfl | (simp [errW_none, errW_some] <;> rfl) | (simp [*, errW_none, errW_some] <;> rfl), by repeat (first | (with_reducible first | exact HB.out | apply below_alloc | apply pw_below_drewN | apply below_drew1) | exact HB.out)⟩
                          · replace c48 := Bool.eq_false_iff.mpr c48
                            subst c48
                            have H1 : (if (t244.length : Int) < 16 then (if ((rd_T25 l0 x3_1).f1).size + 2 ≤ 9223372036854775807 then ((name_Match.f kj26 (((rd_T25 l0 x3_1).f1) ++ (⟨#[47, 35]⟩ : ByteArray)) ((rd_T25 l0 x3_1).f1)).bind fun t252 => (if t252 = true then ((name_Match.f kj26 (((rd_T25 l0 x3_1).f1) ++ (⟨#[47, 35]⟩ : ByteArray)) (((rd_T25 l0 x3_1).f1) ++ (⟨#[47, 120]⟩ : ByteArray))).bind fun t253 => (if t253 = true then ((name_Match.f kj26 (((rd_T25 l0 x3_1).f1) ++ (⟨#[47, 43]⟩ : ByteArray)) ((rd_T25 l0 x3_1).f1)).bind fun t254 => (if t254 = true then (some false) else ((name_Match.f kj26 (((rd_T25 l0 x3_1).f1) ++ (⟨#[47, 43]⟩ : ByteArray)) (((rd_T25 l0 x3_1).f1) ++ (⟨#[47, 120]⟩ : ByteArray))).bind fun t255 => (if t255 = true then (fairwaylaw7_NameOwn.j4 kj26 l0 x3_1 ((rd_T25 l0 x3_1).f1) t244) else (some false))))) else (some false))) else (some false))) else (none)) else (fairwaylaw7_NameOwn.j4 kj26 l0 x3_1 ((rd_T25 l0 x3_1).f1) t244)) = some r := by rw [if_neg (show ¬ (false = true) by decide)] at H; exact H
                            clear H
                            have H := H1
                            clear H1
                            have HC49 := Aside0.mk H
                            clear H
                            obtain ⟨Ao50, co50, eo50⟩ := Kd.R_slice HO_5.out
                            subst eo50
                            go_upto_if 74 with (fail)
                            go_cut [] (fun wc => ∃ (kq : Nat), Aside0 (fairwaylaw7_NameOwn.j4 kq l0 x3_1 ((rd_T25 l0 x3_1).f1) t244 = some r) ∧ Aside0 (kq ≤ kj26) ∧ Aside0 (Kd.R Kd.string 9 wc w.heap.size (fun _ => True) (.slice Ao50 t244.length co50) t244) ∧ Aside0 (Below w.heap.size w wc))
                            case first =>
                              have H := HC49.out
                              clear HC49
                              by_cases c51 : (t244.length : Int) < 16
                              · rw [if_pos c51] at H
                                have c51b0 : decide ((t244.length : Int) < 16) = true := decide_eq_true c51
                                have c51b1 : decide (t244.length < 16) = true := decide_eq_true (by omega)
                                clear c51
                                (first | rw [c51b0] | (simp only [i64_w, i32_w]; rw [c51b0]) | skip)
                                by_cases c52 : ((rd_T25 l0 x3_1).f1).size + 2 ≤ 9223372036854775807
                                · rw [if_pos c52] at H
                                  have c52b0 := eq_true c52
                                  have c52b1 : decide (((rd_T25 l0 x3_1).f1).size + 2 ≤ 9223372036854775807) = true := decide_eq_true c52
                                  try have c52b2 : (9223372036854775807 < ((rd_T25 l0 x3_1).f1).size + 2) = False := eq_false (Nat.not_lt.2 c52)
                                  replace H := Option.bind_eq_some_iff.mp H
                                  obtain ⟨t252, A530, H⟩ := H
                                  replace H : (if t252 = true then ((name_Match.f kj26 (((rd_T25 l0 x3_1).f1) ++ (⟨#[47, 35]⟩ : ByteArray)) (((rd_T25 l0 x3_1).f1) ++ (⟨#[47, 120]⟩ : ByteArray))).bind fun t253 => (if t253 = true then ((name_Match.f kj26 (((rd_T25 l0 x3_1).f1) ++ (⟨#[47, 43]⟩ : ByteArray)) ((rd_T25 l0 x3_1).f1)).bind fun t254 => (if t254 = true then (some false) else ((name_Match.f kj26 (((rd_T25 l0 x3_1).f1) ++ (⟨#[47, 43]⟩ : ByteArray)) (((rd_T25 l0 x3_1).f1) ++ (⟨#[47, 120]⟩ : ByteArray))).bind fun t255 => (if t255 = true then (fairwaylaw7_NameOwn.j4 kj26 l0 x3_1 ((rd_T25 l0 x3_1).f1) t244) else (some false))))) else (some false))) else (some false)) = some r := H
                                  have A53 := Aside0.mk A530
                                  clear A530
                                  by_cases c54 : t252 = true
                                  · subst c54
                                    have H1 : ((name_Match.f kj26 (((rd_T25 l0 x3_1).f1) ++ (⟨#[47, 35]⟩ : ByteArray)) (((rd_T25 l0 x3_1).f1) ++ (⟨#[47, 120]⟩ : ByteArray))).bind fun t253 => (if t253 = true then ((name_Match.f kj26 (((rd_T25 l0 x3_1).f1) ++ (⟨#[47, 43]⟩ : ByteArray)) ((rd_T25 l0 x3_1).f1)).bind fun t254 => (if t254 = true then (some false) else ((name_Match.f kj26 (((rd_T25 l0 x3_1).f1) ++ (⟨#[47, 43]⟩ : ByteArray)) (((rd_T25 l0 x3_1).f1) ++ (⟨#[47, 120]⟩ : ByteArray))).bind fun t255 => (if t255 = true then (fairwaylaw7_NameOwn.j4 kj26 l0 x3_1 ((rd_T25 l0 x3_1).f1) t244) else (some false))))) else (some false))) = some r := by rw [if_pos rfl] at H; exact H
                                    clear H
                                    have H := H1
                                    clear H1
                                    replace H := Option.bind_eq_some_iff.mp H
                                    obtain ⟨t253, A550, H⟩ := H
                                    replace H : (if t253 = true then ((name_Match.f kj26 (((rd_T25 l0 x3_1).f1) ++ (⟨#[47, 43]⟩ : ByteArray)) ((rd_T25 l0 x3_1).f1)).bind fun t254 => (if t254 = true then (some false) else ((name_Match.f kj26 (((rd_T25 l0 x3_1).f1) ++ (⟨#[47, 43]⟩ : ByteArray)) (((rd_T25 l0 x3_1).f1) ++ (⟨#[47, 120]⟩ : ByteArray))).bind fun t255 => (if t255 = true then (fairwaylaw7_NameOwn.j4 kj26 l0 x3_1 ((rd_T25 l0 x3_1).f1) t244) else (some false))))) else (some false)) = some r := H
                                    have A55 := Aside0.mk A550
                                    clear A550
                                    by_cases c56 : t253 = true
                                    · subst c56
                                      have H1 : ((name_Match.f kj26 (((rd_T25 l0 x3_1).f1) ++ (⟨#[47, 43]⟩ : ByteArray)) ((rd_T25 l0 x3_1).f1)).bind fun t254 => (if t254 = true then (some false) else ((name_Match.f kj26 (((rd_T25 l0 x3_1).f1) ++ (⟨#[47, 43]⟩ : ByteArray)) (((rd_T25 l0 x3_1).f1) ++ (⟨#[47, 120]⟩ : ByteArray))).bind fun t255 => (if t255 = true then (fairwaylaw7_NameOwn.j4 kj26 l0 x3_1 ((rd_T25 l0 x3_1).f1) t244) else (some false))))) = some r := by rw [if_pos rfl] at H; exact H
                                      clear H
                                      have H := H1
                                      clear H1
                                      replace H := Option.bind_eq_some_iff.mp H
                                      obtain ⟨t254, A570, H⟩ := H
                                      replace H : (if t254 = true then (some false) else ((name_Match.f kj26 (((rd_T25 l0 x3_1).f1) ++ (⟨#[47, 43]⟩ : ByteArray)) (((rd_T25 l0 x3_1).f1) ++ (⟨#[47, 120]⟩ : ByteArray))).bind fun t255 => (if t255 = true then (fairwaylaw7_NameOwn.j4 kj26 l0 x3_1 ((rd_T25 l0 x3_1).f1) t244) else (some false)))) = some r := H
                                      have A57 := Aside0.mk A570
                                      clear A570
                                      by_cases c58 : t254 = true
                                      · subst c58
                                        have H1 : (some false) = some r := by rw [if_pos rfl] at H; exact H
                                        clear H
                                        have H := H1
                                        clear H1
                                        obtain rfl := Option.some.inj H
                                        go_wp2_with (first | ((with_reducible refine gate_callee (f := 11) rfl ?_); refine goesL_ (some 78) rfl rfl Tryd.func11 (by kernel_rfl) rfl #[.string (((rd_T25 l0 x3_1).f1) ++ (⟨#[47, 35]⟩ : ByteArray)), .string ((rd_T25 l0 x3_1).f1)] rfl (by (try simp only [List.map_toArray, List.map_cons, List.map_nil]); first | done | rfl | (simp only [List.length_drop, List.length_take]; rfl)) ?_; (with_reducible refine (name_Match.calls kj26 (((rd_T25 l0 x3_1).f1) ++ (⟨#[47, 35]⟩ : ByteArray)) ((rd_T25 l0 x3_1).f1) true _ A53.out ?side1).mono ?_); (case side1 => exact Tabs_below HT.out (by repeat (first | (with_reducible first | exact HB.out | apply below_alloc | apply pw_below_drewN | apply below_drew1) | exact HB.out))); rintro e w59 ⟨rfl, hb⟩; refine ⟨_, rfl, ?_⟩; have n0_ := Aside0.mk (Kd.R_below (by (with_reducible repeat (first | apply Kd.R_alloc | apply Kd.R_drewN | apply Kd.R_drew)); exact HO_5.out) hb); have n1_ := Aside0.mk (below_step (by repeat (first | (with_reducible first | exact HB.out | apply below_alloc | apply pw_below_drewN | apply below_drew1) | exact HB.out)) hb); clear HO_5; clear HB; have HO_5 := n0_; have HB := n1_; clear n0_ n1_; (try clear hb); (try clear hb2); (try clear hk); (try clear hi)) | (go_at_call 11; (with_reducible refine (name_Match.calls kj26 (((rd_T25 l0 x3_1).f1) ++ (⟨#[47, 35]⟩ : ByteArray)) (((rd_T25 l0 x3_1).f1) ++ (⟨#[47, 120]⟩ : ByteArray)) true _ A55.out ?side1).mono ?_); (case side1 => exact Tabs_below HT.out (by repeat (first | (with_reducible first | exact HB.out | apply below_alloc | apply pw_below_drewN | apply below_drew1) | exact HB.out))); rintro e w60 ⟨rfl, hb⟩; have n0_ := Aside0.mk (Kd.R_below (by (with_reducible repeat (first | apply Kd.R_alloc | apply Kd.R_drewN | apply Kd.R_drew)); exact HO_5.out) hb); have n1_ := Aside0.mk (below_step (by repeat (first | (with_reducible first | exact HB.out | apply below_alloc | apply pw_below_drewN | apply below_drew1) | exact HB.out)) hb); clear HO_5; clear HB; have HO_5 := n0_; have HB := n1_; clear n0_ n1_; (try clear hb); (try clear hb2); (try clear hk); (try clear hi)) | (go_at_call 11; (with_reducible refine (name_Match.calls kj26 (((rd_T25 l0 x3_1).f1) ++ (⟨#[47, 43]⟩ : ByteArray)) ((rd_T25 l0 x3_1).f1) true _ A57.out ?side1).mono ?_); (case side1 => exact Tabs_below HT.out (by repeat (first | (with_reducible first | exact HB.out | apply below_alloc | apply pw_below_drewN | apply below_drew1) | exact HB.out))); rintro e w61 ⟨rfl, hb⟩; have n0_ := Aside0.mk (Kd.R_below (by (with_reducible repeat (first | apply Kd.R_alloc | apply Kd.R_drewN | apply Kd.R_drew)); exact HO_5.out) hb); have n1_ := Aside0.mk (below_step (by repeat (first | (with_reducible first | exact HB.out | apply below_alloc | apply pw_below_drewN | apply below_drew1) | exact HB.out)) hb); clear HO_5; clear HB; have HO_5 := n0_; have HB := n1_; clear n0_ n1_; (try clear hb); (try clear hb2); (try clear hk); (try clear hi)))
                                        go_ret
                                        exact ⟨by first | rfl | (simp [errW_none, errW_some] <;> rfl) | (simp [*, errW_none, errW_some] <;> rfl), by repeat (first | (with_reducible first | exact HB.out | apply below_alloc | apply pw_below_drewN | apply below_drew1) | exact HB.out)⟩
                                      · replace c58 := Bool.eq_false_iff.mpr c58
                                        subst c58
                                        have H1 : ((name_Match.f kj26 (((rd_T25 l0 x3_1).f1) ++ (⟨#[47, 43]⟩ : ByteArray)) (((rd_T25 l0 x3_1).f1) ++ (⟨#[47, 120]⟩ : ByteArray))).bind fun t255 => (if t255 = true then (fairwaylaw7_NameOwn.j4 kj26 l0 x3_1 ((rd_T25 l0 x3_1).f1) t244) else (some false))) = some r := by rw [if_neg (show ¬ (false = true) by decide)] at H; exact H
                                        clear H
                                        have H := H1
                                        clear H1
                                        replace H := Option.bind_eq_some_iff.mp H
                                        obtain ⟨t255, A620, H⟩ := H
                                        replace H : (if t255 = true then (fairwaylaw7_NameOwn.j4 kj26 l0 x3_1 ((rd_T25 l0 x3_1).f1) t244) else (some false)) = some r := H
                                        have A62 := Aside0.mk A620
                                        clear A620
                                        by_cases c63 : t255 = true
                                        · subst c63
                                          have H1 : (fairwaylaw7_NameOwn.j4 kj26 l0 x3_1 ((rd_T25 l0 x3_1).f1) t244) = some r := by rw [if_pos rfl] at H; exact H
                                          clear H
                                          have H := H1
                                          clear H1
                                          have H' := Aside0.mk H
                                          clear H
                                          go_wp2_with (first | ((with_reducible refine gate_callee (f := 11) rfl ?_); refine goesL_ (some 78) rfl rfl Tryd.func11 (by kernel_rfl) rfl #[.string (((rd_T25 l0 x3_1).f1) ++ (⟨#[47, 35]⟩ : ByteArray)), .string ((rd_T25 l0 x3_1).f1)] rfl (by (try simp only [List.map_toArray, List.map_cons, List.map_nil]); first | done | rfl | (simp only [List.length_drop, List.length_take]; rfl)) ?_; (with_reducible refine (name_Match.calls kj26 (((rd_T25 l0 x3_1).f1) ++ (⟨#[47, 35]⟩ : ByteArray)) ((rd_T25 l0 x3_1).f1) true _ A53.out ?side1).mono ?_); (case side1 => exact Tabs_below HT.out (by repeat (first | (with_reducible first | exact HB.out | apply below_alloc | apply pw_below_drewN | apply below_drew1) | exact HB.out))); rintro e w64 ⟨rfl, hb⟩; refine ⟨_, rfl, ?_⟩; have n0_ := Aside0.mk (Kd.R_below (by (with_reducible repeat (first | apply Kd.R_alloc | apply Kd.R_drewN | apply Kd.R_drew)); exact HO_5.out) hb); have n1_ := Aside0.mk (below_step (by repeat (first | (with_reducible first | exact HB.out | apply below_alloc | apply pw_below_drewN | apply below_drew1) | exact HB.out)) hb); clear HO_5; clear HB; have HO_5 := n0_; have HB := n1_; clear n0_ n1_; (try clear hb); (try clear hb2); (try clear hk); (try clear hi)) | (go_at_call 11; (with_reducible refine (name_Match.calls kj26 (((rd_T25 l0 x3_1).f1) ++ (⟨#[47, 35]⟩ : ByteArray)) (((rd_T25 l0 x3_1).f1) ++ (⟨#[47, 120]⟩ : ByteArray)) true _ A55.out ?side1).mono ?_); (case side1 => exact Tabs_below HT.out (by repeat (first | (with_reducible first | exact HB.out | apply below_alloc | apply pw_below_drewN | apply below_drew1) | exact HB.out))); rintro e w65 ⟨rfl, hb⟩; have n0_ := Aside0.mk (Kd.R_below (by (with_reducible repeat (first | apply Kd.R_alloc | apply Kd.R_drewN | apply Kd.R_drew)); exact HO_5.out) hb); have n1_ := Aside0.mk (below_step (by repeat (first | (with_reducible first | exact HB.out | apply below_alloc | apply pw_below_drewN | apply below_drew1) | exact HB.out)) hb); clear HO_5; clear HB; have HO_5 := n0_; have HB := n1_; clear n0_ n1_; (try clear hb); (try clear hb2); (try clear hk); (try clear hi)) | (go_at_call 11; (with_reducible refine (name_Match.calls kj26 (((rd_T25 l0 x3_1).f1) ++ (⟨#[47, 43]⟩ : ByteArray)) ((rd_T25 l0 x3_1).f1) false _ A57.out ?side1).mono ?_); (case side1 => exact Tabs_below HT.out (by repeat (first | (with_reducible first | exact HB.out | apply below_alloc | apply pw_below_drewN | apply below_drew1) | exact HB.out))); rintro e w66 ⟨rfl, hb⟩; have n0_ := Aside0.mk (Kd.R_below (by (with_reducible repeat (first | apply Kd.R_alloc | apply Kd.R_drewN | apply Kd.R_drew)); exact HO_5.out) hb); have n1_ := Aside0.mk (below_step (by repeat (first | (with_reducible first | exact HB.out | apply below_alloc | apply pw_below_drewN | apply below_drew1) | exact HB.out)) hb); clear HO_5; clear HB; have HO_5 := n0_; have HB := n1_; clear n0_ n1_; (try clear hb); (try clear hb2); (try clear hk); (try clear hi)) | (go_at_call 11; (with_reducible refine (name_Match.calls kj26 (((rd_T25 l0 x3_1).f1) ++ (⟨#[47, 43]⟩ : ByteArray)) (((rd_T25 l0 x3_1).f1) ++ (⟨#[47, 120]⟩ : ByteArray)) true _ A62.out ?side1).mono ?_); (case side1 => exact Tabs_below HT.out (by repeat (first | (with_reducible first | exact HB.out | apply below_alloc | apply pw_below_drewN | apply below_drew1) | exact HB.out))); rintro e w67 ⟨rfl, hb⟩; have n0_ := Aside0.mk (Kd.R_below (by (with_reducible repeat (first | apply Kd.R_alloc | apply Kd.R_drewN | apply Kd.R_drew)); exact HO_5.out) hb); have n1_ := Aside0.mk (below_step (by repeat (first | (with_reducible first | exact HB.out | apply below_alloc | apply pw_below_drewN | apply below_drew1) | exact HB.out)) hb); clear HO_5; clear HB; have HO_5 := n0_; have HB := n1_; clear n0_ n1_; (try clear hb); (try clear hb2); (try clear hk); (try clear hi)))
                                          go_meet
                                          case rel => exact ⟨_, H', ⟨by have := HK1.out; have := HJ1.out; have := HJ6.out; have := HJ26.out; first | omega | exact Nat.le_refl _⟩, ⟨by (with_reducible repeat (first | apply Kd.R_alloc | apply Kd.R_drewN | apply Kd.R_drew)); exact HO_5.out⟩, ⟨by repeat (first | (with_reducible first | exact HB.out | apply below_alloc | apply pw_below_drewN | apply below_drew1) | exact HB.out)⟩⟩
                                        · replace c63 := Bool.eq_false_iff.mpr c63
                                          subst c63
                                          have H1 : (some false) = some r := by rw [if_neg (show ¬ (false = true) by decide)] at H; exact H
                                          clear H
                                          have H := H1
                                          clear H1
                                          obtain rfl := Option.some.inj H
                                          go_wp2_with (first | ((with_reducible refine gate_callee (f := 11) rfl ?_); refine goesL_ (some 78) rfl rfl Tryd.func11 (by kernel_rfl) rfl #[.string (((rd_T25 l0 x3_1).f1) ++ (⟨#[47, 35]⟩ : ByteArray)), .string ((rd_T25 l0 x3_1).f1)] rfl (by (try simp only [List.map_toArray, List.map_cons, List.map_nil]); first | done | rfl | (simp only [List.length_drop, List.length_take]; rfl)) ?_; (with_reducible refine (name_Match.calls kj26 (((rd_T25 l0 x3_1).f1) ++ (⟨#[47, 35]⟩ : ByteArray)) ((rd_T25 l0 x3_1).f1) true _ A53.out ?side1).mono ?_); (case side1 => exact Tabs_below HT.out (by repeat (first | (with_reducible first | exact HB.out | apply below_alloc | apply pw_below_drewN | apply below_drew1) | exact HB.out))); rintro e w68 ⟨rfl, hb⟩; refine ⟨_, rfl, ?_⟩; have n0_ := Aside0.mk (Kd.R_below (by (with_reducible repeat (first | apply Kd.R_alloc | apply Kd.R_drewN | apply Kd.R_drew)); exact HO_5.out) hb); have n1_ := Aside0.mk (below_step (by repeat (first | (with_reducible first | exact HB.out | apply below_alloc | apply pw_below_drewN | apply below_drew1) | exact HB.out)) hb); clear HO_5; clear HB; have HO_5 := n0_; have HB := n1_; clear n0_ n1_; (try clear hb); (try clear hb2); (try clear hk); (try clear hi)) | (go_at_call 11; (with_reducible refine (name_Match.calls kj26 (((rd_T25 l0 x3_1).f1) ++ (⟨#[47, 35]⟩ : ByteArray)) (((rd_T25 l0 x3_1).f1) ++ (⟨#[47, 120]⟩ : ByteArray)) true _ A55.out ?side1).mono ?_); (case side1 => exact Tabs_below HT.out (by repeat (first | (with_reducible first | exact HB.out | apply below_alloc | apply pw_below_drewN | apply below_drew1) | exact HB.out))); rintro e w69 ⟨rfl, hb⟩; have n0_ := Aside0.mk (Kd.R_below (by (with_reducible repeat (first | apply Kd.R_alloc | apply Kd.R_drewN | apply Kd.R_drew)); exact HO_5.out) hb); have n1_ := Aside0.mk (below_step (by repeat (first | (with_reducible first | exact HB.out | apply below_alloc | apply pw_below_drewN | apply below_drew1) | exact HB.out)) hb); clear HO_5; clear HB; have HO_5 := n0_; have HB := n1_; clear n0_ n1_; (try clear hb); (try clear hb2); (try clear hk); (try clear hi)) | (go_at_call 11; (with_reducible refine (name_Match.calls kj26 (((rd_T25 l0 x3_1).f1) ++ (⟨#[47, 43]⟩ : ByteArray)) ((rd_T25 l0 x3_1).f1) false _ A57.out ?side1).mono ?_); (case side1 => exact Tabs_below HT.out (by repeat (first | (with_reducible first | exact HB.out | apply below_alloc | apply pw_below_drewN | apply below_drew1) | exact HB.out))); rintro e w70 ⟨rfl, hb⟩; have n0_ := Aside0.mk (Kd.R_below (by (with_reducible repeat (first | apply Kd.R_alloc | apply Kd.R_drewN | apply Kd.R_drew)); exact HO_5.out) hb); have n1_ := Aside0.mk (below_step (by repeat (first | (with_reducible first | exact HB.out | apply below_alloc | apply pw_below_drewN | apply below_drew1) | exact HB.out)) hb); clear HO_5; clear HB; have HO_5 := n0_; have HB := n1_; clear n0_ n1_; (try clear hb); (try clear hb2); (try clear hk); (try clear hi)) | (go_at_call 11; (with_reducible refine (name_Match.calls kj26 (((rd_T25 l0 x3_1).f1) ++ (⟨#[47, 43]⟩ : ByteArray)) (((rd_T25 l0 x3_1).f1) ++ (⟨#[47, 120]⟩ : ByteArray)) false _ A62.out ?side1).mono ?_); (case side1 => exact Tabs_below HT.out (by repeat (first | (with_reducible first | exact HB.out | apply below_alloc | apply pw_below_drewN | apply below_drew1) | exact HB.out))); rintro e w71 ⟨rfl, hb⟩; have n0_ := Aside0.mk (Kd.R_below (by (with_reducible repeat (first | apply Kd.R_alloc | apply Kd.R_drewN | apply Kd.R_drew)); exact HO_5.out) hb); have n1_ := Aside0.mk (below_step (by repeat (first | (with_reducible first | exact HB.out | apply below_alloc | apply pw_below_drewN | apply below_drew1) | exact HB.out)) hb); clear HO_5; clear HB; have HO_5 := n0_; have HB := n1_; clear n0_ n1_; (try clear hb); (try clear hb2); (try clear hk); (try clear hi)))
                                          go_ret
                                          exact ⟨by first | rfl | (simp [errW_none, errW_some] <;> rfl) | (simp [*, errW_none, errW_some] <;> rfl), by repeat (first | (with_reducible first | exact HB.out | apply below_alloc | apply pw_below_drewN | apply below_drew1) | exact HB.out)⟩
                                    · replace c56 := Bool.eq_false_iff.mpr c56
                                      subst c56
                                      have H1 : (some false) = some r := by rw [if_neg (show ¬ (false = true) by decide)] at H; exact H
                                      clear H
                                      have H := H1
                                      clear H1
                                      obtain rfl := Option.some.inj H
                                      go_wp2_with (first | ((with_reducible refine gate_callee (f := 11) rfl ?_); refine goesL_ (some 78) rfl rfl Tryd.func11 (by kernel_rfl) rfl #[.string (((rd_T25 l0 x3_1).f1) ++ (⟨#[47, 35]⟩ : ByteArray)), .string ((rd_T25 l0 x3_1).f1)] rfl (by (try simp only [List.map_toArray, List.map_cons, List.map_nil]); first | done | rfl | (simp only [List.length_drop, List.length_take]; rfl)) ?_; (with_reducible refine (name_Match.calls kj26 (((rd_T25 l0 x3_1).f1) ++ (⟨#[47, 35]⟩ : ByteArray)) ((rd_T25 l0 x3_1).f1) true _ A53.out ?side1).mono ?_); (case side1 => exact Tabs_below HT.out (by repeat (first | (with_reducible first | exact HB.out | apply below_alloc | apply pw_below_drewN | apply below_drew1) | exact HB.out))); rintro e w72 ⟨rfl, hb⟩; refine ⟨_, rfl, ?_⟩; have n0_ := Aside0.mk (Kd.R_below (by (with_reducible repeat (first | apply Kd.R_alloc | apply Kd.R_drewN | apply Kd.R_drew)); exact HO_5.out) hb); have n1_ := Aside0.mk (below_step (by repeat (first | (with_reducible first | exact HB.out | apply below_alloc | apply pw_below_drewN | apply below_drew1) | exact HB.out)) hb); clear HO_5; clear HB; have HO_5 := n0_; have HB := n1_; clear n0_ n1_; (try clear hb); (try clear hb2); (try clear hk); (try clear hi)) | (go_at_call 11; (with_reducible refine (name_Match.calls kj26 (((rd_T25 l0 x3_1).f1) ++ (⟨#[47, 35]⟩ : ByteArray)) (((rd_T25 l0 x3_1).f1) ++ (⟨#[47, 120]⟩ : ByteArray)) false _ A55.out ?side1).mono ?_); (case side1 => exact Tabs_below HT.out (by repeat (first | (with_reducible first | exact HB.out | apply below_alloc | apply pw_below_drewN | apply below_drew1) | exact HB.out))); rintro e w73 ⟨rfl, hb⟩; have n0_ := Aside0.mk (Kd.R_below (by (with_reducible repeat (first | apply Kd.R_alloc | apply Kd.R_drewN | apply Kd.R_drew)); exact HO_5.out) hb); have n1_ := Aside0.mk (below_step (by repeat (first | (with_reducible first | exact HB.out | apply below_alloc | apply pw_below_drewN | apply below_drew1) | exact HB.out)) hb); clear HO_5; clear HB; have HO_5 := n0_; have HB := n1_; clear n0_ n1_; (try clear hb); (try clear hb2); (try clear hk); (try clear hi)))
                                      go_ret
                                      exact ⟨by first | rfl | (simp [errW_none, errW_some] <;> rfl) | (simp [*, errW_none, errW_some] <;> rfl), by repeat (first | (with_reducible first | exact HB.out | apply below_alloc | apply pw_below_drewN | apply below_drew1) | exact HB.out)⟩
                                  · replace c54 := Bool.eq_false_iff.mpr c54
                                    subst c54
                                    have H1 : (some false) = some r := by rw [if_neg (show ¬ (false = true) by decide)] at H; exact H
                                    clear H
                                    have H := H1
                                    clear H1
                                    obtain rfl := Option.some.inj H
                                    go_wp2_with (first | ((with_reducible refine gate_callee (f := 11) rfl ?_); refine goesL_ (some 78) rfl rfl Tryd.func11 (by kernel_rfl) rfl #[.string (((rd_T25 l0 x3_1).f1) ++ (⟨#[47, 35]⟩ : ByteArray)), .string ((rd_T25 l0 x3_1).f1)] rfl (by (try simp only [List.map_toArray, List.map_cons, List.map_nil]); first | done | rfl | (simp only [List.length_drop, List.length_take]; rfl)) ?_; (with_reducible refine (name_Match.calls kj26 (((rd_T25 l0 x3_1).f1) ++ (⟨#[47, 35]⟩ : ByteArray)) ((rd_T25 l0 x3_1).f1) false _ A53.out ?side1).mono ?_); (case side1 => exact Tabs_below HT.out (by repeat (first | (with_reducible first | exact HB.out | apply below_alloc | apply pw_below_drewN | apply below_drew1) | exact HB.out))); rintro e w74 ⟨rfl, hb⟩; refine ⟨_, rfl, ?_⟩; have n0_ := Aside0.mk (Kd.R_below (by (with_reducible repeat (first | apply Kd.R_alloc | apply Kd.R_drewN | apply Kd.R_drew)); exact HO_5.out) hb); have n1_ := Aside0.mk (below_step (by repeat (first | (with_reducible first | exact HB.out | apply below_alloc | apply pw_below_drewN | apply below_drew1) | exact HB.out)) hb); clear HO_5; clear HB; have HO_5 := n0_; have HB := n1_; clear n0_ n1_; (try clear hb); (try clear hb2); (try clear hk); (try clear hi)))
                                    go_ret
                                    exact ⟨by first | rfl | (simp [errW_none, errW_some] <;> rfl) | (simp [*, errW_none, errW_some] <;> rfl), by repeat (first | (with_reducible first | exact HB.out | apply below_alloc | apply pw_below_drewN | apply below_drew1) | exact HB.out)⟩
                                · rw [if_neg c52] at H
                                  exact absurd H (by simp)
                              · rw [if_neg c51] at H
                                have c51b0 : decide ((t244.length : Int) < 16) = false := decide_eq_false c51
                                have c51b1 : decide (t244.length < 16) = false := decide_eq_false (by omega)
                                clear c51
                                (first | rw [c51b0] | (simp only [i64_w, i32_w]; rw [c51b0]) | skip)
                                have H' := Aside0.mk H
                                clear H
                                go_wp2
                                go_meet
                                case rel => exact ⟨_, H', ⟨by have := HK1.out; have := HJ1.out; have := HJ6.out; have := HJ26.out; first | omega | exact Nat.le_refl _⟩, ⟨by (with_reducible repeat (first | apply Kd.R_alloc | apply Kd.R_drewN | apply Kd.R_drew)); exact HO_5.out⟩, ⟨by repeat (first | (with_reducible first | exact HB.out | apply below_alloc | apply pw_below_drewN | apply below_drew1) | exact HB.out)⟩⟩
                            case rest =>
                              clear HC49
                              try clear c1
                              try clear p1
                              try clear q1
                              try clear hx1
                              try clear qi1
                              try clear c2
                              try clear p2
                              try clear q2
                              try clear hx2
                              try clear c3
                              try clear c3b0
                              try clear c4
                              try clear c5
                              try clear c5b0
                              try clear c6
                              try clear c6b0
                              try clear p6
                              try clear c9
                              try clear c10
                              try clear c11
                              try clear c11b0
                              try clear c11b1
                              try clear c15
                              try clear c15b0
                              try clear c15b1
                              try clear c16
                              try clear c16b0
                              try clear c16b1
                              try clear p17
                              try clear q17
                              try clear hx17
                              try clear qi17
                              try clear c18
                              try clear c18b0
                              try clear c18b1
                              try clear p23
                              try clear q23
                              try clear hx23
                              try clear p24
                              try clear q24
                              try clear hx24
                              try clear c25
                              try clear c30
                              try clear c31
                              try clear c31b0
                              try clear c31b1
                              try clear c31b2
                              try clear c33
                              try clear c38
                              try clear c38b0
                              try clear c38b1
                              try clear c48
                              try clear c51
                              try clear c51b0
                              try clear c51b1
                              try clear c52
                              try clear c52b0
                              try clear c52b1
                              try clear c52b2
                              try clear c54
                              try clear c56
                              try clear c58
                              try clear c63
                              try clear p64
                              try clear hx239_0
                              try clear hx239_1
                              try clear hx240_0
                              try clear hx240_1
                              try clear p1
                              try clear p17
                              try clear p2
                              try clear p23
                              try clear p239
                              try clear p24
                              try clear p240
                              try clear p6
                              try clear q1
                              try clear q17
                              try clear q2
                              try clear q23
                              try clear q239
                              try clear q24
                              try clear q240
                              obtain ⟨kq, HA, HJ48, HO_5, HB⟩ := hcut
                              cases kq with
                              | zero => exact absurd HA.out (by simp [fairwaylaw7_NameOwn.j4])
                              | succ kj48 =>
                                have H := HA.out
                                clear HA
                                simp only [fairwaylaw7_NameOwn.j4] at H
                                have H' := Aside0.mk H
                                clear H
                                go_wp2
                                go_loopg [6] kj48 (fun kq v6 w' => ∃ (x6_6 : Int), v6 = .int .i64 x6_6 ∧ Aside0 (fairwaylaw7_NameOwn.l1 kq l0 x3_1 ((rd_T25 l0 x3_1).f1) t244 x6_6 = some r) ∧ Aside0 (kq ≤ kj48) ∧ Aside0 (Kd.R Kd.string 9 w' w.heap.size (fun _ => True) (.slice Ao50 t244.length co50) t244) ∧ Aside0 (Below w.heap.size w w'))
                                case atStart => exact ⟨(0), (by first | rfl | (simp; done) | (simp [*]; done)), H', ⟨Nat.le_refl _⟩, ⟨by (with_reducible repeat (first | apply Kd.R_alloc | apply Kd.R_drewN | apply Kd.R_drew)); exact HO_5.out⟩, ⟨by repeat (first | (with_reducible first | exact HB.out | apply below_alloc | apply pw_below_drewN | apply below_drew1) | exact HB.out)⟩⟩
                                case round =>
                                  clear H'
                                  try clear c1
                                  try clear p1
                                  try clear q1
                                  try clear hx1
                                  try clear qi1
                                  try clear c2
                                  try clear p2
                                  try clear q2
                                  try clear hx2
                                  try clear c3
                                  try clear c3b0
                                  try clear c4
                                  try clear c5
                                  try clear c5b0
                                  try clear c6
                                  try clear c6b0
                                  try clear p6
                                  try clear c9
                                  try clear c10
                                  try clear c11
                                  try clear c11b0
                                  try clear c11b1
                                  try clear c15
                                  try clear c15b0
                                  try clear c15b1
                                  try clear c16
                                  try clear c16b0
                                  try clear c16b1
                                  try clear p17
                                  try clear q17
                                  try clear hx17
                                  try clear qi17
                                  try clear c18
                                  try clear c18b0
                                  try clear c18b1
                                  try clear p23
                                  try clear q23
                                  try clear hx23
                                  try clear p24
                                  try clear q24
                                  try clear hx24
                                  try clear c25
                                  try clear c30
                                  try clear c31
                                  try clear c31b0
                                  try clear c31b1
                                  try clear c31b2
                                  try clear c33
                                  try clear c38
                                  try clear c38b0
                                  try clear c38b1
                                  try clear c48
                                  try clear c51
                                  try clear c51b0
                                  try clear c51b1
                                  try clear c52
                                  try clear c52b0
                                  try clear c52b1
                                  try clear c52b2
                                  try clear c54
                                  try clear c56
                                  try clear c58
                                  try clear c63
                                  try clear p64
                                  try clear hx239_0
                                  try clear hx239_1
                                  try clear hx240_0
                                  try clear hx240_1
                                  try clear p1
                                  try clear p17
                                  try clear p2
                                  try clear p23
                                  try clear p239
                                  try clear p24
                                  try clear p240
                                  try clear p6
                                  try clear p64
                                  try clear q1
                                  try clear q17
                                  try clear q2
                                  try clear q23
                                  try clear q239
                                  try clear q24
                                  try clear q240
                                  obtain ⟨x6_6, rfl, HA, HK6, HO_5, HB⟩ := hrel
                                  cases gk with
                                  | zero => exact absurd HA.out (by simp [fairwaylaw7_NameOwn.l1])
                                  | succ k6 =>
                                    have H := HA.out
                                    clear HA
                                    simp only [fairwaylaw7_NameOwn.l1] at H
                                    by_cases c75 : x6_6 < (t244.length : Int)
                                    · rw [if_pos c75] at H
                                      have c75b0 : decide (x6_6 < (t244.length : Int)) = true := decide_eq_true c75
                                      clear c75
                                      have H' := Aside0.mk H
                                      clear H
                                      go_wp2
                                      go_loopg [7, 8] k6 (fun kq v7 v8 w' => ∃ (x7_7 : ByteArray) (x8_7 : Int), v7 = .string x7_7 ∧ v8 = .int .i64 x8_7 ∧ Aside0 (fairwaylaw7_NameOwn.l2 kq l0 x3_1 ((rd_T25 l0 x3_1).f1) t244 x6_6 x7_7 x8_7 = some r) ∧ Aside0 (kq ≤ k6) ∧ Aside0 (Kd.R Kd.string 9 w' w.heap.size (fun _ => True) (.slice Ao50 t244.length co50) t244) ∧ Aside0 (Below w.heap.size w w'))
                                      case atStart => exact ⟨((⟨#[]⟩ : ByteArray)), (0), (by first | rfl | (simp; done) | (simp [*]; done)), (by first | rfl | (simp; done) | (simp [*]; done)), H', ⟨Nat.le_refl _⟩, ⟨by (with_reducible repeat (first | apply Kd.R_alloc | apply Kd.R_drewN | apply Kd.R_drew)); exact HO_5.out⟩, ⟨by repeat (first | (with_reducible first | exact HB.out | apply below_alloc | apply pw_below_drewN | apply below_drew1) | exact HB.out)⟩⟩
                                      case round =>
                                        clear H'
                                        try clear c1
                                        try clear p1
                                        try clear q1
                                        try clear hx1
                                        try clear qi1
                                        try clear c2
                                        try clear p2
                                        try clear q2
                                        try clear hx2
                                        try clear c3
                                        try clear c3b0
                                        try clear c4
                                        try clear c5
                                        try clear c5b0
                                        try clear c6
                                        try clear c6b0
                                        try clear p6
                                        try clear c7
                                        try clear c9
                                        try clear c10
                                        try clear c11
                                        try clear c11b0
                                        try clear c11b1
                                        try clear c15
                                        try clear c15b0
                                        try clear c15b1
                                        try clear c16
                                        try clear c16b0
                                        try clear c16b1
                                        try clear p17
                                        try clear q17
                                        try clear hx17
                                        try clear qi17
                                        try clear c18
                                        try clear c18b0
                                        try clear c18b1
                                        try clear p23
                                        try clear q23
                                        try clear hx23
                                        try clear p24
                                        try clear q24
                                        try clear hx24
                                        try clear c25
                                        try clear c30
                                        try clear c31
                                        try clear c31b0
                                        try clear c31b1
                                        try clear c31b2
                                        try clear c33
                                        try clear c38
                                        try clear c38b0
                                        try clear c38b1
                                        try clear c48
                                        try clear c51
                                        try clear c51b0
                                        try clear c51b1
                                        try clear c52
                                        try clear c52b0
                                        try clear c52b1
                                        try clear c52b2
                                        try clear c54
                                        try clear c56
                                        try clear c58
                                        try clear c63
                                        try clear p64
                                        try clear c75
                                        try clear c75b0
                                        try clear hx239_0
                                        try clear hx239_1
                                        try clear hx240_0
                                        try clear hx240_1
                                        try clear p1
                                        try clear p17
                                        try clear p2
                                        try clear p23
                                        try clear p239
                                        try clear p24
                                        try clear p240
                                        try clear p6
                                        try clear p64
                                        try clear q1
                                        try clear q17
                                        try clear q2
                                        try clear q23
                                        try clear q239
                                        try clear q24
                                        try clear q240
                                        obtain ⟨x7_7, x8_7, rfl, rfl, HA, HK7, HO_5, HB⟩ := hrel
                                        cases gk with
                                        | zero => exact absurd HA.out (by simp [fairwaylaw7_NameOwn.l2])
                                        | succ k7 =>
                                          have H := HA.out
                                          clear HA
                                          simp only [fairwaylaw7_NameOwn.l2] at H
                                          by_cases c76 : x8_7 < (t244.length : Int)
                                          · rw [if_pos c76] at H
                                            have c76b0 : decide (x8_7 < (t244.length : Int)) = true := decide_eq_true c76
                                            clear c76
                                            by_cases c77 : x8_7 > 0
                                            · rw [if_pos c77] at H
                                              have c77b0 : decide (0 < x8_7) = true := decide_eq_true c77
                                              clear c77
                                              by_cases c78 : x7_7.size + 1 ≤ 9223372036854775807
                                              · rw [if_pos c78] at H
                                                have c78b0 := eq_true c78
                                                have c78b1 : decide (x7_7.size + 1 ≤ 9223372036854775807) = true := decide_eq_true c78
                                                try have c78b2 : (9223372036854775807 < x7_7.size + 1) = False := eq_false (Nat.not_lt.2 c78)
                                                by_cases c79 : x8_7 = x6_6
                                                · rw [if_pos c79] at H
                                                  have c79b0 : (x8_7 == x6_6) = true := beq_iff_eq.mpr c79
                                                  have c79b1 : (x8_7 != x6_6) = false := bne_eq_false_iff_eq.mpr c79
                                                  clear c79
                                                  by_cases c80 : (x7_7 ++ (⟨#[47]⟩ : ByteArray)).size + 1 ≤ 9223372036854775807
                                                  · rw [if_pos c80] at H
                                                    have c80b0 := eq_true c80
                                                    have c80b1 : decide ((x7_7 ++ (⟨#[47]⟩ : ByteArray)).size + 1 ≤ 9223372036854775807) = true := decide_eq_true c80
                                                    try have c80b2 : (9223372036854775807 < (x7_7 ++ (⟨#[47]⟩ : ByteArray)).size + 1) = False := eq_false (Nat.not_lt.2 c80)
                                                    have c80b3 : (9223372036854775807 < x7_7.size + 1 + 1) = False := by have z_ := c80; rw [ByteArray.size_append] at z_; exact eq_false (Nat.not_lt.2 z_)
                                                    have H' := Aside0.mk H
                                                    clear H
                                                    go_wp2
                                                    go_roundg k7
                                                    case measure => have := HK1.out; have := HJ1.out; have := HJ6.out; have := HJ26.out; have := HJ48.out; have := HK6.out; have := HK7.out; omega
                                                    case rel => exact ⟨((x7_7 ++ (⟨#[47]⟩ : ByteArray)) ++ (⟨#[43]⟩ : ByteArray)), (wrap64 (x8_7 + 1)), (by first | rfl | (simp; done) | (simp [*]; done)), (by first | rfl | (simp; done) | (simp [*]; done)), H', ⟨by have := HK1.out; have := HJ1.out; have := HJ6.out; have := HJ26.out; have := HJ48.out; have := HK6.out; have := HK7.out; omega⟩, ⟨by (with_reducible repeat (first | apply Kd.R_alloc | apply Kd.R_drewN | apply Kd.R_drew)); exact HO_5.out⟩, ⟨by repeat (first | (with_reducible first | exact HB.out | apply below_alloc | apply pw_below_drewN | apply below_drew1) | exact HB.out)⟩⟩
                                                  · rw [if_neg c80] at H
                                                    exact absurd H (by simp)
                                                · rw [if_neg c79] at H
                                                  have c79b0 : (x8_7 == x6_6) = false := beq_eq_false_iff_ne.mpr c79
                                                  have c79b1 : (x8_7 != x6_6) = true := bne_iff_ne.mpr c79
                                                  by_cases c81 : 0 ≤ x8_7
                                                  · rw [if_pos c81] at H
                                                    have c81b0 : decide (0 ≤ x8_7) = true := decide_eq_true c81
                                                    clear c81
                                                    by_cases c82 : (x7_7 ++ (⟨#[47]⟩ : ByteArray)).size + (rdOf ByteArray.empty t244 x8_7).size ≤ 9223372036854775807
                                                    · rw [if_pos c82] at H
                                                      have c82b0 := eq_true c82
                                                      have c82b1 : decide ((x7_7 ++ (⟨#[47]⟩ : ByteArray)).size + (rdOf ByteArray.empty t244 x8_7).size ≤ 9223372036854775807) = true := decide_eq_true c82
                                                      try have c82b2 : (9223372036854775807 < (x7_7 ++ (⟨#[47]⟩ : ByteArray)).size + (rdOf ByteArray.empty t244 x8_7).size) = False := eq_false (Nat.not_lt.2 c82)
                                                      have c82b3 : (9223372036854775807 < x7_7.size + 1 + (rdOf ByteArray.empty t244 x8_7).size) = False := by have z_ := c82; rw [ByteArray.size_append] at z_; exact eq_false (Nat.not_lt.2 z_)
                                                      have H' := Aside0.mk H
                                                      clear H
                                                      have p256 : 0 ≤ (x8_7 : Int) := of_decide_eq_true (by first | (with_reducible assumption) | assumption)
                                                      have q256 : x8_7 < (t244.length : Int) := of_decide_eq_true (by first | (with_reducible assumption) | assumption)
                                                      obtain ⟨ad256, e256, hx256_0⟩ := Kd.at_string (Kd.R_reads' HO_5.out).2.2 x8_7 p256 q256
                                                      cases e256
                                                      replace p256 := eq_true p256
                                                      replace q256 := eq_true q256
                                                      go_wp2
                                                      go_roundg k7
                                                      case measure => have := HK1.out; have := HJ1.out; have := HJ6.out; have := HJ26.out; have := HJ48.out; have := HK6.out; have := HK7.out; omega
                                                      case rel => exact ⟨((x7_7 ++ (⟨#[47]⟩ : ByteArray)) ++ (rdOf ByteArray.empty t244 x8_7)), (wrap64 (x8_7 + 1)), (by first | rfl | (simp; done) | (simp [*]; done)), (by first | rfl | (simp; done) | (simp [*]; done)), H', ⟨by have := HK1.out; have := HJ1.out; have := HJ6.out; have := HJ26.out; have := HJ48.out; have := HK6.out; have := HK7.out; omega⟩, ⟨by (with_reducible repeat (first | apply Kd.R_alloc | apply Kd.R_drewN | apply Kd.R_drew)); exact HO_5.out⟩, ⟨by repeat (first | (with_reducible first | exact HB.out | apply below_alloc | apply pw_below_drewN | apply below_drew1) | exact HB.out)⟩⟩
                                                    · rw [if_neg c82] at H
                                                      exact absurd H (by simp)
                                                  · rw [if_neg c81] at H
                                                    exact absurd H (by simp)
                                              · rw [if_neg c78] at H
                                                exact absurd H (by simp)
                                            · rw [if_neg c77] at H
                                              have c77b0 : decide (0 < x8_7) = false := decide_eq_false c77
                                              clear c77
                                              by_cases c83 : x8_7 = x6_6
                                              · rw [if_pos c83] at H
                                                have c83b0 : (x8_7 == x6_6) = true := beq_iff_eq.mpr c83
                                                have c83b1 : (x8_7 != x6_6) = false := bne_eq_false_iff_eq.mpr c83
                                                clear c83
                                                by_cases c84 : x7_7.size + 1 ≤ 9223372036854775807
                                                · rw [if_pos c84] at H
                                                  have c84b0 := eq_true c84
                                                  have c84b1 : decide (x7_7.size + 1 ≤ 9223372036854775807) = true := decide_eq_true c84
                                                  try have c84b2 : (9223372036854775807 < x7_7.size + 1) = False := eq_false (Nat.not_lt.2 c84)
                                                  have H' := Aside0.mk H
                                                  clear H
                                                  go_wp2
                                                  go_roundg k7
                                                  case measure => have := HK1.out; have := HJ1.out; have := HJ6.out; have := HJ26.out; have := HJ48.out; have := HK6.out; have := HK7.out; omega
                                                  case rel => exact ⟨(x7_7 ++ (⟨#[43]⟩ : ByteArray)), (wrap64 (x8_7 + 1)), (by first | rfl | (simp; done) | (simp [*]; done)), (by first | rfl | (simp; done) | (simp [*]; done)), H', ⟨by have := HK1.out; have := HJ1.out; have := HJ6.out; have := HJ26.out; have := HJ48.out; have := HK6.out; have := HK7.out; omega⟩, ⟨by (with_reducible repeat (first | apply Kd.R_alloc | apply Kd.R_drewN | apply Kd.R_drew)); exact HO_5.out⟩, ⟨by repeat (first | (with_reducible first | exact HB.out | apply below_alloc | apply pw_below_drewN | apply below_drew1) | exact HB.out)⟩⟩
                                                · rw [if_neg c84] at H
                                                  exact absurd H (by simp)
                                              · rw [if_neg c83] at H
                                                have c83b0 : (x8_7 == x6_6) = false := beq_eq_false_iff_ne.mpr c83
                                                have c83b1 : (x8_7 != x6_6) = true := bne_iff_ne.mpr c83
                                                by_cases c85 : 0 ≤ x8_7
                                                · rw [if_pos c85] at H
                                                  have c85b0 : decide (0 ≤ x8_7) = true := decide_eq_true c85
                                                  clear c85
                                                  by_cases c86 : x7_7.size + (rdOf ByteArray.empty t244 x8_7).size ≤ 9223372036854775807
                                                  · rw [if_pos c86] at H
                                                    have c86b0 := eq_true c86
                                                    have c86b1 : decide (x7_7.size + (rdOf ByteArray.empty t244 x8_7).size ≤ 9223372036854775807) = true := decide_eq_true c86
                                                    try have c86b2 : (9223372036854775807 < x7_7.size + (rdOf ByteArray.empty t244 x8_7).size) = False := eq_false (Nat.not_lt.2 c86)
                                                    have H' := Aside0.mk H
                                                    clear H
                                                    have p257 : 0 ≤ (x8_7 : Int) := of_decide_eq_true (by first | (with_reducible assumption) | assumption)
                                                    have q257 : x8_7 < (t244.length : Int) := of_decide_eq_true (by first | (with_reducible assumption) | assumption)
                                                    obtain ⟨ad257, e257, hx257_0⟩ := Kd.at_string (Kd.R_reads' HO_5.out).2.2 x8_7 p257 q257
                                                    cases e257
                                                    replace p257 := eq_true p257
                                                    replace q257 := eq_true q257
                                                    go_wp2
                                                    go_roundg k7
                                                    case measure => have := HK1.out; have := HJ1.out; have := HJ6.out; have := HJ26.out; have := HJ48.out; have := HK6.out; have := HK7.out; omega
                                                    case rel => exact ⟨(x7_7 ++ (rdOf ByteArray.empty t244 x8_7)), (wrap64 (x8_7 + 1)), (by first | rfl | (simp; done) | (simp [*]; done)), (by first | rfl | (simp; done) | (simp [*]; done)), H', ⟨by have := HK1.out; have := HJ1.out; have := HJ6.out; have := HJ26.out; have := HJ48.out; have := HK6.out; have := HK7.out; omega⟩, ⟨by (with_reducible repeat (first | apply Kd.R_alloc | apply Kd.R_drewN | apply Kd.R_drew)); exact HO_5.out⟩, ⟨by repeat (first | (with_reducible first | exact HB.out | apply below_alloc | apply pw_below_drewN | apply below_drew1) | exact HB.out)⟩⟩
                                                  · rw [if_neg c86] at H
                                                    exact absurd H (by simp)
                                                · rw [if_neg c85] at H
                                                  exact absurd H (by simp)
                                          · rw [if_neg c76] at H
                                            have c76b0 : decide (x8_7 < (t244.length : Int)) = false := decide_eq_false c76
                                            clear c76
                                            replace H := Option.bind_eq_some_iff.mp H
                                            obtain ⟨t258, A870, H⟩ := H
                                            replace H : ((fairwaylaw7_num.f t258).bind fun t259 => (if t259 = 0 then ((name_Match.f k7 x7_7 ((rd_T25 l0 x3_1).f1)).bind fun t260 => (if t260 = true then (fairwaylaw7_NameOwn.l1 k7 l0 x3_1 ((rd_T25 l0 x3_1).f1) t244 (wrap64 (x6_6 + 1))) else (some false))) else (fairwaylaw7_NameOwn.l1 k7 l0 x3_1 ((rd_T25 l0 x3_1).f1) t244 (wrap64 (x6_6 + 1))))) = some r := H
                                            have A87 := Aside0.mk A870
                                            clear A870
                                            replace H := Option.bind_eq_some_iff.mp H
                                            obtain ⟨t259, A880, H⟩ := H
                                            replace H : (if t259 = 0 then ((name_Match.f k7 x7_7 ((rd_T25 l0 x3_1).f1)).bind fun t260 => (if t260 = true then (fairwaylaw7_NameOwn.l1 k7 l0 x3_1 ((rd_T25 l0 x3_1).f1) t244 (wrap64 (x6_6 + 1))) else (some false))) else (fairwaylaw7_NameOwn.l1 k7 l0 x3_1 ((rd_T25 l0 x3_1).f1) t244 (wrap64 (x6_6 + 1)))) = some r := H
                                            have A88 := Aside0.mk A880
                                            clear A880
                                            by_cases c89 : t259 = 0
                                            · rw [if_pos c89] at H
                                              have c89b0 : (t259 == 0) = true := beq_iff_eq.mpr c89
                                              have c89b1 : (t259 != 0) = false := bne_eq_false_iff_eq.mpr c89
                                              clear c89
                                              replace H := Option.bind_eq_some_iff.mp H
                                              obtain ⟨t260, A900, H⟩ := H
                                              replace H : (if t260 = true then (fairwaylaw7_NameOwn.l1 k7 l0 x3_1 ((rd_T25 l0 x3_1).f1) t244 (wrap64 (x6_6 + 1))) else (some false)) = some r := H
                                              have A90 := Aside0.mk A900
                                              clear A900
                                              by_cases c91 : t260 = true
                                              · subst c91
                                                have H1 : (fairwaylaw7_NameOwn.l1 k7 l0 x3_1 ((rd_T25 l0 x3_1).f1) t244 (wrap64 (x6_6 + 1))) = some r := by rw [if_pos rfl] at H; exact H
                                                clear H
                                                have H := H1
                                                clear H1
                                                have H' := Aside0.mk H
                                                clear H
                                                go_wp2_with (first | ((with_reducible refine gate_callee (f := 17) rfl ?_); refine goesL_ (some 130) rfl rfl Tryd.func17 (by kernel_rfl) rfl #[.string x7_7] rfl (by (try simp only [List.map_toArray, List.map_cons, List.map_nil]); first | done | rfl | (simp only [List.length_drop, List.length_take]; rfl)) ?_; (with_reducible refine (name_Filter.calls k7 x7_7 t258 _ A87.out ?side1).mono ?_); (case side1 => exact Tabs_below HT.out (by repeat (first | (with_reducible first | exact HB.out | apply below_alloc | apply pw_below_drewN | apply below_drew1) | exact HB.out))); rintro e w92 ⟨rfl, hb⟩; refine ⟨_, rfl, ?_⟩; have n0_ := Aside0.mk (Kd.R_below (by (with_reducible repeat (first | apply Kd.R_alloc | apply Kd.R_drewN | apply Kd.R_drew)); exact HO_5.out) hb); have n1_ := Aside0.mk (below_step (by repeat (first | (with_reducible first | exact HB.out | apply below_alloc | apply pw_below_drewN | apply below_drew1) | exact HB.out)) hb); clear HO_5; clear HB; have HO_5 := n0_; have HB := n1_; clear n0_ n1_; (try clear hb); (try clear hb2); (try clear hk); (try clear hi)) | ((with_reducible refine gate_callee (f := 14) rfl ?_); refine goesL_ (some 131) rfl rfl Tryd.func14 (by kernel_rfl) rfl #[.int .i64 t258] rfl (by (try simp only [List.map_toArray, List.map_cons, List.map_nil]); first | done | rfl | (simp only [List.length_drop, List.length_take]; rfl)) ?_; (with_reducible refine (fairwaylaw7_num.calls t258 t259 _ A88.out).mono ?_); rintro e w' ⟨rfl, ⟨nd, rfl⟩⟩; refine ⟨_, rfl, ?_⟩) | (go_at_call 11; (with_reducible refine (name_Match.calls k7 x7_7 ((rd_T25 l0 x3_1).f1) true _ A90.out ?side1).mono ?_); (case side1 => exact Tabs_below HT.out (by repeat (first | (with_reducible first | exact HB.out | apply below_alloc | apply pw_below_drewN | apply below_drew1) | exact HB.out))); rintro e w93 ⟨rfl, hb⟩; have n0_ := Aside0.mk (Kd.R_below (by (with_reducible repeat (first | apply Kd.R_alloc | apply Kd.R_drewN | apply Kd.R_drew)); exact HO_5.out) hb); have n1_ := Aside0.mk (below_step (by repeat (first | (with_reducible first | exact HB.out | apply below_alloc | apply pw_below_drewN | apply below_drew1) | exact HB.out)) hb); clear HO_5; clear HB; have HO_5 := n0_; have HB := n1_; clear n0_ n1_; (try clear hb); (try clear hb2); (try clear hk); (try clear hi)))
                                                go_roundg k7
                                                case measure => have := HK1.out; have := HJ1.out; have := HJ6.out; have := HJ26.out; have := HJ48.out; have := HK6.out; have := HK7.out; omega
                                                case rel => exact ⟨(wrap64 (x6_6 + 1)), (by first | rfl | (simp; done) | (simp [*]; done)), H', ⟨by have := HK1.out; have := HJ1.out; have := HJ6.out; have := HJ26.out; have := HJ48.out; have := HK6.out; have := HK7.out; omega⟩, ⟨by (with_reducible repeat (first | apply Kd.R_alloc | apply Kd.R_drewN | apply Kd.R_drew)); exact HO_5.out⟩, ⟨by repeat (first | (with_reducible first | exact HB.out | apply below_alloc | apply pw_below_drewN | apply below_drew1) | exact HB.out)⟩⟩
                                              · replace c91 := Bool.eq_false_iff.mpr c91
                                                subst c91
                                                have H1 : (some false) = some r := by rw [if_neg (show ¬ (false = true) by decide)] at H; exact H
                                                clear H
                                                have H := H1
                                                clear H1
                                                obtain rfl := Option.some.inj H
                                                go_wp2_with (first | ((with_reducible refine gate_callee (f := 17) rfl ?_); refine goesL_ (some 130) rfl rfl Tryd.func17 (by kernel_rfl) rfl #[.string x7_7] rfl (by (try simp only [List.map_toArray, List.map_cons, List.map_nil]); first | done | rfl | (simp only [List.length_drop, List.length_take]; rfl)) ?_; (with_reducible refine (name_Filter.calls k7 x7_7 t258 _ A87.out ?side1).mono ?_); (case side1 => exact Tabs_below HT.out (by repeat (first | (with_reducible first | exact HB.out | apply below_alloc | apply pw_below_drewN | apply below_drew1) | exact HB.out))); rintro e w94 ⟨rfl, hb⟩; refine ⟨_, rfl, ?_⟩; have n0_ := Aside0.mk (Kd.R_below (by (with_reducible repeat (first | apply Kd.R_alloc | apply Kd.R_drewN | apply Kd.R_drew)); exact HO_5.out) hb); have n1_ := Aside0.mk (below_step (by repeat (first | (with_reducible first | exact HB.out | apply below_alloc | apply pw_below_drewN | apply below_drew1) | exact HB.out)) hb); clear HO_5; clear HB; have HO_5 := n0_; have HB := n1_; clear n0_ n1_; (try clear hb); (try clear hb2); (try clear hk); (try clear hi)) | ((with_reducible refine gate_callee (f := 14) rfl ?_); refine goesL_ (some 131) rfl rfl Tryd.func14 (by kernel_rfl) rfl #[.int .i64 t258] rfl (by (try simp only [List.map_toArray, List.map_cons, List.map_nil]); first | done | rfl | (simp only [List.length_drop, List.length_take]; rfl)) ?_; (with_reducible refine (fairwaylaw7_num.calls t258 t259 _ A88.out).mono ?_); rintro e w' ⟨rfl, ⟨nd, rfl⟩⟩; refine ⟨_, rfl, ?_⟩) | (go_at_call 11; (with_reducible refine (name_Match.calls k7 x7_7 ((rd_T25 l0 x3_1).f1) false _ A90.out ?side1).mono ?_); (case side1 => exact Tabs_below HT.out (by repeat (first | (with_reducible first | exact HB.out | apply below_alloc | apply pw_below_drewN | apply below_drew1) | exact HB.out))); rintro e w95 ⟨rfl, hb⟩; have n0_ := Aside0.mk (Kd.R_below (by (with_reducible repeat (first | apply Kd.R_alloc | apply Kd.R_drewN | apply Kd.R_drew)); exact HO_5.out) hb); have n1_ := Aside0.mk (below_step (by repeat (first | (with_reducible first | exact HB.out | apply below_alloc | apply pw_below_drewN | apply below_drew1) | exact HB.out)) hb); clear HO_5; clear HB; have HO_5 := n0_; have HB := n1_; clear n0_ n1_; (try clear hb); (try clear hb2); (try clear hk); (try clear hi)))
                                                go_ret
                                                exact ⟨by first | rfl | (simp [errW_none, errW_some] <;> rfl) | (simp [*, errW_none, errW_some] <;> rfl), by repeat (first | (with_reducible first | exact HB.out | apply below_alloc | apply pw_below_drewN | apply below_drew1) | exact HB.out)⟩
                                            · rw [if_neg c89] at H
                                              have c89b0 : (t259 == 0) = false := beq_eq_false_iff_ne.mpr c89
                                              have c89b1 : (t259 != 0) = true := bne_iff_ne.mpr c89
                                              have H' := Aside0.mk H
                                              clear H
                                              go_wp2_with (first | ((with_reducible refine gate_callee (f := 17) rfl ?_); refine goesL_ (some 130) rfl rfl Tryd.func17 (by kernel_rfl) rfl #[.string x7_7] rfl (by (try simp only [List.map_toArray, List.map_cons, List.map_nil]); first | done | rfl | (simp only [List.length_drop, List.length_take]; rfl)) ?_; (with_reducible refine (name_Filter.calls k7 x7_7 t258 _ A87.out ?side1).mono ?_); (case side1 => exact Tabs_below HT.out (by repeat (first | (with_reducible first | exact HB.out | apply below_alloc | apply pw_below_drewN | apply below_drew1) | exact HB.out))); rintro e w96 ⟨rfl, hb⟩; refine ⟨_, rfl, ?_⟩; have n0_ := Aside0.mk (Kd.R_below (by (with_reducible repeat (first | apply Kd.R_alloc | apply Kd.R_drewN | apply Kd.R_drew)); exact HO_5.out) hb); have n1_ := Aside0.mk (below_step (by repeat (first | (with_reducible first | exact HB.out | apply below_alloc | apply pw_below_drewN | apply below_drew1) | exact HB.out)) hb); clear HO_5; clear HB; have HO_5 := n0_; have HB := n1_; clear n0_ n1_; (try clear hb); (try clear hb2); (try clear hk); (try clear hi)) | ((with_reducible refine gate_callee (f := 14) rfl ?_); refine goesL_ (some 131) rfl rfl Tryd.func14 (by kernel_rfl) rfl #[.int .i64 t258] rfl (by (try simp only [List.map_toArray, List.map_cons, List.map_nil]); first | done | rfl | (simp only [List.length_drop, List.length_take]; rfl)) ?_; (with_reducible refine (fairwaylaw7_num.calls t258 t259 _ A88.out).mono ?_); rintro e w' ⟨rfl, ⟨nd, rfl⟩⟩; refine ⟨_, rfl, ?_⟩))
                                              go_roundg k7
                                              case measure => have := HK1.out; have := HJ1.out; have := HJ6.out; have := HJ26.out; have := HJ48.out; have := HK6.out; have := HK7.out; omega
                                              case rel => exact ⟨(wrap64 (x6_6 + 1)), (by first | rfl | (simp; done) | (simp [*]; done)), H', ⟨by have := HK1.out; have := HJ1.out; have := HJ6.out; have := HJ26.out; have := HJ48.out; have := HK6.out; have := HK7.out; omega⟩, ⟨by (with_reducible repeat (first | apply Kd.R_alloc | apply Kd.R_drewN | apply Kd.R_drew)); exact HO_5.out⟩, ⟨by repeat (first | (with_reducible first | exact HB.out | apply below_alloc | apply pw_below_drewN | apply below_drew1) | exact HB.out)⟩⟩
                                    · rw [if_neg c75] at H
                                      have c75b0 : decide (x6_6 < (t244.length : Int)) = false := decide_eq_false c75
                                      clear c75
                                      have H' := Aside0.mk H
                                      clear H
                                      go_wp2
                                      go_roundg k6
                                      case measure => have := HK1.out; have := HJ1.out; have := HJ6.out; have := HJ26.out; have := HJ48.out; have := HK6.out; omega
                                      case rel => exact ⟨(wrap64 (x3_1 + 1)), (by first | rfl | (simp; done) | (simp [*]; done)), H', ⟨by have := HK1.out; have := HJ1.out; have := HJ6.out; have := HJ26.out; have := HJ48.out; have := HK6.out; omega⟩, ⟨by repeat (first | (with_reducible first | exact HB.out | apply below_alloc | apply pw_below_drewN | apply below_drew1) | exact HB.out)⟩⟩
              · rw [if_neg c6] at H
                exact absurd H (by simp)
            · rw [if_neg c5] at H
              exact absurd H (by simp)
          · replace c4 := Bool.eq_false_iff.mpr c4
            subst c4
            have H1 : ((fairwaylaw7_wakes.f kj1).bind fun t238 => (some t238)) = some r := by rw [if_neg (show ¬ (false = true) by decide)] at H; exact H
            clear H
            have H := H1
            clear H1
            replace H := Option.bind_eq_some_iff.mp H
            obtain ⟨t238, A970, H⟩ := H
            replace H : (some t238) = some r := H
            have A97 := Aside0.mk A970
            clear A970
            obtain rfl := Option.some.inj H
            go_wp2_with (first | ((with_reducible refine gate_callee (f := 13) rfl ?_); refine goesL_ (some 139) rfl rfl Tryd.func13 (by kernel_rfl) rfl #[] rfl (by (try simp only [List.map_toArray, List.map_cons, List.map_nil]); first | done | rfl | (simp only [List.length_drop, List.length_take]; rfl)) ?_; (with_reducible refine (fairwaylaw7_wakes.calls kj1  t238 _ A97.out ?side1).mono ?_); (case side1 => exact Tabs_below HT.out (by repeat (first | (with_reducible first | exact HB.out | apply below_alloc | apply pw_below_drewN | apply below_drew1) | exact HB.out))); rintro e w98 ⟨rfl, hb⟩; refine ⟨_, rfl, ?_⟩; have n0_ := Aside0.mk (below_step (by repeat (first | (with_reducible first | exact HB.out | apply below_alloc | apply pw_below_drewN | apply below_drew1) | exact HB.out)) hb); clear HB; have HB := n0_; clear n0_; (try clear hb); (try clear hb2); (try clear hk); (try clear hi)))
            go_ret
            exact ⟨by first | rfl | (simp [errW_none, errW_some] <;> rfl) | (simp [*, errW_none, errW_some] <;> rfl), by repeat (first | (with_reducible first | exact HB.out | apply below_alloc | apply pw_below_drewN | apply below_drew1) | exact HB.out)⟩

end Go.Proofs.YtnaeffgkdoanfaaDoor.P
