-- made by wip/myprint.py out of the translation; not trusted: Lean checks it
import Derived.Test.YtoflajekfpggbaaDoorP0
import Derived.Test.YtoflajekfpggbaaDoorP2
import Derived.Test.YtoflajekfpggbaaDoorP3
import Derived.Test.YtoflajekfpggbaaDoorP4
import Derived.Test.YtoflajekfpggbaaDoorP5
import Derived.Test.YtoflajekfpggbaaDoorP6
import Derived.Test.YtoflajekfpggbaaDoorP8
import Derived.Test.YtoflajekfpggbaaDoorP9
namespace Go.Proofs.YtoflajekfpggbaaDoor.P
open Go.RowKit Go.Proofs.YtoflajekfpggbaaDoorW.PrintWords Go.Proofs.YtoflajekfpggbaaDoorW.PrintLast Go.Proofs.YtoflajekfpggbaaDoorW.PrintMore
open Bool renaming true → I, false → O
open List renaming setIfInBounds_toArray → sTo, set_cons_zero → sZ, set_cons_succ → sS
attribute [local go_sem] max2_int min2_int max_two min_two max_three min_three max_four min_four   -- for this text's walks alone
set_option linter.unusedVariables false
set_option linter.unusedSimpArgs false

/-! ### fairwaylaw17_GroupCommits: function 3 -/
mutual
def fairwaylaw17_GroupCommits.l0 : Nat → List (S29) → Int → List (S29) → List (S29) → List ByteArray → Option (Bool)
 | 0, _, _, _, _, _ => none
 | k + 1, x3, x4, x250000, x250001, x250002 => if x4 < (x250001.length : Int) then (fairwaylaw17_GroupCommits.j1 k x3 x4 (decide (x4 < 15)) x250000 x250001 x250002) else (fairwaylaw17_GroupCommits.j1 k x3 x4 false x250000 x250001 x250002)
def fairwaylaw17_GroupCommits.j1 : Nat → List (S29) → Int → Bool → List (S29) → List (S29) → List ByteArray → Option (Bool)
 | 0, _, _, _, _, _, _ => none
 | k + 1, x3, x4, x32, x250000, x250001, x250002 => if x32 = true then (if 0 ≤ x4 then (if x4 < (x250001.length : Int) then ((fairwayref17_Groups.f k x3).bind fun t257 => ((group_Fetch.f k x3 ((rd_T29 x250001 x4).f0) ((rd_T29 x250001 x4).f1)).bind fun bt258 => (if t257 = true then ((fairwayref17_Fetch.f k x3 ((rd_T29 x250001 x4).f0) ((rd_T29 x250001 x4).f1)).bind fun t260 => (if t260 ≥ 0 then (if 0 ≤ t260 then (if t260 < (x3.length : Int) then (fairwaylaw17_GroupCommits.j2 k x3 x4 t257 bt258.1 bt258.2 0 ((rd_T29 x3 t260).f2) x250000 x250001 x250002 ((rd_T29 x250001 x4).f0) ((rd_T29 x250001 x4).f1) ((rd_T29 x250001 x4).f2)) else (none)) else (none)) else (fairwaylaw17_GroupCommits.j2 k x3 x4 t257 bt258.1 bt258.2 3 0 x250000 x250001 x250002 ((rd_T29 x250001 x4).f0) ((rd_T29 x250001 x4).f1) ((rd_T29 x250001 x4).f2)))) else (fairwaylaw17_GroupCommits.j2 k x3 x4 t257 bt258.1 bt258.2 1 0 x250000 x250001 x250002 ((rd_T29 x250001 x4).f0) ((rd_T29 x250001 x4).f1) ((rd_T29 x250001 x4).f2))))) else (none)) else (none)) else ((fairwaylaw17_wakes.f k).bind fun t254 => (some t254))
def fairwaylaw17_GroupCommits.j2 : Nat → List (S29) → Int → Bool → Int → Int → Int → Int → List (S29) → List (S29) → List ByteArray → ByteArray → ByteArray → Int → Option (Bool)
 | 0, _, _, _, _, _, _, _, _, _, _, _, _, _ => none
 | k + 1, x3, x4, x6, x7, x8, x9, x10, x250000, x250001, x250002, x257000, x257001, x257002 => (group_Check.f k x3).bind fun t262 => ((fairwaylaw17_num.f t262).bind fun t263 => (if ((t263 == 0) != x6) = true then (fairwaylaw17_GroupCommits.j3 k x3 x4 x6 true x250000 x250001 x250002 x257000 x257001 x257002) else ((fairwaylaw17_num.f x8).bind fun t264 => (if t264 = x9 then (fairwaylaw17_GroupCommits.j3 k x3 x4 x6 (x7 != x10) x250000 x250001 x250002 x257000 x257001 x257002) else (fairwaylaw17_GroupCommits.j3 k x3 x4 x6 true x250000 x250001 x250002 x257000 x257001 x257002)))))
def fairwaylaw17_GroupCommits.j3 : Nat → List (S29) → Int → Bool → Bool → List (S29) → List (S29) → List ByteArray → ByteArray → ByteArray → Int → Option (Bool)
 | 0, _, _, _, _, _, _, _, _, _, _ => none
 | k + 1, x3, x4, x6, x81, x250000, x250001, x250002, x257000, x257001, x257002 => if x81 = true then (some false) else ((fairwayref0_CopyGroups.f k x3).bind fun t265 => ((group_Commit.f k t265 x257000 x257001 x257002).bind fun bt268 => (if x6 = true then ((fairwayref17_Group.f k x257000 x257001 x257002).bind fun t273 => (fairwaylaw17_GroupCommits.j4 k x3 x4 1 t265 bt268.1 bt268.2.1 bt268.2.2 ([] : List (S29)) false t273 x250000 x250001 x250002 x257000 x257001 x257002)) else (fairwaylaw17_GroupCommits.j4 k x3 x4 1 t265 bt268.1 bt268.2.1 bt268.2.2 ([] : List (S29)) false false x250000 x250001 x250002 x257000 x257001 x257002))))
def fairwaylaw17_GroupCommits.j4 : Nat → List (S29) → Int → Int → List (S29) → List (S29) → Bool → Int → List (S29) → Bool → Bool → List (S29) → List (S29) → List ByteArray → ByteArray → ByteArray → Int → Option (Bool)
 | 0, _, _, _, _, _, _, _, _, _, _, _, _, _, _, _, _ => none
 | k + 1, x3, x4, x9, x12, x13, x14, x15, x16, x17, x95, x250000, x250001, x250002, x257000, x257001, x257002 => if x95 = true then ((fairwayref17_Commit.f k x3 x257000 x257001 x257002).bind fun bt274 => (fairwaylaw17_GroupCommits.j5 k x3 x4 bt274.2.2 x12 x13 x14 x15 bt274.1 bt274.2.1 x250000 x250001 x250002)) else (fairwaylaw17_GroupCommits.j5 k x3 x4 x9 x12 x13 x14 x15 x16 x17 x250000 x250001 x250002)
def fairwaylaw17_GroupCommits.j5 : Nat → List (S29) → Int → Int → List (S29) → List (S29) → Bool → Int → List (S29) → Bool → List (S29) → List (S29) → List ByteArray → Option (Bool)
 | 0, _, _, _, _, _, _, _, _, _, _, _, _ => none
 | k + 1, x3, x4, x9, x12, x13, x14, x15, x16, x17, x250000, x250001, x250002 => (fairwaylaw17_num.f x15).bind fun t279 => (if t279 = x9 then (if (x14 != x17) = true then (fairwaylaw17_GroupCommits.j6 k x3 x4 x9 x12 x13 x16 true x250000 x250001 x250002) else ((fairwayref0_EqGroups.f k x13 x16).bind fun t280 => (if t280 = true then ((fairwayref0_EqGroups.f k x12 x3).bind fun t281 => (fairwaylaw17_GroupCommits.j6 k x3 x4 x9 x12 x13 x16 (!t281) x250000 x250001 x250002)) else (fairwaylaw17_GroupCommits.j6 k x3 x4 x9 x12 x13 x16 true x250000 x250001 x250002)))) else (fairwaylaw17_GroupCommits.j6 k x3 x4 x9 x12 x13 x16 true x250000 x250001 x250002))
def fairwaylaw17_GroupCommits.j6 : Nat → List (S29) → Int → Int → List (S29) → List (S29) → List (S29) → Bool → List (S29) → List (S29) → List ByteArray → Option (Bool)
 | 0, _, _, _, _, _, _, _, _, _, _ => none
 | k + 1, x3, x4, x9, x12, x13, x16, x123, x250000, x250001, x250002 => if x123 = true then (some false) else (fairwaylaw17_GroupCommits.l1 k x3 x4 x9 x12 x13 x16 0 x250000 x250001 x250002)
def fairwaylaw17_GroupCommits.l1 : Nat → List (S29) → Int → Int → List (S29) → List (S29) → List (S29) → Int → List (S29) → List (S29) → List ByteArray → Option (Bool)
 | 0, _, _, _, _, _, _, _, _, _, _ => none
 | k + 1, x3, x4, x9, x12, x13, x16, x18, x250000, x250001, x250002 => if x18 < (x13.length : Int) then (if 0 ≤ x18 then (fairwaylaw17_GroupCommits.l1 k x3 x4 x9 x12 (x13.set (x18 : Int).toNat (⟨(rd_T29 x13 x18).f0, (rd_T29 x13 x18).f1, (-5)⟩ : S29)) x16 (wrap64 (x18 + 1)) x250000 x250001 x250002) else (none)) else ((fairwayref0_EqGroups.f k x12 x3).bind fun t283 => (if t283 = true then (if x9 = 0 then ((fairwayref0_CopyGroups.f k x16).bind fun t284 => (fairwaylaw17_GroupCommits.l0 k t284 (wrap64 (x4 + 1)) x250000 x250001 x250002)) else (fairwaylaw17_GroupCommits.l0 k x3 (wrap64 (x4 + 1)) x250000 x250001 x250002)) else (some false)))
end
def fairwaylaw17_GroupCommits.f (k : Nat) (l0_0 : List (S29)) (l0_1 : List (S29)) (l0_2 : List ByteArray) : Option (Bool) := (fairwaylaw17_heavy.f k l0_0 l0_1 l0_2).bind fun t250 => (if t250 = true then (some true) else ((fairwayref0_CopyGroups.f k l0_0).bind fun t251 => (fairwaylaw17_GroupCommits.l0 k t251 0 l0_0 l0_1 l0_2)))
theorem fairwaylaw17_GroupCommits.mono_l : ∀ k, (∀ y0 y1 y2 y3 y4, LeO (fairwaylaw17_GroupCommits.l0 k y0 y1 y2 y3 y4) (fairwaylaw17_GroupCommits.l0 (k + 1) y0 y1 y2 y3 y4)) ∧ (∀ y0 y1 y2 y3 y4 y5, LeO (fairwaylaw17_GroupCommits.j1 k y0 y1 y2 y3 y4 y5) (fairwaylaw17_GroupCommits.j1 (k + 1) y0 y1 y2 y3 y4 y5)) ∧ (∀ y0 y1 y2 y3 y4 y5 y6 y7 y8 y9 y10 y11 y12, LeO (fairwaylaw17_GroupCommits.j2 k y0 y1 y2 y3 y4 y5 y6 y7 y8 y9 y10 y11 y12) (fairwaylaw17_GroupCommits.j2 (k + 1) y0 y1 y2 y3 y4 y5 y6 y7 y8 y9 y10 y11 y12)) ∧ (∀ y0 y1 y2 y3 y4 y5 y6 y7 y8 y9, LeO (fairwaylaw17_GroupCommits.j3 k y0 y1 y2 y3 y4 y5 y6 y7 y8 y9) (fairwaylaw17_GroupCommits.j3 (k + 1) y0 y1 y2 y3 y4 y5 y6 y7 y8 y9)) ∧ (∀ y0 y1 y2 y3 y4 y5 y6 y7 y8 y9 y10 y11 y12 y13 y14 y15, LeO (fairwaylaw17_GroupCommits.j4 k y0 y1 y2 y3 y4 y5 y6 y7 y8 y9 y10 y11 y12 y13 y14 y15) (fairwaylaw17_GroupCommits.j4 (k + 1) y0 y1 y2 y3 y4 y5 y6 y7 y8 y9 y10 y11 y12 y13 y14 y15)) ∧ (∀ y0 y1 y2 y3 y4 y5 y6 y7 y8 y9 y10 y11, LeO (fairwaylaw17_GroupCommits.j5 k y0 y1 y2 y3 y4 y5 y6 y7 y8 y9 y10 y11) (fairwaylaw17_GroupCommits.j5 (k + 1) y0 y1 y2 y3 y4 y5 y6 y7 y8 y9 y10 y11)) ∧ (∀ y0 y1 y2 y3 y4 y5 y6 y7 y8 y9, LeO (fairwaylaw17_GroupCommits.j6 k y0 y1 y2 y3 y4 y5 y6 y7 y8 y9) (fairwaylaw17_GroupCommits.j6 (k + 1) y0 y1 y2 y3 y4 y5 y6 y7 y8 y9)) ∧ (∀ y0 y1 y2 y3 y4 y5 y6 y7 y8 y9, LeO (fairwaylaw17_GroupCommits.l1 k y0 y1 y2 y3 y4 y5 y6 y7 y8 y9) (fairwaylaw17_GroupCommits.l1 (k + 1) y0 y1 y2 y3 y4 y5 y6 y7 y8 y9))
 | 0 => ⟨fun _ _ _ _ _ r h => by simp [fairwaylaw17_GroupCommits.l0] at h, fun _ _ _ _ _ _ r h => by simp [fairwaylaw17_GroupCommits.j1] at h, fun _ _ _ _ _ _ _ _ _ _ _ _ _ r h => by simp [fairwaylaw17_GroupCommits.j2] at h, fun _ _ _ _ _ _ _ _ _ _ r h => by simp [fairwaylaw17_GroupCommits.j3] at h, fun _ _ _ _ _ _ _ _ _ _ _ _ _ _ _ _ r h => by simp [fairwaylaw17_GroupCommits.j4] at h, fun _ _ _ _ _ _ _ _ _ _ _ _ r h => by simp [fairwaylaw17_GroupCommits.j5] at h, fun _ _ _ _ _ _ _ _ _ _ r h => by simp [fairwaylaw17_GroupCommits.j6] at h, fun _ _ _ _ _ _ _ _ _ _ r h => by simp [fairwaylaw17_GroupCommits.l1] at h⟩
 | k + 1 => by
  obtain ⟨ih0, ih1, ih2, ih3, ih4, ih5, ih6, ih7⟩ := fairwaylaw17_GroupCommits.mono_l k
  refine ⟨?_, ?_, ?_, ?_, ?_, ?_, ?_, ?_⟩
  ·intro y0 y1 y2 y3 y4
   unfold fairwaylaw17_GroupCommits.l0
   repeat' first
   | (with_reducible exact ih0 _ _ _ _ _)
   | (with_reducible exact ih1 _ _ _ _ _ _)
   | (with_reducible exact ih2 _ _ _ _ _ _ _ _ _ _ _ _ _)
   | (with_reducible exact ih3 _ _ _ _ _ _ _ _ _ _)
   | (with_reducible exact ih4 _ _ _ _ _ _ _ _ _ _ _ _ _ _ _ _)
   | (with_reducible exact ih5 _ _ _ _ _ _ _ _ _ _ _ _)
   | (with_reducible exact ih6 _ _ _ _ _ _ _ _ _ _)
   | (with_reducible exact ih7 _ _ _ _ _ _ _ _ _ _)
   | (with_reducible exact fairwaylaw17_heavy.mono _ _ _ _)
   | (with_reducible exact fairwaylaw17_wakes.mono _)
   | (with_reducible exact fairwayref0_CopyGroups.mono _ _)
   | (with_reducible exact fairwayref0_EqGroups.mono _ _ _)
   | (with_reducible exact fairwayref17_Commit.mono _ _ _ _ _)
   | (with_reducible exact fairwayref17_Fetch.mono _ _ _ _)
   | (with_reducible exact fairwayref17_Group.mono _ _ _ _)
   | (with_reducible exact fairwayref17_Groups.mono _ _)
   | (with_reducible exact group_Check.mono _ _)
   | (with_reducible exact group_Commit.mono _ _ _ _ _)
   | (with_reducible exact group_Fetch.mono _ _ _ _)
   | (with_reducible exact LeO.refl _)
   | (with_reducible exact LeO.none _)
   | (with_reducible refine LeO.ite ?_ ?_)
   | (with_reducible refine LeO.bind ?_ (fun _ => ?_))
   | exact ih0 _ _ _ _ _
   | exact ih1 _ _ _ _ _ _
   | exact ih2 _ _ _ _ _ _ _ _ _ _ _ _ _
   | exact ih3 _ _ _ _ _ _ _ _ _ _
   | exact ih4 _ _ _ _ _ _ _ _ _ _ _ _ _ _ _ _
   | exact ih5 _ _ _ _ _ _ _ _ _ _ _ _
   | exact ih6 _ _ _ _ _ _ _ _ _ _
   | exact ih7 _ _ _ _ _ _ _ _ _ _
   | exact fairwaylaw17_heavy.mono _ _ _ _
   | exact fairwaylaw17_wakes.mono _
   | exact fairwayref0_CopyGroups.mono _ _
   | exact fairwayref0_EqGroups.mono _ _ _
   | exact fairwayref17_Commit.mono _ _ _ _ _
   | exact fairwayref17_Fetch.mono _ _ _ _
   | exact fairwayref17_Group.mono _ _ _ _
   | exact fairwayref17_Groups.mono _ _
   | exact group_Check.mono _ _
   | exact group_Commit.mono _ _ _ _ _
   | exact group_Fetch.mono _ _ _ _
   | exact LeO.none _
   | refine LeO.ite ?_ ?_
   | refine LeO.bind ?_ (fun _ => ?_)
  ·intro y0 y1 y2 y3 y4 y5
   unfold fairwaylaw17_GroupCommits.j1
   repeat' first
   | (with_reducible exact ih0 _ _ _ _ _)
   | (with_reducible exact ih1 _ _ _ _ _ _)
   | (with_reducible exact ih2 _ _ _ _ _ _ _ _ _ _ _ _ _)
   | (with_reducible exact ih3 _ _ _ _ _ _ _ _ _ _)
   | (with_reducible exact ih4 _ _ _ _ _ _ _ _ _ _ _ _ _ _ _ _)
   | (with_reducible exact ih5 _ _ _ _ _ _ _ _ _ _ _ _)
   | (with_reducible exact ih6 _ _ _ _ _ _ _ _ _ _)
   | (with_reducible exact ih7 _ _ _ _ _ _ _ _ _ _)
   | (with_reducible exact fairwaylaw17_heavy.mono _ _ _ _)
   | (with_reducible exact fairwaylaw17_wakes.mono _)
   | (with_reducible exact fairwayref0_CopyGroups.mono _ _)
   | (with_reducible exact fairwayref0_EqGroups.mono _ _ _)
   | (with_reducible exact fairwayref17_Commit.mono _ _ _ _ _)
   | (with_reducible exact fairwayref17_Fetch.mono _ _ _ _)
   | (with_reducible exact fairwayref17_Group.mono _ _ _ _)
   | (with_reducible exact fairwayref17_Groups.mono _ _)
   | (with_reducible exact group_Check.mono _ _)
   | (with_reducible exact group_Commit.mono _ _ _ _ _)
   | (with_reducible exact group_Fetch.mono _ _ _ _)
   | (with_reducible exact LeO.refl _)
   | (with_reducible exact LeO.none _)
   | (with_reducible refine LeO.ite ?_ ?_)
   | (with_reducible refine LeO.bind ?_ (fun _ => ?_))
   | exact ih0 _ _ _ _ _
   | exact ih1 _ _ _ _ _ _
   | exact ih2 _ _ _ _ _ _ _ _ _ _ _ _ _
   | exact ih3 _ _ _ _ _ _ _ _ _ _
   | exact ih4 _ _ _ _ _ _ _ _ _ _ _ _ _ _ _ _
   | exact ih5 _ _ _ _ _ _ _ _ _ _ _ _
   | exact ih6 _ _ _ _ _ _ _ _ _ _
   | exact ih7 _ _ _ _ _ _ _ _ _ _
   | exact fairwaylaw17_heavy.mono _ _ _ _
   | exact fairwaylaw17_wakes.mono _
   | exact fairwayref0_CopyGroups.mono _ _
   | exact fairwayref0_EqGroups.mono _ _ _
   | exact fairwayref17_Commit.mono _ _ _ _ _
   | exact fairwayref17_Fetch.mono _ _ _ _
   | exact fairwayref17_Group.mono _ _ _ _
   | exact fairwayref17_Groups.mono _ _
   | exact group_Check.mono _ _
   | exact group_Commit.mono _ _ _ _ _
   | exact group_Fetch.mono _ _ _ _
   | exact LeO.none _
   | refine LeO.ite ?_ ?_
   | refine LeO.bind ?_ (fun _ => ?_)
  ·intro y0 y1 y2 y3 y4 y5 y6 y7 y8 y9 y10 y11 y12
   unfold fairwaylaw17_GroupCommits.j2
   repeat' first
   | (with_reducible exact ih0 _ _ _ _ _)
   | (with_reducible exact ih1 _ _ _ _ _ _)
   | (with_reducible exact ih2 _ _ _ _ _ _ _ _ _ _ _ _ _)
   | (with_reducible exact ih3 _ _ _ _ _ _ _ _ _ _)
   | (with_reducible exact ih4 _ _ _ _ _ _ _ _ _ _ _ _ _ _ _ _)
   | (with_reducible exact ih5 _ _ _ _ _ _ _ _ _ _ _ _)
   | (with_reducible exact ih6 _ _ _ _ _ _ _ _ _ _)
   | (with_reducible exact ih7 _ _ _ _ _ _ _ _ _ _)
   | (with_reducible exact fairwaylaw17_heavy.mono _ _ _ _)
   | (with_reducible exact fairwaylaw17_wakes.mono _)
   | (with_reducible exact fairwayref0_CopyGroups.mono _ _)
   | (with_reducible exact fairwayref0_EqGroups.mono _ _ _)
   | (with_reducible exact fairwayref17_Commit.mono _ _ _ _ _)
   | (with_reducible exact fairwayref17_Fetch.mono _ _ _ _)
   | (with_reducible exact fairwayref17_Group.mono _ _ _ _)
   | (with_reducible exact fairwayref17_Groups.mono _ _)
   | (with_reducible exact group_Check.mono _ _)
   | (with_reducible exact group_Commit.mono _ _ _ _ _)
   | (with_reducible exact group_Fetch.mono _ _ _ _)
   | (with_reducible exact LeO.refl _)
   | (with_reducible exact LeO.none _)
   | (with_reducible refine LeO.ite ?_ ?_)
   | (with_reducible refine LeO.bind ?_ (fun _ => ?_))
   | exact ih0 _ _ _ _ _
   | exact ih1 _ _ _ _ _ _
   | exact ih2 _ _ _ _ _ _ _ _ _ _ _ _ _
   | exact ih3 _ _ _ _ _ _ _ _ _ _
   | exact ih4 _ _ _ _ _ _ _ _ _ _ _ _ _ _ _ _
   | exact ih5 _ _ _ _ _ _ _ _ _ _ _ _
   | exact ih6 _ _ _ _ _ _ _ _ _ _
   | exact ih7 _ _ _ _ _ _ _ _ _ _
   | exact fairwaylaw17_heavy.mono _ _ _ _
   | exact fairwaylaw17_wakes.mono _
   | exact fairwayref0_CopyGroups.mono _ _
   | exact fairwayref0_EqGroups.mono _ _ _
   | exact fairwayref17_Commit.mono _ _ _ _ _
   | exact fairwayref17_Fetch.mono _ _ _ _
   | exact fairwayref17_Group.mono _ _ _ _
   | exact fairwayref17_Groups.mono _ _
   | exact group_Check.mono _ _
   | exact group_Commit.mono _ _ _ _ _
   | exact group_Fetch.mono _ _ _ _
   | exact LeO.none _
   | refine LeO.ite ?_ ?_
   | refine LeO.bind ?_ (fun _ => ?_)
  ·intro y0 y1 y2 y3 y4 y5 y6 y7 y8 y9
   unfold fairwaylaw17_GroupCommits.j3
   repeat' first
   | (with_reducible exact ih0 _ _ _ _ _)
   | (with_reducible exact ih1 _ _ _ _ _ _)
   | (with_reducible exact ih2 _ _ _ _ _ _ _ _ _ _ _ _ _)
   | (with_reducible exact ih3 _ _ _ _ _ _ _ _ _ _)
   | (with_reducible exact ih4 _ _ _ _ _ _ _ _ _ _ _ _ _ _ _ _)
   | (with_reducible exact ih5 _ _ _ _ _ _ _ _ _ _ _ _)
   | (with_reducible exact ih6 _ _ _ _ _ _ _ _ _ _)
   | (with_reducible exact ih7 _ _ _ _ _ _ _ _ _ _)
   | (with_reducible exact fairwaylaw17_heavy.mono _ _ _ _)
   | (with_reducible exact fairwaylaw17_wakes.mono _)
   | (with_reducible exact fairwayref0_CopyGroups.mono _ _)
   | (with_reducible exact fairwayref0_EqGroups.mono _ _ _)
   | (with_reducible exact fairwayref17_Commit.mono _ _ _ _ _)
   | (with_reducible exact fairwayref17_Fetch.mono _ _ _ _)
   | (with_reducible exact fairwayref17_Group.mono _ _ _ _)
   | (with_reducible exact fairwayref17_Groups.mono _ _)
   | (with_reducible exact group_Check.mono _ _)
   | (with_reducible exact group_Commit.mono _ _ _ _ _)
   | (with_reducible exact group_Fetch.mono _ _ _ _)
   | (with_reducible exact LeO.refl _)
   | (with_reducible exact LeO.none _)
   | (with_reducible refine LeO.ite ?_ ?_)
   | (with_reducible refine LeO.bind ?_ (fun _ => ?_))
   | exact ih0 _ _ _ _ _
   | exact ih1 _ _ _ _ _ _
   | exact ih2 _ _ _ _ _ _ _ _ _ _ _ _ _
   | exact ih3 _ _ _ _ _ _ _ _ _ _
   | exact ih4 _ _ _ _ _ _ _ _ _ _ _ _ _ _ _ _
   | exact ih5 _ _ _ _ _ _ _ _ _ _ _ _
   | exact ih6 _ _ _ _ _ _ _ _ _ _
   | exact ih7 _ _ _ _ _ _ _ _ _ _
   | exact fairwaylaw17_heavy.mono _ _ _ _
   | exact fairwaylaw17_wakes.mono _
   | exact fairwayref0_CopyGroups.mono _ _
   | exact fairwayref0_EqGroups.mono _ _ _
   | exact fairwayref17_Commit.mono _ _ _ _ _
   | exact fairwayref17_Fetch.mono _ _ _ _
   | exact fairwayref17_Group.mono _ _ _ _
   | exact fairwayref17_Groups.mono _ _
   | exact group_Check.mono _ _
   | exact group_Commit.mono _ _ _ _ _
   | exact group_Fetch.mono _ _ _ _
   | exact LeO.none _
   | refine LeO.ite ?_ ?_
   | refine LeO.bind ?_ (fun _ => ?_)
  ·intro y0 y1 y2 y3 y4 y5 y6 y7 y8 y9 y10 y11 y12 y13 y14 y15
   unfold fairwaylaw17_GroupCommits.j4
   repeat' first
   | (with_reducible exact ih0 _ _ _ _ _)
   | (with_reducible exact ih1 _ _ _ _ _ _)
   | (with_reducible exact ih2 _ _ _ _ _ _ _ _ _ _ _ _ _)
   | (with_reducible exact ih3 _ _ _ _ _ _ _ _ _ _)
   | (with_reducible exact ih4 _ _ _ _ _ _ _ _ _ _ _ _ _ _ _ _)
   | (with_reducible exact ih5 _ _ _ _ _ _ _ _ _ _ _ _)
   | (with_reducible exact ih6 _ _ _ _ _ _ _ _ _ _)
   | (with_reducible exact ih7 _ _ _ _ _ _ _ _ _ _)
   | (with_reducible exact fairwaylaw17_heavy.mono _ _ _ _)
   | (with_reducible exact fairwaylaw17_wakes.mono _)
   | (with_reducible exact fairwayref0_CopyGroups.mono _ _)
   | (with_reducible exact fairwayref0_EqGroups.mono _ _ _)
   | (with_reducible exact fairwayref17_Commit.mono _ _ _ _ _)
   | (with_reducible exact fairwayref17_Fetch.mono _ _ _ _)
   | (with_reducible exact fairwayref17_Group.mono _ _ _ _)
   | (with_reducible exact fairwayref17_Groups.mono _ _)
   | (with_reducible exact group_Check.mono _ _)
   | (with_reducible exact group_Commit.mono _ _ _ _ _)
   | (with_reducible exact group_Fetch.mono _ _ _ _)
   | (with_reducible exact LeO.refl _)
   | (with_reducible exact LeO.none _)
   | (with_reducible refine LeO.ite ?_ ?_)
   | (with_reducible refine LeO.bind ?_ (fun _ => ?_))
   | exact ih0 _ _ _ _ _
   | exact ih1 _ _ _ _ _ _
   | exact ih2 _ _ _ _ _ _ _ _ _ _ _ _ _
   | exact ih3 _ _ _ _ _ _ _ _ _ _
   | exact ih4 _ _ _ _ _ _ _ _ _ _ _ _ _ _ _ _
   | exact ih5 _ _ _ _ _ _ _ _ _ _ _ _
   | exact ih6 _ _ _ _ _ _ _ _ _ _
   | exact ih7 _ _ _ _ _ _ _ _ _ _
   | exact fairwaylaw17_heavy.mono _ _ _ _
   | exact fairwaylaw17_wakes.mono _
   | exact fairwayref0_CopyGroups.mono _ _
   | exact fairwayref0_EqGroups.mono _ _ _
   | exact fairwayref17_Commit.mono _ _ _ _ _
   | exact fairwayref17_Fetch.mono _ _ _ _
   | exact fairwayref17_Group.mono _ _ _ _
   | exact fairwayref17_Groups.mono _ _
   | exact group_Check.mono _ _
   | exact group_Commit.mono _ _ _ _ _
   | exact group_Fetch.mono _ _ _ _
   | exact LeO.none _
   | refine LeO.ite ?_ ?_
   | refine LeO.bind ?_ (fun _ => ?_)
  ·intro y0 y1 y2 y3 y4 y5 y6 y7 y8 y9 y10 y11
   unfold fairwaylaw17_GroupCommits.j5
   repeat' first
   | (with_reducible exact ih0 _ _ _ _ _)
   | (with_reducible exact ih1 _ _ _ _ _ _)
   | (with_reducible exact ih2 _ _ _ _ _ _ _ _ _ _ _ _ _)
   | (with_reducible exact ih3 _ _ _ _ _ _ _ _ _ _)
   | (with_reducible exact ih4 _ _ _ _ _ _ _ _ _ _ _ _ _ _ _ _)
   | (with_reducible exact ih5 _ _ _ _ _ _ _ _ _ _ _ _)
   | (with_reducible exact ih6 _ _ _ _ _ _ _ _ _ _)
   | (with_reducible exact ih7 _ _ _ _ _ _ _ _ _ _)
   | (with_reducible exact fairwaylaw17_heavy.mono _ _ _ _)
   | (with_reducible exact fairwaylaw17_wakes.mono _)
   | (with_reducible exact fairwayref0_CopyGroups.mono _ _)
   | (with_reducible exact fairwayref0_EqGroups.mono _ _ _)
   | (with_reducible exact fairwayref17_Commit.mono _ _ _ _ _)
   | (with_reducible exact fairwayref17_Fetch.mono _ _ _ _)
   | (with_reducible exact fairwayref17_Group.mono _ _ _ _)
   | (with_reducible exact fairwayref17_Groups.mono _ _)
   | (with_reducible exact group_Check.mono _ _)
   | (with_reducible exact group_Commit.mono _ _ _ _ _)
   | (with_reducible exact group_Fetch.mono _ _ _ _)
   | (with_reducible exact LeO.refl _)
   | (with_reducible exact LeO.none _)
   | (with_reducible refine LeO.ite ?_ ?_)
   | (with_reducible refine LeO.bind ?_ (fun _ => ?_))
   | exact ih0 _ _ _ _ _
   | exact ih1 _ _ _ _ _ _
   | exact ih2 _ _ _ _ _ _ _ _ _ _ _ _ _
   | exact ih3 _ _ _ _ _ _ _ _ _ _
   | exact ih4 _ _ _ _ _ _ _ _ _ _ _ _ _ _ _ _
   | exact ih5 _ _ _ _ _ _ _ _ _ _ _ _
   | exact ih6 _ _ _ _ _ _ _ _ _ _
   | exact ih7 _ _ _ _ _ _ _ _ _ _
   | exact fairwaylaw17_heavy.mono _ _ _ _
   | exact fairwaylaw17_wakes.mono _
   | exact fairwayref0_CopyGroups.mono _ _
   | exact fairwayref0_EqGroups.mono _ _ _
   | exact fairwayref17_Commit.mono _ _ _ _ _
   | exact fairwayref17_Fetch.mono _ _ _ _
   | exact fairwayref17_Group.mono _ _ _ _
   | exact fairwayref17_Groups.mono _ _
   | exact group_Check.mono _ _
   | exact group_Commit.mono _ _ _ _ _
   | exact group_Fetch.mono _ _ _ _
   | exact LeO.none _
   | refine LeO.ite ?_ ?_
   | refine LeO.bind ?_ (fun _ => ?_)
  ·intro y0 y1 y2 y3 y4 y5 y6 y7 y8 y9
   unfold fairwaylaw17_GroupCommits.j6
   repeat' first
   | (with_reducible exact ih0 _ _ _ _ _)
   | (with_reducible exact ih1 _ _ _ _ _ _)
   | (with_reducible exact ih2 _ _ _ _ _ _ _ _ _ _ _ _ _)
   | (with_reducible exact ih3 _ _ _ _ _ _ _ _ _ _)
   | (with_reducible exact ih4 _ _ _ _ _ _ _ _ _ _ _ _ _ _ _ _)
   | (with_reducible exact ih5 _ _ _ _ _ _ _ _ _ _ _ _)
   | (with_reducible exact ih6 _ _ _ _ _ _ _ _ _ _)
   | (with_reducible exact ih7 _ _ _ _ _ _ _ _ _ _)
   | (with_reducible exact fairwaylaw17_heavy.mono _ _ _ _)
   | (with_reducible exact fairwaylaw17_wakes.mono _)
   | (with_reducible exact fairwayref0_CopyGroups.mono _ _)
   | (with_reducible exact fairwayref0_EqGroups.mono _ _ _)
   | (with_reducible exact fairwayref17_Commit.mono _ _ _ _ _)
   | (with_reducible exact fairwayref17_Fetch.mono _ _ _ _)
   | (with_reducible exact fairwayref17_Group.mono _ _ _ _)
   | (with_reducible exact fairwayref17_Groups.mono _ _)
   | (with_reducible exact group_Check.mono _ _)
   | (with_reducible exact group_Commit.mono _ _ _ _ _)
   | (with_reducible exact group_Fetch.mono _ _ _ _)
   | (with_reducible exact LeO.refl _)
   | (with_reducible exact LeO.none _)
   | (with_reducible refine LeO.ite ?_ ?_)
   | (with_reducible refine LeO.bind ?_ (fun _ => ?_))
   | exact ih0 _ _ _ _ _
   | exact ih1 _ _ _ _ _ _
   | exact ih2 _ _ _ _ _ _ _ _ _ _ _ _ _
   | exact ih3 _ _ _ _ _ _ _ _ _ _
   | exact ih4 _ _ _ _ _ _ _ _ _ _ _ _ _ _ _ _
   | exact ih5 _ _ _ _ _ _ _ _ _ _ _ _
   | exact ih6 _ _ _ _ _ _ _ _ _ _
   | exact ih7 _ _ _ _ _ _ _ _ _ _
   | exact fairwaylaw17_heavy.mono _ _ _ _
   | exact fairwaylaw17_wakes.mono _
   | exact fairwayref0_CopyGroups.mono _ _
   | exact fairwayref0_EqGroups.mono _ _ _
   | exact fairwayref17_Commit.mono _ _ _ _ _
   | exact fairwayref17_Fetch.mono _ _ _ _
   | exact fairwayref17_Group.mono _ _ _ _
   | exact fairwayref17_Groups.mono _ _
   | exact group_Check.mono _ _
   | exact group_Commit.mono _ _ _ _ _
   | exact group_Fetch.mono _ _ _ _
   | exact LeO.none _
   | refine LeO.ite ?_ ?_
   | refine LeO.bind ?_ (fun _ => ?_)
  ·intro y0 y1 y2 y3 y4 y5 y6 y7 y8 y9
   unfold fairwaylaw17_GroupCommits.l1
   repeat' first
   | (with_reducible exact ih0 _ _ _ _ _)
   | (with_reducible exact ih1 _ _ _ _ _ _)
   | (with_reducible exact ih2 _ _ _ _ _ _ _ _ _ _ _ _ _)
   | (with_reducible exact ih3 _ _ _ _ _ _ _ _ _ _)
   | (with_reducible exact ih4 _ _ _ _ _ _ _ _ _ _ _ _ _ _ _ _)
   | (with_reducible exact ih5 _ _ _ _ _ _ _ _ _ _ _ _)
   | (with_reducible exact ih6 _ _ _ _ _ _ _ _ _ _)
   | (with_reducible exact ih7 _ _ _ _ _ _ _ _ _ _)
   | (with_reducible exact fairwaylaw17_heavy.mono _ _ _ _)
   | (with_reducible exact fairwaylaw17_wakes.mono _)
   | (with_reducible exact fairwayref0_CopyGroups.mono _ _)
   | (with_reducible exact fairwayref0_EqGroups.mono _ _ _)
   | (with_reducible exact fairwayref17_Commit.mono _ _ _ _ _)
   | (with_reducible exact fairwayref17_Fetch.mono _ _ _ _)
   | (with_reducible exact fairwayref17_Group.mono _ _ _ _)
   | (with_reducible exact fairwayref17_Groups.mono _ _)
   | (with_reducible exact group_Check.mono _ _)
   | (with_reducible exact group_Commit.mono _ _ _ _ _)
   | (with_reducible exact group_Fetch.mono _ _ _ _)
   | (with_reducible exact LeO.refl _)
   | (with_reducible exact LeO.none _)
   | (with_reducible refine LeO.ite ?_ ?_)
   | (with_reducible refine LeO.bind ?_ (fun _ => ?_))
   | exact ih0 _ _ _ _ _
   | exact ih1 _ _ _ _ _ _
   | exact ih2 _ _ _ _ _ _ _ _ _ _ _ _ _
   | exact ih3 _ _ _ _ _ _ _ _ _ _
   | exact ih4 _ _ _ _ _ _ _ _ _ _ _ _ _ _ _ _
   | exact ih5 _ _ _ _ _ _ _ _ _ _ _ _
   | exact ih6 _ _ _ _ _ _ _ _ _ _
   | exact ih7 _ _ _ _ _ _ _ _ _ _
   | exact fairwaylaw17_heavy.mono _ _ _ _
   | exact fairwaylaw17_wakes.mono _
   | exact fairwayref0_CopyGroups.mono _ _
   | exact fairwayref0_EqGroups.mono _ _ _
   | exact fairwayref17_Commit.mono _ _ _ _ _
   | exact fairwayref17_Fetch.mono _ _ _ _
   | exact fairwayref17_Group.mono _ _ _ _
   | exact fairwayref17_Groups.mono _ _
   | exact group_Check.mono _ _
   | exact group_Commit.mono _ _ _ _ _
   | exact group_Fetch.mono _ _ _ _
   | exact LeO.none _
   | refine LeO.ite ?_ ?_
   | refine LeO.bind ?_ (fun _ => ?_)
theorem fairwaylaw17_GroupCommits.mono : ∀ a0 a1 a2 k, LeO (fairwaylaw17_GroupCommits.f k a0 a1 a2) (fairwaylaw17_GroupCommits.f (k + 1) a0 a1 a2) := by
 intro a0 a1 a2 k
 obtain ⟨ih0, ih1, ih2, ih3, ih4, ih5, ih6, ih7⟩ := fairwaylaw17_GroupCommits.mono_l k
 unfold fairwaylaw17_GroupCommits.f
 repeat' first
   | (with_reducible exact ih0 _ _ _ _ _)
   | (with_reducible exact ih1 _ _ _ _ _ _)
   | (with_reducible exact ih2 _ _ _ _ _ _ _ _ _ _ _ _ _)
   | (with_reducible exact ih3 _ _ _ _ _ _ _ _ _ _)
   | (with_reducible exact ih4 _ _ _ _ _ _ _ _ _ _ _ _ _ _ _ _)
   | (with_reducible exact ih5 _ _ _ _ _ _ _ _ _ _ _ _)
   | (with_reducible exact ih6 _ _ _ _ _ _ _ _ _ _)
   | (with_reducible exact ih7 _ _ _ _ _ _ _ _ _ _)
   | (with_reducible exact fairwaylaw17_heavy.mono _ _ _ _)
   | (with_reducible exact fairwaylaw17_wakes.mono _)
   | (with_reducible exact fairwayref0_CopyGroups.mono _ _)
   | (with_reducible exact fairwayref0_EqGroups.mono _ _ _)
   | (with_reducible exact fairwayref17_Commit.mono _ _ _ _ _)
   | (with_reducible exact fairwayref17_Fetch.mono _ _ _ _)
   | (with_reducible exact fairwayref17_Group.mono _ _ _ _)
   | (with_reducible exact fairwayref17_Groups.mono _ _)
   | (with_reducible exact group_Check.mono _ _)
   | (with_reducible exact group_Commit.mono _ _ _ _ _)
   | (with_reducible exact group_Fetch.mono _ _ _ _)
   | (with_reducible exact LeO.refl _)
   | (with_reducible exact LeO.none _)
   | (with_reducible refine LeO.ite ?_ ?_)
   | (with_reducible refine LeO.bind ?_ (fun _ => ?_))
   | exact ih0 _ _ _ _ _
   | exact ih1 _ _ _ _ _ _
   | exact ih2 _ _ _ _ _ _ _ _ _ _ _ _ _
   | exact ih3 _ _ _ _ _ _ _ _ _ _
   | exact ih4 _ _ _ _ _ _ _ _ _ _ _ _ _ _ _ _
   | exact ih5 _ _ _ _ _ _ _ _ _ _ _ _
   | exact ih6 _ _ _ _ _ _ _ _ _ _
   | exact ih7 _ _ _ _ _ _ _ _ _ _
   | exact fairwaylaw17_heavy.mono _ _ _ _
   | exact fairwaylaw17_wakes.mono _
   | exact fairwayref0_CopyGroups.mono _ _
   | exact fairwayref0_EqGroups.mono _ _ _
   | exact fairwayref17_Commit.mono _ _ _ _ _
   | exact fairwayref17_Fetch.mono _ _ _ _
   | exact fairwayref17_Group.mono _ _ _ _
   | exact fairwayref17_Groups.mono _ _
   | exact group_Check.mono _ _
   | exact group_Commit.mono _ _ _ _ _
   | exact group_Fetch.mono _ _ _ _
   | exact LeO.none _
   | refine LeO.ite ?_ ?_
   | refine LeO.bind ?_ (fun _ => ?_)
set_option maxHeartbeats 8000000 in
set_option maxRecDepth 100000 in
theorem fairwaylaw17_GroupCommits.calls (k : Nat) (A0_0 : Option Addr) (c0_0 : Nat) (l0_0 : List (S29)) (A0_1 : Option Addr) (c0_1 : Nat) (l0_1 : List (S29)) (A0_2 : Option Addr) (c0_2 : Nat) (l0_2 : List ByteArray) (r : Bool) (w : World) (hr0_0 : Kd.C k29 w A0_0 l0_0.length l0_0) (hc0_0 : l0_0.length ≤ c0_0) (hr0_1 : Kd.C k29 w A0_1 l0_1.length l0_1) (hc0_1 : l0_1.length ≤ c0_1) (hr0_2 : Kd.C Kd.string w A0_2 l0_2.length l0_2) (hc0_2 : l0_2.length ≤ c0_2) (h : fairwaylaw17_GroupCommits.f k l0_0 l0_1 l0_2 = some r) (hT : Tabs w) :
  Calls Tryd.prog 3 #[.agg #[.slice A0_0 l0_0.length c0_0, .slice A0_1 l0_1.length c0_1, .slice A0_2 l0_2.length c0_2]] w fun e w' => e = .returned (.bool r) ∧ Below w.heap.size w w' := by
 have hu25 := Tryd.underlying25
 have hu29 := Tryd.underlying29
 have HR0_0 := Aside0.mk hr0_0
 have HC0_0 := Aside0.mk hc0_0
 clear hr0_0 hc0_0
 have HR0_1 := Aside0.mk hr0_1
 have HC0_1 := Aside0.mk hc0_1
 clear hr0_1 hc0_1
 have HR0_2 := Aside0.mk hr0_2
 have HC0_2 := Aside0.mk hc0_2
 clear hr0_2 hc0_2
 have HT := Aside0.mk hT
 clear hT
 have HB := Aside0.mk (Below.refl w.heap.size w)
 have H : ((fairwaylaw17_heavy.f k l0_0 l0_1 l0_2).bind fun t250 => (if t250 = true then (some true) else ((fairwayref0_CopyGroups.f k l0_0).bind fun t251 => (fairwaylaw17_GroupCommits.l0 k t251 0 l0_0 l0_1 l0_2)))) = some r := h
 clear h
 replace H := Option.bind_eq_some_iff.mp H
 obtain ⟨t250, A20, H⟩ := H
 replace H : (if t250 = true then (some true) else ((fairwayref0_CopyGroups.f k l0_0).bind fun t251 => (fairwaylaw17_GroupCommits.l0 k t251 0 l0_0 l0_1 l0_2))) = some r := H
 have A2 := Aside0.mk A20
 clear A20
 by_cases c3 : t250 = true
 ·subst c3
  have H1 : (some true) = some r := by rw [if_pos rfl] at H; exact H
  clear H
  have H := H1
  clear H1
  obtain rfl := Option.some.inj H
  go_enter Tryd.func3, Tryd.ntmps3
  go_wp2_with (first | ((with_reducible refine gate_dst (N := 1) rfl ?_); refine box_event ?hg (N := 1) ?hd (cs := #[.slice A0_0 l0_0.length c0_0, .slice A0_1 l0_1.length c0_1, .slice A0_2 l0_2.length c0_2]) (t := 25) ?hr ?_; (case hd => rfl); (case hg => rfl); (case hr => first | (go_simp; done) | (go_simp; rfl)); intro gb249 hg w4 hbox hb; have n0_ := Aside0.mk (below_step (by repeat (first | (with_reducible first | exact HB.out | apply below_alloc | apply pw_below_drewN | apply below_drew1) | exact HB.out)) hb); have n1_ := Aside0.mk (hbox); have n2_ := Aside0.mk ((by rw [hg]; exact (below_size (by repeat (first | (with_reducible first | exact HB.out | apply below_alloc | apply pw_below_drewN | apply below_drew1) | exact HB.out))) : w.heap.size ≤ gb249)); have n3_ := Aside0.mk ((by rw [hg]; exact (below_size (by repeat (first | (with_reducible first | exact HB.out | apply below_alloc | apply pw_below_drewN | apply below_drew1) | exact HB.out))) : w.heap.size ≤ gb249)); clear HB; have HB := n0_; have BK249 := n1_; have GW249 := n2_; have GE249 := n3_; clear n0_ n1_ n2_ n3_; clear hb hbox hg; have hcz5_0 : w4.cell? ⟨gb249, 0, none⟩ = some (.slice A0_0 l0_0.length c0_0) := (blk_cell BK249.out 0).trans rfl; have hcz5_1 : w4.cell? ⟨gb249, 1, none⟩ = some (.slice A0_1 l0_1.length c0_1) := (blk_cell BK249.out 1).trans rfl; have hcz5_2 : w4.cell? ⟨gb249, 2, none⟩ = some (.slice A0_2 l0_2.length c0_2) := (blk_cell BK249.out 2).trans rfl; have hfz5_0 := blk_frozen BK249.out 0; have hfz5_1 := blk_frozen BK249.out 1; have hfz5_2 := blk_frozen BK249.out 2) | (go_at_call 6; (with_reducible refine (fairwaylaw17_heavy.calls k _ _ l0_0 _ _ l0_1 _ _ l0_2 true _ ?side1 ?side2 ?side3 ?side4 ?side5 ?side6 A2.out).mono ?_); (case side1 => repeat (first | exact (Kd.C_below HR0_0.out HB.out) | (with_reducible refine Kd.C_alloc ?_ _) | (with_reducible refine Kd.C_drewN ?_ _) | (with_reducible refine Kd.C_drew ?_))); (case side2 => exact HC0_0.out); (case side3 => repeat (first | exact (Kd.C_below HR0_1.out HB.out) | (with_reducible refine Kd.C_alloc ?_ _) | (with_reducible refine Kd.C_drewN ?_ _) | (with_reducible refine Kd.C_drew ?_))); (case side4 => exact HC0_1.out); (case side5 => repeat (first | exact (Kd.C_below HR0_2.out HB.out) | (with_reducible refine Kd.C_alloc ?_ _) | (with_reducible refine Kd.C_drewN ?_ _) | (with_reducible refine Kd.C_drew ?_))); (case side6 => exact HC0_2.out); rintro e w6 ⟨rfl, hb⟩; have n0_ := Aside0.mk (blk_below (g := gb249) (o := .cells #[.slice A0_0 l0_0.length c0_0, .slice A0_1 l0_1.length c0_1, .slice A0_2 l0_2.length c0_2] 25 (0, 0)) (by (with_reducible repeat (first | refine blk_drewN ?_ _ | refine blk_drew ?_ | refine blk_alloc ?_ _)); exact BK249.out) hb); have n1_ := Aside0.mk (below_step (by repeat (first | (with_reducible first | exact HB.out | apply below_alloc | apply pw_below_drewN | apply below_drew1 | refine below_set ?_ GE249.out) | exact HB.out)) hb); clear BK249; clear HB; have BK249 := n0_; have HB := n1_; clear n0_ n1_; (try clear hb); (try clear hb2); (try clear hk); (try clear hi)))
  repeat (go_quiet (first | ((with_reducible refine gate_dst (N := 1) rfl ?_); refine box_event ?hg (N := 1) ?hd (cs := #[.slice A0_0 l0_0.length c0_0, .slice A0_1 l0_1.length c0_1, .slice A0_2 l0_2.length c0_2]) (t := 25) ?hr ?_; (case hd => rfl); (case hg => rfl); (case hr => first | (go_simp; done) | (go_simp; rfl)); intro gb249 hg w4 hbox hb; have n0_ := Aside0.mk (below_step (by repeat (first | (with_reducible first | exact HB.out | apply below_alloc | apply pw_below_drewN | apply below_drew1) | exact HB.out)) hb); have n1_ := Aside0.mk (hbox); have n2_ := Aside0.mk ((by rw [hg]; exact (below_size (by repeat (first | (with_reducible first | exact HB.out | apply below_alloc | apply pw_below_drewN | apply below_drew1) | exact HB.out))) : w.heap.size ≤ gb249)); have n3_ := Aside0.mk ((by rw [hg]; exact (below_size (by repeat (first | (with_reducible first | exact HB.out | apply below_alloc | apply pw_below_drewN | apply below_drew1) | exact HB.out))) : w.heap.size ≤ gb249)); clear HB; have HB := n0_; have BK249 := n1_; have GW249 := n2_; have GE249 := n3_; clear n0_ n1_ n2_ n3_; clear hb hbox hg; have hcz5_0 : w4.cell? ⟨gb249, 0, none⟩ = some (.slice A0_0 l0_0.length c0_0) := (blk_cell BK249.out 0).trans rfl; have hcz5_1 : w4.cell? ⟨gb249, 1, none⟩ = some (.slice A0_1 l0_1.length c0_1) := (blk_cell BK249.out 1).trans rfl; have hcz5_2 : w4.cell? ⟨gb249, 2, none⟩ = some (.slice A0_2 l0_2.length c0_2) := (blk_cell BK249.out 2).trans rfl; have hfz5_0 := blk_frozen BK249.out 0; have hfz5_1 := blk_frozen BK249.out 1; have hfz5_2 := blk_frozen BK249.out 2) | (go_at_call 6; (with_reducible refine (fairwaylaw17_heavy.calls k _ _ l0_0 _ _ l0_1 _ _ l0_2 true _ ?side1 ?side2 ?side3 ?side4 ?side5 ?side6 A2.out).mono ?_); (case side1 => repeat (first | exact (Kd.C_below HR0_0.out HB.out) | (with_reducible refine Kd.C_alloc ?_ _) | (with_reducible refine Kd.C_drewN ?_ _) | (with_reducible refine Kd.C_drew ?_))); (case side2 => exact HC0_0.out); (case side3 => repeat (first | exact (Kd.C_below HR0_1.out HB.out) | (with_reducible refine Kd.C_alloc ?_ _) | (with_reducible refine Kd.C_drewN ?_ _) | (with_reducible refine Kd.C_drew ?_))); (case side4 => exact HC0_1.out); (case side5 => repeat (first | exact (Kd.C_below HR0_2.out HB.out) | (with_reducible refine Kd.C_alloc ?_ _) | (with_reducible refine Kd.C_drewN ?_ _) | (with_reducible refine Kd.C_drew ?_))); (case side6 => exact HC0_2.out); rintro e w6 ⟨rfl, hb⟩; have n0_ := Aside0.mk (blk_below (g := gb249) (o := .cells #[.slice A0_0 l0_0.length c0_0, .slice A0_1 l0_1.length c0_1, .slice A0_2 l0_2.length c0_2] 25 (0, 0)) (by (with_reducible repeat (first | refine blk_drewN ?_ _ | refine blk_drew ?_ | refine blk_alloc ?_ _)); exact BK249.out) hb); have n1_ := Aside0.mk (below_step (by repeat (first | (with_reducible first | exact HB.out | apply below_alloc | apply pw_below_drewN | apply below_drew1 | refine below_set ?_ GE249.out) | exact HB.out)) hb); clear BK249; clear HB; have BK249 := n0_; have HB := n1_; clear n0_ n1_; (try clear hb); (try clear hb2); (try clear hk); (try clear hi))); try go_wp2_with (first | ((with_reducible refine gate_dst (N := 1) rfl ?_); refine box_event ?hg (N := 1) ?hd (cs := #[.slice A0_0 l0_0.length c0_0, .slice A0_1 l0_1.length c0_1, .slice A0_2 l0_2.length c0_2]) (t := 25) ?hr ?_; (case hd => rfl); (case hg => rfl); (case hr => first | (go_simp; done) | (go_simp; rfl)); intro gb249 hg w4 hbox hb; have n0_ := Aside0.mk (below_step (by repeat (first | (with_reducible first | exact HB.out | apply below_alloc | apply pw_below_drewN | apply below_drew1) | exact HB.out)) hb); have n1_ := Aside0.mk (hbox); have n2_ := Aside0.mk ((by rw [hg]; exact (below_size (by repeat (first | (with_reducible first | exact HB.out | apply below_alloc | apply pw_below_drewN | apply below_drew1) | exact HB.out))) : w.heap.size ≤ gb249)); have n3_ := Aside0.mk ((by rw [hg]; exact (below_size (by repeat (first | (with_reducible first | exact HB.out | apply below_alloc | apply pw_below_drewN | apply below_drew1) | exact HB.out))) : w.heap.size ≤ gb249)); clear HB; have HB := n0_; have BK249 := n1_; have GW249 := n2_; have GE249 := n3_; clear n0_ n1_ n2_ n3_; clear hb hbox hg; have hcz5_0 : w4.cell? ⟨gb249, 0, none⟩ = some (.slice A0_0 l0_0.length c0_0) := (blk_cell BK249.out 0).trans rfl; have hcz5_1 : w4.cell? ⟨gb249, 1, none⟩ = some (.slice A0_1 l0_1.length c0_1) := (blk_cell BK249.out 1).trans rfl; have hcz5_2 : w4.cell? ⟨gb249, 2, none⟩ = some (.slice A0_2 l0_2.length c0_2) := (blk_cell BK249.out 2).trans rfl; have hfz5_0 := blk_frozen BK249.out 0; have hfz5_1 := blk_frozen BK249.out 1; have hfz5_2 := blk_frozen BK249.out 2) | (go_at_call 6; (with_reducible refine (fairwaylaw17_heavy.calls k _ _ l0_0 _ _ l0_1 _ _ l0_2 true _ ?side1 ?side2 ?side3 ?side4 ?side5 ?side6 A2.out).mono ?_); (case side1 => repeat (first | exact (Kd.C_below HR0_0.out HB.out) | (with_reducible refine Kd.C_alloc ?_ _) | (with_reducible refine Kd.C_drewN ?_ _) | (with_reducible refine Kd.C_drew ?_))); (case side2 => exact HC0_0.out); (case side3 => repeat (first | exact (Kd.C_below HR0_1.out HB.out) | (with_reducible refine Kd.C_alloc ?_ _) | (with_reducible refine Kd.C_drewN ?_ _) | (with_reducible refine Kd.C_drew ?_))); (case side4 => exact HC0_1.out); (case side5 => repeat (first | exact (Kd.C_below HR0_2.out HB.out) | (with_reducible refine Kd.C_alloc ?_ _) | (with_reducible refine Kd.C_drewN ?_ _) | (with_reducible refine Kd.C_drew ?_))); (case side6 => exact HC0_2.out); rintro e w6 ⟨rfl, hb⟩; have n0_ := Aside0.mk (blk_below (g := gb249) (o := .cells #[.slice A0_0 l0_0.length c0_0, .slice A0_1 l0_1.length c0_1, .slice A0_2 l0_2.length c0_2] 25 (0, 0)) (by (with_reducible repeat (first | refine blk_drewN ?_ _ | refine blk_drew ?_ | refine blk_alloc ?_ _)); exact BK249.out) hb); have n1_ := Aside0.mk (below_step (by repeat (first | (with_reducible first | exact HB.out | apply below_alloc | apply pw_below_drewN | apply below_drew1 | refine below_set ?_ GE249.out) | exact HB.out)) hb); clear BK249; clear HB; have BK249 := n0_; have HB := n1_; clear n0_ n1_; (try clear hb); (try clear hb2); (try clear hk); (try clear hi))))
  go_ret
  exact ⟨by first | rfl | (simp [errW_none, errW_some] <;> rfl) | (simp [*, errW_none, errW_some] <;> rfl), by repeat (first | (with_reducible first | exact HB.out | apply below_alloc | apply pw_below_drewN | apply below_drew1 | refine below_set ?_ GE249.out) | exact HB.out)⟩
 ·replace c3 := Bool.eq_false_iff.mpr c3
  subst c3
  have H1 : ((fairwayref0_CopyGroups.f k l0_0).bind fun t251 => (fairwaylaw17_GroupCommits.l0 k t251 0 l0_0 l0_1 l0_2)) = some r := by rw [if_neg (show ¬ (false = true) by decide)] at H; exact H
  clear H
  have H := H1
  clear H1
  replace H := Option.bind_eq_some_iff.mp H
  obtain ⟨t251, A70, H⟩ := H
  replace H : (fairwaylaw17_GroupCommits.l0 k t251 0 l0_0 l0_1 l0_2) = some r := H
  have A7 := Aside0.mk A70
  clear A70
  have H' := Aside0.mk H
  clear H
  go_enter Tryd.func3, Tryd.ntmps3
  go_wp2_with (first | ((with_reducible refine gate_dst (N := 1) rfl ?_); refine box_event ?hg (N := 1) ?hd (cs := #[.slice A0_0 l0_0.length c0_0, .slice A0_1 l0_1.length c0_1, .slice A0_2 l0_2.length c0_2]) (t := 25) ?hr ?_; (case hd => rfl); (case hg => rfl); (case hr => first | (go_simp; done) | (go_simp; rfl)); intro gb249 hg w8 hbox hb; have n0_ := Aside0.mk (below_step (by repeat (first | (with_reducible first | exact HB.out | apply below_alloc | apply pw_below_drewN | apply below_drew1) | exact HB.out)) hb); have n1_ := Aside0.mk (hbox); have n2_ := Aside0.mk ((by rw [hg]; exact (below_size (by repeat (first | (with_reducible first | exact HB.out | apply below_alloc | apply pw_below_drewN | apply below_drew1) | exact HB.out))) : w.heap.size ≤ gb249)); have n3_ := Aside0.mk ((by rw [hg]; exact (below_size (by repeat (first | (with_reducible first | exact HB.out | apply below_alloc | apply pw_below_drewN | apply below_drew1) | exact HB.out))) : w.heap.size ≤ gb249)); clear HB; have HB := n0_; have BK249 := n1_; have GW249 := n2_; have GE249 := n3_; clear n0_ n1_ n2_ n3_; clear hb hbox hg; have hcz9_0 : w8.cell? ⟨gb249, 0, none⟩ = some (.slice A0_0 l0_0.length c0_0) := (blk_cell BK249.out 0).trans rfl; have hcz9_1 : w8.cell? ⟨gb249, 1, none⟩ = some (.slice A0_1 l0_1.length c0_1) := (blk_cell BK249.out 1).trans rfl; have hcz9_2 : w8.cell? ⟨gb249, 2, none⟩ = some (.slice A0_2 l0_2.length c0_2) := (blk_cell BK249.out 2).trans rfl; have hfz9_0 := blk_frozen BK249.out 0; have hfz9_1 := blk_frozen BK249.out 1; have hfz9_2 := blk_frozen BK249.out 2) | (go_at_call 6; (with_reducible refine (fairwaylaw17_heavy.calls k _ _ l0_0 _ _ l0_1 _ _ l0_2 false _ ?side1 ?side2 ?side3 ?side4 ?side5 ?side6 A2.out).mono ?_); (case side1 => repeat (first | exact (Kd.C_below HR0_0.out HB.out) | (with_reducible refine Kd.C_alloc ?_ _) | (with_reducible refine Kd.C_drewN ?_ _) | (with_reducible refine Kd.C_drew ?_))); (case side2 => exact HC0_0.out); (case side3 => repeat (first | exact (Kd.C_below HR0_1.out HB.out) | (with_reducible refine Kd.C_alloc ?_ _) | (with_reducible refine Kd.C_drewN ?_ _) | (with_reducible refine Kd.C_drew ?_))); (case side4 => exact HC0_1.out); (case side5 => repeat (first | exact (Kd.C_below HR0_2.out HB.out) | (with_reducible refine Kd.C_alloc ?_ _) | (with_reducible refine Kd.C_drewN ?_ _) | (with_reducible refine Kd.C_drew ?_))); (case side6 => exact HC0_2.out); rintro e w10 ⟨rfl, hb⟩; have n0_ := Aside0.mk (blk_below (g := gb249) (o := .cells #[.slice A0_0 l0_0.length c0_0, .slice A0_1 l0_1.length c0_1, .slice A0_2 l0_2.length c0_2] 25 (0, 0)) (by (with_reducible repeat (first | refine blk_drewN ?_ _ | refine blk_drew ?_ | refine blk_alloc ?_ _)); exact BK249.out) hb); have n1_ := Aside0.mk (below_step (by repeat (first | (with_reducible first | exact HB.out | apply below_alloc | apply pw_below_drewN | apply below_drew1 | refine below_set ?_ GE249.out) | exact HB.out)) hb); clear BK249; clear HB; have BK249 := n0_; have HB := n1_; clear n0_ n1_; (try clear hb); (try clear hb2); (try clear hk); (try clear hi); have hcz11_0 : w10.cell? ⟨gb249, 0, none⟩ = some (.slice A0_0 l0_0.length c0_0) := (blk_cell BK249.out 0).trans rfl; have hcz11_1 : w10.cell? ⟨gb249, 1, none⟩ = some (.slice A0_1 l0_1.length c0_1) := (blk_cell BK249.out 1).trans rfl; have hcz11_2 : w10.cell? ⟨gb249, 2, none⟩ = some (.slice A0_2 l0_2.length c0_2) := (blk_cell BK249.out 2).trans rfl; have hfz11_0 := blk_frozen BK249.out 0; have hfz11_1 := blk_frozen BK249.out 1; have hfz11_2 := blk_frozen BK249.out 2) | (go_at_call 7; (with_reducible refine (fairwayref0_CopyGroups.calls k _ _ l0_0 t251 _ ?side1 ?side2 A7.out).mono ?_); (case side1 => repeat (first | exact (Kd.C_below HR0_0.out HB.out) | (with_reducible refine Kd.C_alloc ?_ _) | (with_reducible refine Kd.C_drewN ?_ _) | (with_reducible refine Kd.C_drew ?_))); (case side2 => exact HC0_0.out); rintro e w12 ⟨v252, rfl, ho0, hb⟩; have n0_ := Aside0.mk (Kd.R_lower ho0 (below_size (by repeat (first | (with_reducible first | exact HB.out | apply below_alloc | apply pw_below_drewN | apply below_drew1 | refine below_set ?_ GE249.out) | exact HB.out)))); have n1_ := Aside0.mk (blk_below (g := gb249) (o := .cells #[.slice A0_0 l0_0.length c0_0, .slice A0_1 l0_1.length c0_1, .slice A0_2 l0_2.length c0_2] 25 (0, 0)) (by (with_reducible repeat (first | refine blk_drewN ?_ _ | refine blk_drew ?_ | refine blk_alloc ?_ _)); exact BK249.out) hb); have n2_ := Aside0.mk (below_step (by repeat (first | (with_reducible first | exact HB.out | apply below_alloc | apply pw_below_drewN | apply below_drew1 | refine below_set ?_ GE249.out) | exact HB.out)) hb); clear BK249; clear HB; have HO253 := n0_; have BK249 := n1_; have HB := n2_; clear n0_ n1_ n2_; (try clear hb); (try clear hb2); (try clear hk); (try clear hi); (try clear ho0)))
  repeat (go_quiet (first | ((with_reducible refine gate_dst (N := 1) rfl ?_); refine box_event ?hg (N := 1) ?hd (cs := #[.slice A0_0 l0_0.length c0_0, .slice A0_1 l0_1.length c0_1, .slice A0_2 l0_2.length c0_2]) (t := 25) ?hr ?_; (case hd => rfl); (case hg => rfl); (case hr => first | (go_simp; done) | (go_simp; rfl)); intro gb249 hg w8 hbox hb; have n0_ := Aside0.mk (below_step (by repeat (first | (with_reducible first | exact HB.out | apply below_alloc | apply pw_below_drewN | apply below_drew1) | exact HB.out)) hb); have n1_ := Aside0.mk (hbox); have n2_ := Aside0.mk ((by rw [hg]; exact (below_size (by repeat (first | (with_reducible first | exact HB.out | apply below_alloc | apply pw_below_drewN | apply below_drew1) | exact HB.out))) : w.heap.size ≤ gb249)); have n3_ := Aside0.mk ((by rw [hg]; exact (below_size (by repeat (first | (with_reducible first | exact HB.out | apply below_alloc | apply pw_below_drewN | apply below_drew1) | exact HB.out))) : w.heap.size ≤ gb249)); clear HB; have HB := n0_; have BK249 := n1_; have GW249 := n2_; have GE249 := n3_; clear n0_ n1_ n2_ n3_; clear hb hbox hg; have hcz9_0 : w8.cell? ⟨gb249, 0, none⟩ = some (.slice A0_0 l0_0.length c0_0) := (blk_cell BK249.out 0).trans rfl; have hcz9_1 : w8.cell? ⟨gb249, 1, none⟩ = some (.slice A0_1 l0_1.length c0_1) := (blk_cell BK249.out 1).trans rfl; have hcz9_2 : w8.cell? ⟨gb249, 2, none⟩ = some (.slice A0_2 l0_2.length c0_2) := (blk_cell BK249.out 2).trans rfl; have hfz9_0 := blk_frozen BK249.out 0; have hfz9_1 := blk_frozen BK249.out 1; have hfz9_2 := blk_frozen BK249.out 2) | (go_at_call 6; (with_reducible refine (fairwaylaw17_heavy.calls k _ _ l0_0 _ _ l0_1 _ _ l0_2 false _ ?side1 ?side2 ?side3 ?side4 ?side5 ?side6 A2.out).mono ?_); (case side1 => repeat (first | exact (Kd.C_below HR0_0.out HB.out) | (with_reducible refine Kd.C_alloc ?_ _) | (with_reducible refine Kd.C_drewN ?_ _) | (with_reducible refine Kd.C_drew ?_))); (case side2 => exact HC0_0.out); (case side3 => repeat (first | exact (Kd.C_below HR0_1.out HB.out) | (with_reducible refine Kd.C_alloc ?_ _) | (with_reducible refine Kd.C_drewN ?_ _) | (with_reducible refine Kd.C_drew ?_))); (case side4 => exact HC0_1.out); (case side5 => repeat (first | exact (Kd.C_below HR0_2.out HB.out) | (with_reducible refine Kd.C_alloc ?_ _) | (with_reducible refine Kd.C_drewN ?_ _) | (with_reducible refine Kd.C_drew ?_))); (case side6 => exact HC0_2.out); rintro e w10 ⟨rfl, hb⟩; have n0_ := Aside0.mk (blk_below (g := gb249) (o := .cells #[.slice A0_0 l0_0.length c0_0, .slice A0_1 l0_1.length c0_1, .slice A0_2 l0_2.length c0_2] 25 (0, 0)) (by (with_reducible repeat (first | refine blk_drewN ?_ _ | refine blk_drew ?_ | refine blk_alloc ?_ _)); exact BK249.out) hb); have n1_ := Aside0.mk (below_step (by repeat (first | (with_reducible first | exact HB.out | apply below_alloc | apply pw_below_drewN | apply below_drew1 | refine below_set ?_ GE249.out) | exact HB.out)) hb); clear BK249; clear HB; have BK249 := n0_; have HB := n1_; clear n0_ n1_; (try clear hb); (try clear hb2); (try clear hk); (try clear hi); have hcz11_0 : w10.cell? ⟨gb249, 0, none⟩ = some (.slice A0_0 l0_0.length c0_0) := (blk_cell BK249.out 0).trans rfl; have hcz11_1 : w10.cell? ⟨gb249, 1, none⟩ = some (.slice A0_1 l0_1.length c0_1) := (blk_cell BK249.out 1).trans rfl; have hcz11_2 : w10.cell? ⟨gb249, 2, none⟩ = some (.slice A0_2 l0_2.length c0_2) := (blk_cell BK249.out 2).trans rfl; have hfz11_0 := blk_frozen BK249.out 0; have hfz11_1 := blk_frozen BK249.out 1; have hfz11_2 := blk_frozen BK249.out 2) | (go_at_call 7; (with_reducible refine (fairwayref0_CopyGroups.calls k _ _ l0_0 t251 _ ?side1 ?side2 A7.out).mono ?_); (case side1 => repeat (first | exact (Kd.C_below HR0_0.out HB.out) | (with_reducible refine Kd.C_alloc ?_ _) | (with_reducible refine Kd.C_drewN ?_ _) | (with_reducible refine Kd.C_drew ?_))); (case side2 => exact HC0_0.out); rintro e w12 ⟨v252, rfl, ho0, hb⟩; have n0_ := Aside0.mk (Kd.R_lower ho0 (below_size (by repeat (first | (with_reducible first | exact HB.out | apply below_alloc | apply pw_below_drewN | apply below_drew1 | refine below_set ?_ GE249.out) | exact HB.out)))); have n1_ := Aside0.mk (blk_below (g := gb249) (o := .cells #[.slice A0_0 l0_0.length c0_0, .slice A0_1 l0_1.length c0_1, .slice A0_2 l0_2.length c0_2] 25 (0, 0)) (by (with_reducible repeat (first | refine blk_drewN ?_ _ | refine blk_drew ?_ | refine blk_alloc ?_ _)); exact BK249.out) hb); have n2_ := Aside0.mk (below_step (by repeat (first | (with_reducible first | exact HB.out | apply below_alloc | apply pw_below_drewN | apply below_drew1 | refine below_set ?_ GE249.out) | exact HB.out)) hb); clear BK249; clear HB; have HO253 := n0_; have BK249 := n1_; have HB := n2_; clear n0_ n1_ n2_; (try clear hb); (try clear hb2); (try clear hk); (try clear hi); (try clear ho0))); try go_wp2_with (first | ((with_reducible refine gate_dst (N := 1) rfl ?_); refine box_event ?hg (N := 1) ?hd (cs := #[.slice A0_0 l0_0.length c0_0, .slice A0_1 l0_1.length c0_1, .slice A0_2 l0_2.length c0_2]) (t := 25) ?hr ?_; (case hd => rfl); (case hg => rfl); (case hr => first | (go_simp; done) | (go_simp; rfl)); intro gb249 hg w8 hbox hb; have n0_ := Aside0.mk (below_step (by repeat (first | (with_reducible first | exact HB.out | apply below_alloc | apply pw_below_drewN | apply below_drew1) | exact HB.out)) hb); have n1_ := Aside0.mk (hbox); have n2_ := Aside0.mk ((by rw [hg]; exact (below_size (by repeat (first | (with_reducible first | exact HB.out | apply below_alloc | apply pw_below_drewN | apply below_drew1) | exact HB.out))) : w.heap.size ≤ gb249)); have n3_ := Aside0.mk ((by rw [hg]; exact (below_size (by repeat (first | (with_reducible first | exact HB.out | apply below_alloc | apply pw_below_drewN | apply below_drew1) | exact HB.out))) : w.heap.size ≤ gb249)); clear HB; have HB := n0_; have BK249 := n1_; have GW249 := n2_; have GE249 := n3_; clear n0_ n1_ n2_ n3_; clear hb hbox hg; have hcz9_0 : w8.cell? ⟨gb249, 0, none⟩ = some (.slice A0_0 l0_0.length c0_0) := (blk_cell BK249.out 0).trans rfl; have hcz9_1 : w8.cell? ⟨gb249, 1, none⟩ = some (.slice A0_1 l0_1.length c0_1) := (blk_cell BK249.out 1).trans rfl; have hcz9_2 : w8.cell? ⟨gb249, 2, none⟩ = some (.slice A0_2 l0_2.length c0_2) := (blk_cell BK249.out 2).trans rfl; have hfz9_0 := blk_frozen BK249.out 0; have hfz9_1 := blk_frozen BK249.out 1; have hfz9_2 := blk_frozen BK249.out 2) | (go_at_call 6; (with_reducible refine (fairwaylaw17_heavy.calls k _ _ l0_0 _ _ l0_1 _ _ l0_2 false _ ?side1 ?side2 ?side3 ?side4 ?side5 ?side6 A2.out).mono ?_); (case side1 => repeat (first | exact (Kd.C_below HR0_0.out HB.out) | (with_reducible refine Kd.C_alloc ?_ _) | (with_reducible refine Kd.C_drewN ?_ _) | (with_reducible refine Kd.C_drew ?_))); (case side2 => exact HC0_0.out); (case side3 => repeat (first | exact (Kd.C_below HR0_1.out HB.out) | (with_reducible refine Kd.C_alloc ?_ _) | (with_reducible refine Kd.C_drewN ?_ _) | (with_reducible refine Kd.C_drew ?_))); (case side4 => exact HC0_1.out); (case side5 => repeat (first | exact (Kd.C_below HR0_2.out HB.out) | (with_reducible refine Kd.C_alloc ?_ _) | (with_reducible refine Kd.C_drewN ?_ _) | (with_reducible refine Kd.C_drew ?_))); (case side6 => exact HC0_2.out); rintro e w10 ⟨rfl, hb⟩; have n0_ := Aside0.mk (blk_below (g := gb249) (o := .cells #[.slice A0_0 l0_0.length c0_0, .slice A0_1 l0_1.length c0_1, .slice A0_2 l0_2.length c0_2] 25 (0, 0)) (by (with_reducible repeat (first | refine blk_drewN ?_ _ | refine blk_drew ?_ | refine blk_alloc ?_ _)); exact BK249.out) hb); have n1_ := Aside0.mk (below_step (by repeat (first | (with_reducible first | exact HB.out | apply below_alloc | apply pw_below_drewN | apply below_drew1 | refine below_set ?_ GE249.out) | exact HB.out)) hb); clear BK249; clear HB; have BK249 := n0_; have HB := n1_; clear n0_ n1_; (try clear hb); (try clear hb2); (try clear hk); (try clear hi); have hcz11_0 : w10.cell? ⟨gb249, 0, none⟩ = some (.slice A0_0 l0_0.length c0_0) := (blk_cell BK249.out 0).trans rfl; have hcz11_1 : w10.cell? ⟨gb249, 1, none⟩ = some (.slice A0_1 l0_1.length c0_1) := (blk_cell BK249.out 1).trans rfl; have hcz11_2 : w10.cell? ⟨gb249, 2, none⟩ = some (.slice A0_2 l0_2.length c0_2) := (blk_cell BK249.out 2).trans rfl; have hfz11_0 := blk_frozen BK249.out 0; have hfz11_1 := blk_frozen BK249.out 1; have hfz11_2 := blk_frozen BK249.out 2) | (go_at_call 7; (with_reducible refine (fairwayref0_CopyGroups.calls k _ _ l0_0 t251 _ ?side1 ?side2 A7.out).mono ?_); (case side1 => repeat (first | exact (Kd.C_below HR0_0.out HB.out) | (with_reducible refine Kd.C_alloc ?_ _) | (with_reducible refine Kd.C_drewN ?_ _) | (with_reducible refine Kd.C_drew ?_))); (case side2 => exact HC0_0.out); rintro e w12 ⟨v252, rfl, ho0, hb⟩; have n0_ := Aside0.mk (Kd.R_lower ho0 (below_size (by repeat (first | (with_reducible first | exact HB.out | apply below_alloc | apply pw_below_drewN | apply below_drew1 | refine below_set ?_ GE249.out) | exact HB.out)))); have n1_ := Aside0.mk (blk_below (g := gb249) (o := .cells #[.slice A0_0 l0_0.length c0_0, .slice A0_1 l0_1.length c0_1, .slice A0_2 l0_2.length c0_2] 25 (0, 0)) (by (with_reducible repeat (first | refine blk_drewN ?_ _ | refine blk_drew ?_ | refine blk_alloc ?_ _)); exact BK249.out) hb); have n2_ := Aside0.mk (below_step (by repeat (first | (with_reducible first | exact HB.out | apply below_alloc | apply pw_below_drewN | apply below_drew1 | refine below_set ?_ GE249.out) | exact HB.out)) hb); clear BK249; clear HB; have HO253 := n0_; have BK249 := n1_; have HB := n2_; clear n0_ n1_ n2_; (try clear hb); (try clear hb2); (try clear hk); (try clear hi); (try clear ho0))))
  go_loopg [3, 4] k (fun kq v3 v4 w' => ∃ (x3_1 : List (S29)) (x4_1 : Int), v4 = .int .i64 x4_1 ∧ Aside0 (fairwaylaw17_GroupCommits.l0 kq x3_1 x4_1 l0_0 l0_1 l0_2 = some r) ∧ Aside0 (kq ≤ k) ∧ Aside0 (Kd.R k29 29 w' w.heap.size (fun _ => True) v3 x3_1) ∧ Aside0 (w'.heap[gb249]? = some (.cells #[(.slice A0_0 l0_0.length c0_0), (.slice A0_1 l0_1.length c0_1), (.slice A0_2 l0_2.length c0_2)] 25 (0, 0))) ∧ Aside0 (Below w.heap.size w w'))
  case atStart => exact ⟨(t251), (0), (by first | rfl | (simp; done) | (simp [*]; done)), H', ⟨Nat.le_refl _⟩, ⟨by (with_reducible repeat (first | apply Kd.R_alloc | apply Kd.R_drewN | apply Kd.R_drew)); exact HO253.out⟩, ⟨by (with_reducible repeat (first | refine blk_drewN ?_ _ | refine blk_drew ?_ | refine blk_alloc ?_ _)); exact BK249.out⟩, ⟨by repeat (first | (with_reducible first | exact HB.out | apply below_alloc | apply pw_below_drewN | apply below_drew1 | refine below_set ?_ GE249.out) | exact HB.out)⟩⟩
  case round =>
   clear H'
   try clear p2
   try clear c3
   try clear hcz11_0
   try clear hcz11_1
   try clear hcz11_2
   try clear hcz5_0
   try clear hcz5_1
   try clear hcz5_2
   try clear hcz9_0
   try clear hcz9_1
   try clear hcz9_2
   try clear hfz11_0
   try clear hfz11_1
   try clear hfz11_2
   try clear hfz5_0
   try clear hfz5_1
   try clear hfz5_2
   try clear hfz9_0
   try clear hfz9_1
   try clear hfz9_2
   obtain ⟨x3_1, x4_1, rfl, HA, HK1, HO_3, BK249, HB⟩ := hrel
   cases gk with
   | zero => exact absurd HA.out (by simp [fairwaylaw17_GroupCommits.l0])
   | succ k1 =>
    have H := HA.out
    clear HA
    simp only [fairwaylaw17_GroupCommits.l0] at H
    have HC13 := Aside0.mk H
    clear H
    go_upto_region 5 with (fail)
    repeat (go_quiet (fail); go_upto_region 5 with (fail))
    go_cut [32] (fun v32 wc => ∃ (kq : Nat) (x32_12 : Bool), v32 = .bool x32_12 ∧ Aside0 (fairwaylaw17_GroupCommits.j1 kq x3_1 x4_1 x32_12 l0_0 l0_1 l0_2 = some r) ∧ Aside0 (kq ≤ k1) ∧ Aside0 (Kd.R k29 29 wc w.heap.size (fun _ => True) u3 x3_1) ∧ Aside0 (wc.heap[gb249]? = some (.cells #[(.slice A0_0 l0_0.length c0_0), (.slice A0_1 l0_1.length c0_1), (.slice A0_2 l0_2.length c0_2)] 25 (0, 0))) ∧ Aside0 (Below w.heap.size w wc))
    case first =>
     have H := HC13.out
     clear HC13
     by_cases c14 : x4_1 < (l0_1.length : Int)
     ·rw [if_pos c14] at H
      have c14b0 : decide (x4_1 < (l0_1.length : Int)) = true := decide_eq_true c14
      clear c14
      (first | rw [c14b0] | (simp only [i64_w, i32_w]; rw [c14b0]) | skip)
      have H' := Aside0.mk H
      clear H
      have hcz15_0 : wr.cell? ⟨gb249, 0, none⟩ = some (.slice A0_0 l0_0.length c0_0) := (blk_cell BK249.out 0).trans rfl
      have hcz15_1 : wr.cell? ⟨gb249, 1, none⟩ = some (.slice A0_1 l0_1.length c0_1) := (blk_cell BK249.out 1).trans rfl
      have hcz15_2 : wr.cell? ⟨gb249, 2, none⟩ = some (.slice A0_2 l0_2.length c0_2) := (blk_cell BK249.out 2).trans rfl
      have hfz15_0 := blk_frozen BK249.out 0
      have hfz15_1 := blk_frozen BK249.out 1
      have hfz15_2 := blk_frozen BK249.out 2
      go_wp2
      repeat (go_quiet (fail); try go_wp2)
      go_meet
      case rel => exact ⟨_, (decide (x4_1 < 15)), (by first | rfl | (simp; done) | (simp [*]; done)), H', ⟨by have := HK1.out; first | omega | exact Nat.le_refl _⟩, ⟨by (with_reducible repeat (first | apply Kd.R_alloc | apply Kd.R_drewN | apply Kd.R_drew)); exact HO_3.out⟩, ⟨by (with_reducible repeat (first | refine blk_drewN ?_ _ | refine blk_drew ?_ | refine blk_alloc ?_ _)); exact BK249.out⟩, ⟨by repeat (first | (with_reducible first | exact HB.out | apply below_alloc | apply pw_below_drewN | apply below_drew1 | refine below_set ?_ GE249.out) | exact HB.out)⟩⟩
     ·rw [if_neg c14] at H
      have c14b0 : decide (x4_1 < (l0_1.length : Int)) = false := decide_eq_false c14
      clear c14
      (first | rw [c14b0] | (simp only [i64_w, i32_w]; rw [c14b0]) | skip)
      have H' := Aside0.mk H
      clear H
      have hcz16_0 : wr.cell? ⟨gb249, 0, none⟩ = some (.slice A0_0 l0_0.length c0_0) := (blk_cell BK249.out 0).trans rfl
      have hcz16_1 : wr.cell? ⟨gb249, 1, none⟩ = some (.slice A0_1 l0_1.length c0_1) := (blk_cell BK249.out 1).trans rfl
      have hcz16_2 : wr.cell? ⟨gb249, 2, none⟩ = some (.slice A0_2 l0_2.length c0_2) := (blk_cell BK249.out 2).trans rfl
      have hfz16_0 := blk_frozen BK249.out 0
      have hfz16_1 := blk_frozen BK249.out 1
      have hfz16_2 := blk_frozen BK249.out 2
      go_wp2
      repeat (go_quiet (fail); try go_wp2)
      go_meet
      case rel => exact ⟨_, (false), (by first | rfl | (simp; done) | (simp [*]; done)), H', ⟨by have := HK1.out; first | omega | exact Nat.le_refl _⟩, ⟨by (with_reducible repeat (first | apply Kd.R_alloc | apply Kd.R_drewN | apply Kd.R_drew)); exact HO_3.out⟩, ⟨by (with_reducible repeat (first | refine blk_drewN ?_ _ | refine blk_drew ?_ | refine blk_alloc ?_ _)); exact BK249.out⟩, ⟨by repeat (first | (with_reducible first | exact HB.out | apply below_alloc | apply pw_below_drewN | apply below_drew1 | refine below_set ?_ GE249.out) | exact HB.out)⟩⟩
    case rest =>
     clear HC13
     try clear c1
     try clear p2
     try clear c3
     try clear c14
     try clear c14b0
     try clear hcz11_0
     try clear hcz11_1
     try clear hcz11_2
     try clear hcz15_0
     try clear hcz15_1
     try clear hcz15_2
     try clear hcz16_0
     try clear hcz16_1
     try clear hcz16_2
     try clear hcz5_0
     try clear hcz5_1
     try clear hcz5_2
     try clear hcz9_0
     try clear hcz9_1
     try clear hcz9_2
     try clear hfz11_0
     try clear hfz11_1
     try clear hfz11_2
     try clear hfz15_0
     try clear hfz15_1
     try clear hfz15_2
     try clear hfz16_0
     try clear hfz16_1
     try clear hfz16_2
     try clear hfz5_0
     try clear hfz5_1
     try clear hfz5_2
     try clear hfz9_0
     try clear hfz9_1
     try clear hfz9_2
     try clear p2
     obtain ⟨kq, x32_12, rfl, HA, HJ12, HO_3, BK249, HB⟩ := hcut
     cases kq with
     | zero => exact absurd HA.out (by simp [fairwaylaw17_GroupCommits.j1])
     | succ kj12 =>
      have H := HA.out
      clear HA
      simp only [fairwaylaw17_GroupCommits.j1] at H
      by_cases c17 : x32_12 = true
      ·subst c17
       have H1 : (if 0 ≤ x4_1 then (if x4_1 < (l0_1.length : Int) then ((fairwayref17_Groups.f kj12 x3_1).bind fun t257 => ((group_Fetch.f kj12 x3_1 ((rd_T29 l0_1 x4_1).f0) ((rd_T29 l0_1 x4_1).f1)).bind fun bt258 => (if t257 = true then ((fairwayref17_Fetch.f kj12 x3_1 ((rd_T29 l0_1 x4_1).f0) ((rd_T29 l0_1 x4_1).f1)).bind fun t260 => (if t260 ≥ 0 then (if 0 ≤ t260 then (if t260 < (x3_1.length : Int) then (fairwaylaw17_GroupCommits.j2 kj12 x3_1 x4_1 t257 bt258.1 bt258.2 0 ((rd_T29 x3_1 t260).f2) l0_0 l0_1 l0_2 ((rd_T29 l0_1 x4_1).f0) ((rd_T29 l0_1 x4_1).f1) ((rd_T29 l0_1 x4_1).f2)) else (none)) else (none)) else (fairwaylaw17_GroupCommits.j2 kj12 x3_1 x4_1 t257 bt258.1 bt258.2 3 0 l0_0 l0_1 l0_2 ((rd_T29 l0_1 x4_1).f0) ((rd_T29 l0_1 x4_1).f1) ((rd_T29 l0_1 x4_1).f2)))) else (fairwaylaw17_GroupCommits.j2 kj12 x3_1 x4_1 t257 bt258.1 bt258.2 1 0 l0_0 l0_1 l0_2 ((rd_T29 l0_1 x4_1).f0) ((rd_T29 l0_1 x4_1).f1) ((rd_T29 l0_1 x4_1).f2))))) else (none)) else (none)) = some r := by rw [if_pos rfl] at H; exact H
       clear H
       have H := H1
       clear H1
       by_cases c18 : 0 ≤ x4_1
       ·rw [if_pos c18] at H
        have c18b0 : decide (0 ≤ x4_1) = true := decide_eq_true c18
        clear c18
        by_cases c19 : x4_1 < (l0_1.length : Int)
        ·rw [if_pos c19] at H
         have c19b0 : decide (x4_1 < (l0_1.length : Int)) = true := decide_eq_true c19
         clear c19
         replace H := Option.bind_eq_some_iff.mp H
         obtain ⟨t257, A200, H⟩ := H
         replace H : ((group_Fetch.f kj12 x3_1 ((rd_T29 l0_1 x4_1).f0) ((rd_T29 l0_1 x4_1).f1)).bind fun bt258 => (if t257 = true then ((fairwayref17_Fetch.f kj12 x3_1 ((rd_T29 l0_1 x4_1).f0) ((rd_T29 l0_1 x4_1).f1)).bind fun t260 => (if t260 ≥ 0 then (if 0 ≤ t260 then (if t260 < (x3_1.length : Int) then (fairwaylaw17_GroupCommits.j2 kj12 x3_1 x4_1 t257 bt258.1 bt258.2 0 ((rd_T29 x3_1 t260).f2) l0_0 l0_1 l0_2 ((rd_T29 l0_1 x4_1).f0) ((rd_T29 l0_1 x4_1).f1) ((rd_T29 l0_1 x4_1).f2)) else (none)) else (none)) else (fairwaylaw17_GroupCommits.j2 kj12 x3_1 x4_1 t257 bt258.1 bt258.2 3 0 l0_0 l0_1 l0_2 ((rd_T29 l0_1 x4_1).f0) ((rd_T29 l0_1 x4_1).f1) ((rd_T29 l0_1 x4_1).f2)))) else (fairwaylaw17_GroupCommits.j2 kj12 x3_1 x4_1 t257 bt258.1 bt258.2 1 0 l0_0 l0_1 l0_2 ((rd_T29 l0_1 x4_1).f0) ((rd_T29 l0_1 x4_1).f1) ((rd_T29 l0_1 x4_1).f2)))) = some r := H
         have A20 := Aside0.mk A200
         clear A200
         replace H := Option.bind_eq_some_iff.mp H
         obtain ⟨⟨t258, t259⟩, A210, H⟩ := H
         replace H : (if t257 = true then ((fairwayref17_Fetch.f kj12 x3_1 ((rd_T29 l0_1 x4_1).f0) ((rd_T29 l0_1 x4_1).f1)).bind fun t260 => (if t260 ≥ 0 then (if 0 ≤ t260 then (if t260 < (x3_1.length : Int) then (fairwaylaw17_GroupCommits.j2 kj12 x3_1 x4_1 t257 t258 t259 0 ((rd_T29 x3_1 t260).f2) l0_0 l0_1 l0_2 ((rd_T29 l0_1 x4_1).f0) ((rd_T29 l0_1 x4_1).f1) ((rd_T29 l0_1 x4_1).f2)) else (none)) else (none)) else (fairwaylaw17_GroupCommits.j2 kj12 x3_1 x4_1 t257 t258 t259 3 0 l0_0 l0_1 l0_2 ((rd_T29 l0_1 x4_1).f0) ((rd_T29 l0_1 x4_1).f1) ((rd_T29 l0_1 x4_1).f2)))) else (fairwaylaw17_GroupCommits.j2 kj12 x3_1 x4_1 t257 t258 t259 1 0 l0_0 l0_1 l0_2 ((rd_T29 l0_1 x4_1).f0) ((rd_T29 l0_1 x4_1).f1) ((rd_T29 l0_1 x4_1).f2))) = some r := H
         have A21 := Aside0.mk A210
         clear A210
         have HC22 := Aside0.mk H
         clear H
         have hcz23_0 : wc.cell? ⟨gb249, 0, none⟩ = some (.slice A0_0 l0_0.length c0_0) := (blk_cell BK249.out 0).trans rfl
         have hcz23_1 : wc.cell? ⟨gb249, 1, none⟩ = some (.slice A0_1 l0_1.length c0_1) := (blk_cell BK249.out 1).trans rfl
         have hcz23_2 : wc.cell? ⟨gb249, 2, none⟩ = some (.slice A0_2 l0_2.length c0_2) := (blk_cell BK249.out 2).trans rfl
         have hfz23_0 := blk_frozen BK249.out 0
         have hfz23_1 := blk_frozen BK249.out 1
         have hfz23_2 := blk_frozen BK249.out 2
         have p255 : 0 ≤ (x4_1 : Int) := of_decide_eq_true (by first | (with_reducible assumption) | assumption)
         have q255 : x4_1 < (l0_1.length : Int) := of_decide_eq_true (by first | (with_reducible assumption) | assumption)
         obtain ⟨ad255, e255, hx255_0, hx255_1, hx255_2⟩ := at_T29 HR0_1.out x4_1 p255 q255
         cases e255
         replace hx255_0 := (HB.out.cell (World.block_lt_of_cell? w _ hx255_0)).trans hx255_0
         replace hx255_1 := (HB.out.cell (World.block_lt_of_cell? w _ hx255_1)).trans hx255_1
         replace hx255_2 := (HB.out.cell (World.block_lt_of_cell? w _ hx255_2)).trans hx255_2
         replace p255 := eq_true p255
         replace q255 := eq_true q255
         go_upto_if 51 with (first | ((with_reducible refine gate_dst (N := 5) rfl ?_); refine box_event ?hg (N := 5) ?hd (cs := #[.string (⟨#[]⟩ : ByteArray), .string (⟨#[]⟩ : ByteArray), .int .i64 0]) (t := 29) ?hr ?_; (case hd => rfl); (case hg => rfl); (case hr => first | (go_simp; done) | (go_simp; rfl)); intro gb256 hg w24 hbox hb; have n0_ := Aside0.mk (Kd.R_below (Kd.R_elderB (by (with_reducible repeat (first | apply Kd.R_alloc | apply Kd.R_drewN | apply Kd.R_drew)); exact HO_3.out) gb256 (Nat.le_of_eq hg.symm)) hb); have n1_ := Aside0.mk (blk_below (g := gb249) (o := .cells #[.slice A0_0 l0_0.length c0_0, .slice (some ad255) l0_1.length c0_1, .slice A0_2 l0_2.length c0_2] 25 (0, 0)) (by (with_reducible repeat (first | refine blk_drewN ?_ _ | refine blk_drew ?_ | refine blk_alloc ?_ _)); exact BK249.out) hb); have n2_ := Aside0.mk (below_step (by repeat (first | (with_reducible first | exact HB.out | apply below_alloc | apply pw_below_drewN | apply below_drew1 | refine below_set ?_ GE249.out) | exact HB.out)) hb); have n3_ := Aside0.mk (hbox); have n4_ := Aside0.mk ((by rw [hg]; exact (below_size (by repeat (first | (with_reducible first | exact HB.out | apply below_alloc | apply pw_below_drewN | apply below_drew1 | refine below_set ?_ GE249.out) | exact HB.out))) : w.heap.size ≤ gb256)); have n5_ := Aside0.mk ((by rw [hg]; exact (below_size (by repeat (first | (with_reducible first | exact HB.out | apply below_alloc | apply pw_below_drewN | apply below_drew1 | refine below_set ?_ GE249.out) | exact HB.out))) : w.heap.size ≤ gb256)); have n6_ := Aside0.mk ((by rw [hg]; exact Nat.ne_of_lt (blk_lt (g := gb249) (o := .cells #[.slice A0_0 l0_0.length c0_0, .slice (some ad255) l0_1.length c0_1, .slice A0_2 l0_2.length c0_2] 25 (0, 0)) (by (with_reducible repeat (first | refine blk_drewN ?_ _ | refine blk_drew ?_ | refine blk_alloc ?_ _)); exact BK249.out)) : gb249 ≠ gb256)); have n7_ := Aside0.mk ((by rw [hg]; exact Nat.ne_of_gt (blk_lt (g := gb249) (o := .cells #[.slice A0_0 l0_0.length c0_0, .slice (some ad255) l0_1.length c0_1, .slice A0_2 l0_2.length c0_2] 25 (0, 0)) (by (with_reducible repeat (first | refine blk_drewN ?_ _ | refine blk_drew ?_ | refine blk_alloc ?_ _)); exact BK249.out)) : gb256 ≠ gb249)); clear HO_3; clear BK249; clear HB; have HO_3 := n0_; have BK249 := n1_; have HB := n2_; have BK256 := n3_; have GW256 := n4_; have GE256 := n5_; have NB249_256 := n6_; have NB256_249 := n7_; clear n0_ n1_ n2_ n3_ n4_ n5_ n6_ n7_; clear hb hbox hg; have hnb25 := NB256_249.out; have hnc25 := NB249_256.out; have hcz26_0 : w24.cell? ⟨gb256, 0, none⟩ = some (.string (⟨#[]⟩ : ByteArray)) := (blk_cell BK256.out 0).trans rfl; have hcz26_1 : w24.cell? ⟨gb256, 1, none⟩ = some (.string (⟨#[]⟩ : ByteArray)) := (blk_cell BK256.out 1).trans rfl; have hcz26_2 : w24.cell? ⟨gb256, 2, none⟩ = some (.int .i64 0) := (blk_cell BK256.out 2).trans rfl; have hfz26_0 := blk_frozen BK256.out 0; have hfz26_1 := blk_frozen BK256.out 1; have hfz26_2 := blk_frozen BK256.out 2; obtain ⟨Ao27, co27, eo27⟩ := Kd.R_slice HO_3.out; subst eo27) | (go_at_call 8; (with_reducible refine (fairwayref17_Groups.calls kj12 _ _ x3_1 t257 _ ?side1 ?side2 A20.out).mono ?_); (case side1 => refine (Kd.R_reads' (e := 29) (base := w.heap.size) (ok := fun k_ => (True ∧ k_ ≠ gb256)) (n := x3_1.length) (c := co27) ?_).2.2; exact (by (with_reducible repeat (first | apply Kd.R_alloc | apply Kd.R_drewN | apply Kd.R_drew)); exact (Kd.R_mono (Kd.R_far (p := ⟨gb256, 2, none⟩) (Kd.R_far (p := ⟨gb256, 1, none⟩) (Kd.R_far (p := ⟨gb256, 0, none⟩) (Kd.R_mono HO_3.out (fun k_ hk => (⟨hk, hk.2⟩ : _ ∧ k_ ≠ gb256))) (fun _ hk => hk.2) (.string ((rd_T29 l0_1 x4_1).f0))) (fun _ hk => hk.2) (.string ((rd_T29 l0_1 x4_1).f1))) (fun _ hk => hk.2) (.int .i64 ((rd_T29 l0_1 x4_1).f2))) (fun _ h_ => h_.1)))); (case side2 => exact (Kd.R_reads' HO_3.out).2.1); rintro e w28 ⟨rfl, hb⟩; have n0_ := Aside0.mk (Kd.R_below (by (with_reducible repeat (first | apply Kd.R_alloc | apply Kd.R_drewN | apply Kd.R_drew)); exact (Kd.R_mono (Kd.R_far (p := ⟨gb256, 2, none⟩) (Kd.R_far (p := ⟨gb256, 1, none⟩) (Kd.R_far (p := ⟨gb256, 0, none⟩) (Kd.R_mono HO_3.out (fun k_ hk => (⟨hk, hk.2⟩ : _ ∧ k_ ≠ gb256))) (fun _ hk => hk.2) (.string ((rd_T29 l0_1 x4_1).f0))) (fun _ hk => hk.2) (.string ((rd_T29 l0_1 x4_1).f1))) (fun _ hk => hk.2) (.int .i64 ((rd_T29 l0_1 x4_1).f2))) (fun _ h_ => h_.1))) hb); have n1_ := Aside0.mk (blk_below (g := gb249) (o := .cells #[.slice A0_0 l0_0.length c0_0, .slice (some ad255) l0_1.length c0_1, .slice A0_2 l0_2.length c0_2] 25 (0, 0)) (by (with_reducible repeat (first | refine blk_drewN ?_ _ | refine blk_drew ?_ | refine blk_alloc ?_ _)); refine blk_far ?_ NB249_256.out _; (with_reducible repeat (first | refine blk_drewN ?_ _ | refine blk_drew ?_ | refine blk_alloc ?_ _)); refine blk_far ?_ NB249_256.out _; (with_reducible repeat (first | refine blk_drewN ?_ _ | refine blk_drew ?_ | refine blk_alloc ?_ _)); refine blk_far ?_ NB249_256.out _; (with_reducible repeat (first | refine blk_drewN ?_ _ | refine blk_drew ?_ | refine blk_alloc ?_ _)); exact BK249.out) hb); have n2_ := Aside0.mk (blk_below (g := gb256) (o := .cells #[.string ((rd_T29 l0_1 x4_1).f0), .string ((rd_T29 l0_1 x4_1).f1), .int .i64 ((rd_T29 l0_1 x4_1).f2)] 29 (0, 0)) (by (with_reducible repeat (first | refine blk_drewN ?_ _ | refine blk_drew ?_ | refine blk_alloc ?_ _)); refine blk_put (cs := #[.string ((rd_T29 l0_1 x4_1).f0), .string ((rd_T29 l0_1 x4_1).f1), .int .i64 0]) ?_ 2 _ rfl; (with_reducible repeat (first | refine blk_drewN ?_ _ | refine blk_drew ?_ | refine blk_alloc ?_ _)); refine blk_put (cs := #[.string ((rd_T29 l0_1 x4_1).f0), .string (⟨#[]⟩ : ByteArray), .int .i64 0]) ?_ 1 _ rfl; (with_reducible repeat (first | refine blk_drewN ?_ _ | refine blk_drew ?_ | refine blk_alloc ?_ _)); refine blk_put (cs := #[.string (⟨#[]⟩ : ByteArray), .string (⟨#[]⟩ : ByteArray), .int .i64 0]) ?_ 0 _ rfl; (with_reducible repeat (first | refine blk_drewN ?_ _ | refine blk_drew ?_ | refine blk_alloc ?_ _)); exact BK256.out) hb); have n3_ := Aside0.mk (below_step (by repeat (first | (with_reducible first | exact HB.out | apply below_alloc | apply pw_below_drewN | apply below_drew1 | refine below_set ?_ GE249.out | refine below_set ?_ GE256.out) | exact HB.out)) hb); clear HO_3; clear BK249; clear BK256; clear HB; have HO_3 := n0_; have BK249 := n1_; have BK256 := n2_; have HB := n3_; clear n0_ n1_ n2_ n3_; (try clear hb); (try clear hb2); (try clear hk); (try clear hi); have hcz29_0 : w28.cell? ⟨gb256, 0, none⟩ = some (.string ((rd_T29 l0_1 x4_1).f0)) := (blk_cell BK256.out 0).trans rfl; have hcz29_1 : w28.cell? ⟨gb256, 1, none⟩ = some (.string ((rd_T29 l0_1 x4_1).f1)) := (blk_cell BK256.out 1).trans rfl; have hcz29_2 : w28.cell? ⟨gb256, 2, none⟩ = some (.int .i64 ((rd_T29 l0_1 x4_1).f2)) := (blk_cell BK256.out 2).trans rfl; have hfz29_0 := blk_frozen BK256.out 0; have hfz29_1 := blk_frozen BK256.out 1; have hfz29_2 := blk_frozen BK256.out 2) | (go_at_call 9; (with_reducible refine (group_Fetch.calls kj12 _ _ x3_1 ((rd_T29 l0_1 x4_1).f0) ((rd_T29 l0_1 x4_1).f1) t258 t259 _ ?side1 ?side2 A21.out ?side3).mono ?_); (case side1 => repeat (first | exact (Kd.R_reads' HO_3.out).2.2 | (with_reducible refine Kd.C_alloc ?_ _) | (with_reducible refine Kd.C_drewN ?_ _) | (with_reducible refine Kd.C_drew ?_))); (case side2 => exact (Kd.R_reads' HO_3.out).2.1); (case side3 => exact Tabs_below HT.out (by repeat (first | (with_reducible first | exact HB.out | apply below_alloc | apply pw_below_drewN | apply below_drew1 | refine below_set ?_ GE249.out | refine below_set ?_ GE256.out) | exact HB.out))); rintro e w30 ⟨rfl, hb⟩; have n0_ := Aside0.mk (Kd.R_below (by (with_reducible repeat (first | apply Kd.R_alloc | apply Kd.R_drewN | apply Kd.R_drew)); exact HO_3.out) hb); have n1_ := Aside0.mk (blk_below (g := gb249) (o := .cells #[.slice A0_0 l0_0.length c0_0, .slice (some ad255) l0_1.length c0_1, .slice A0_2 l0_2.length c0_2] 25 (0, 0)) (by (with_reducible repeat (first | refine blk_drewN ?_ _ | refine blk_drew ?_ | refine blk_alloc ?_ _)); exact BK249.out) hb); have n2_ := Aside0.mk (blk_below (g := gb256) (o := .cells #[.string ((rd_T29 l0_1 x4_1).f0), .string ((rd_T29 l0_1 x4_1).f1), .int .i64 ((rd_T29 l0_1 x4_1).f2)] 29 (0, 0)) (by (with_reducible repeat (first | refine blk_drewN ?_ _ | refine blk_drew ?_ | refine blk_alloc ?_ _)); exact BK256.out) hb); have n3_ := Aside0.mk (below_step (by repeat (first | (with_reducible first | exact HB.out | apply below_alloc | apply pw_below_drewN | apply below_drew1 | refine below_set ?_ GE249.out | refine below_set ?_ GE256.out) | exact HB.out)) hb); clear HO_3; clear BK249; clear BK256; clear HB; have HO_3 := n0_; have BK249 := n1_; have BK256 := n2_; have HB := n3_; clear n0_ n1_ n2_ n3_; (try clear hb); (try clear hb2); (try clear hk); (try clear hi)))
         repeat (go_quiet (first | ((with_reducible refine gate_dst (N := 5) rfl ?_); refine box_event ?hg (N := 5) ?hd (cs := #[.string (⟨#[]⟩ : ByteArray), .string (⟨#[]⟩ : ByteArray), .int .i64 0]) (t := 29) ?hr ?_; (case hd => rfl); (case hg => rfl); (case hr => first | (go_simp; done) | (go_simp; rfl)); intro gb256 hg w24 hbox hb; have n0_ := Aside0.mk (Kd.R_below (Kd.R_elderB (by (with_reducible repeat (first | apply Kd.R_alloc | apply Kd.R_drewN | apply Kd.R_drew)); exact HO_3.out) gb256 (Nat.le_of_eq hg.symm)) hb); have n1_ := Aside0.mk (blk_below (g := gb249) (o := .cells #[.slice A0_0 l0_0.length c0_0, .slice (some ad255) l0_1.length c0_1, .slice A0_2 l0_2.length c0_2] 25 (0, 0)) (by (with_reducible repeat (first | refine blk_drewN ?_ _ | refine blk_drew ?_ | refine blk_alloc ?_ _)); exact BK249.out) hb); have n2_ := Aside0.mk (below_step (by repeat (first | (with_reducible first | exact HB.out | apply below_alloc | apply pw_below_drewN | apply below_drew1 | refine below_set ?_ GE249.out) | exact HB.out)) hb); have n3_ := Aside0.mk (hbox); have n4_ := Aside0.mk ((by rw [hg]; exact (below_size (by repeat (first | (with_reducible first | exact HB.out | apply below_alloc | apply pw_below_drewN | apply below_drew1 | refine below_set ?_ GE249.out) | exact HB.out))) : w.heap.size ≤ gb256)); have n5_ := Aside0.mk ((by rw [hg]; exact (below_size (by repeat (first | (with_reducible first | exact HB.out | apply below_alloc | apply pw_below_drewN | apply below_drew1 | refine below_set ?_ GE249.out) | exact HB.out))) : w.heap.size ≤ gb256)); have n6_ := Aside0.mk ((by rw [hg]; exact Nat.ne_of_lt (blk_lt (g := gb249) (o := .cells #[.slice A0_0 l0_0.length c0_0, .slice (some ad255) l0_1.length c0_1, .slice A0_2 l0_2.length c0_2] 25 (0, 0)) (by (with_reducible repeat (first | refine blk_drewN ?_ _ | refine blk_drew ?_ | refine blk_alloc ?_ _)); exact BK249.out)) : gb249 ≠ gb256)); have n7_ := Aside0.mk ((by rw [hg]; exact Nat.ne_of_gt (blk_lt (g := gb249) (o := .cells #[.slice A0_0 l0_0.length c0_0, .slice (some ad255) l0_1.length c0_1, .slice A0_2 l0_2.length c0_2] 25 (0, 0)) (by (with_reducible repeat (first | refine blk_drewN ?_ _ | refine blk_drew ?_ | refine blk_alloc ?_ _)); exact BK249.out)) : gb256 ≠ gb249)); clear HO_3; clear BK249; clear HB; have HO_3 := n0_; have BK249 := n1_; have HB := n2_; have BK256 := n3_; have GW256 := n4_; have GE256 := n5_; have NB249_256 := n6_; have NB256_249 := n7_; clear n0_ n1_ n2_ n3_ n4_ n5_ n6_ n7_; clear hb hbox hg; have hnb25 := NB256_249.out; have hnc25 := NB249_256.out; have hcz26_0 : w24.cell? ⟨gb256, 0, none⟩ = some (.string (⟨#[]⟩ : ByteArray)) := (blk_cell BK256.out 0).trans rfl; have hcz26_1 : w24.cell? ⟨gb256, 1, none⟩ = some (.string (⟨#[]⟩ : ByteArray)) := (blk_cell BK256.out 1).trans rfl; have hcz26_2 : w24.cell? ⟨gb256, 2, none⟩ = some (.int .i64 0) := (blk_cell BK256.out 2).trans rfl; have hfz26_0 := blk_frozen BK256.out 0; have hfz26_1 := blk_frozen BK256.out 1; have hfz26_2 := blk_frozen BK256.out 2; obtain ⟨Ao27, co27, eo27⟩ := Kd.R_slice HO_3.out; subst eo27) | (go_at_call 8; (with_reducible refine (fairwayref17_Groups.calls kj12 _ _ x3_1 t257 _ ?side1 ?side2 A20.out).mono ?_); (case side1 => refine (Kd.R_reads' (e := 29) (base := w.heap.size) (ok := fun k_ => (True ∧ k_ ≠ gb256)) (n := x3_1.length) (c := co27) ?_).2.2; exact (by (with_reducible repeat (first | apply Kd.R_alloc | apply Kd.R_drewN | apply Kd.R_drew)); exact (Kd.R_mono (Kd.R_far (p := ⟨gb256, 2, none⟩) (Kd.R_far (p := ⟨gb256, 1, none⟩) (Kd.R_far (p := ⟨gb256, 0, none⟩) (Kd.R_mono HO_3.out (fun k_ hk => (⟨hk, hk.2⟩ : _ ∧ k_ ≠ gb256))) (fun _ hk => hk.2) (.string ((rd_T29 l0_1 x4_1).f0))) (fun _ hk => hk.2) (.string ((rd_T29 l0_1 x4_1).f1))) (fun _ hk => hk.2) (.int .i64 ((rd_T29 l0_1 x4_1).f2))) (fun _ h_ => h_.1)))); (case side2 => exact (Kd.R_reads' HO_3.out).2.1); rintro e w28 ⟨rfl, hb⟩; have n0_ := Aside0.mk (Kd.R_below (by (with_reducible repeat (first | apply Kd.R_alloc | apply Kd.R_drewN | apply Kd.R_drew)); exact (Kd.R_mono (Kd.R_far (p := ⟨gb256, 2, none⟩) (Kd.R_far (p := ⟨gb256, 1, none⟩) (Kd.R_far (p := ⟨gb256, 0, none⟩) (Kd.R_mono HO_3.out (fun k_ hk => (⟨hk, hk.2⟩ : _ ∧ k_ ≠ gb256))) (fun _ hk => hk.2) (.string ((rd_T29 l0_1 x4_1).f0))) (fun _ hk => hk.2) (.string ((rd_T29 l0_1 x4_1).f1))) (fun _ hk => hk.2) (.int .i64 ((rd_T29 l0_1 x4_1).f2))) (fun _ h_ => h_.1))) hb); have n1_ := Aside0.mk (blk_below (g := gb249) (o := .cells #[.slice A0_0 l0_0.length c0_0, .slice (some ad255) l0_1.length c0_1, .slice A0_2 l0_2.length c0_2] 25 (0, 0)) (by (with_reducible repeat (first | refine blk_drewN ?_ _ | refine blk_drew ?_ | refine blk_alloc ?_ _)); refine blk_far ?_ NB249_256.out _; (with_reducible repeat (first | refine blk_drewN ?_ _ | refine blk_drew ?_ | refine blk_alloc ?_ _)); refine blk_far ?_ NB249_256.out _; (with_reducible repeat (first | refine blk_drewN ?_ _ | refine blk_drew ?_ | refine blk_alloc ?_ _)); refine blk_far ?_ NB249_256.out _; (with_reducible repeat (first | refine blk_drewN ?_ _ | refine blk_drew ?_ | refine blk_alloc ?_ _)); exact BK249.out) hb); have n2_ := Aside0.mk (blk_below (g := gb256) (o := .cells #[.string ((rd_T29 l0_1 x4_1).f0), .string ((rd_T29 l0_1 x4_1).f1), .int .i64 ((rd_T29 l0_1 x4_1).f2)] 29 (0, 0)) (by (with_reducible repeat (first | refine blk_drewN ?_ _ | refine blk_drew ?_ | refine blk_alloc ?_ _)); refine blk_put (cs := #[.string ((rd_T29 l0_1 x4_1).f0), .string ((rd_T29 l0_1 x4_1).f1), .int .i64 0]) ?_ 2 _ rfl; (with_reducible repeat (first | refine blk_drewN ?_ _ | refine blk_drew ?_ | refine blk_alloc ?_ _)); refine blk_put (cs := #[.string ((rd_T29 l0_1 x4_1).f0), .string (⟨#[]⟩ : ByteArray), .int .i64 0]) ?_ 1 _ rfl; (with_reducible repeat (first | refine blk_drewN ?_ _ | refine blk_drew ?_ | refine blk_alloc ?_ _)); refine blk_put (cs := #[.string (⟨#[]⟩ : ByteArray), .string (⟨#[]⟩ : ByteArray), .int .i64 0]) ?_ 0 _ rfl; (with_reducible repeat (first | refine blk_drewN ?_ _ | refine blk_drew ?_ | refine blk_alloc ?_ _)); exact BK256.out) hb); have n3_ := Aside0.mk (below_step (by repeat (first | (with_reducible first | exact HB.out | apply below_alloc | apply pw_below_drewN | apply below_drew1 | refine below_set ?_ GE249.out | refine below_set ?_ GE256.out) | exact HB.out)) hb); clear HO_3; clear BK249; clear BK256; clear HB; have HO_3 := n0_; have BK249 := n1_; have BK256 := n2_; have HB := n3_; clear n0_ n1_ n2_ n3_; (try clear hb); (try clear hb2); (try clear hk); (try clear hi); have hcz29_0 : w28.cell? ⟨gb256, 0, none⟩ = some (.string ((rd_T29 l0_1 x4_1).f0)) := (blk_cell BK256.out 0).trans rfl; have hcz29_1 : w28.cell? ⟨gb256, 1, none⟩ = some (.string ((rd_T29 l0_1 x4_1).f1)) := (blk_cell BK256.out 1).trans rfl; have hcz29_2 : w28.cell? ⟨gb256, 2, none⟩ = some (.int .i64 ((rd_T29 l0_1 x4_1).f2)) := (blk_cell BK256.out 2).trans rfl; have hfz29_0 := blk_frozen BK256.out 0; have hfz29_1 := blk_frozen BK256.out 1; have hfz29_2 := blk_frozen BK256.out 2) | (go_at_call 9; (with_reducible refine (group_Fetch.calls kj12 _ _ x3_1 ((rd_T29 l0_1 x4_1).f0) ((rd_T29 l0_1 x4_1).f1) t258 t259 _ ?side1 ?side2 A21.out ?side3).mono ?_); (case side1 => repeat (first | exact (Kd.R_reads' HO_3.out).2.2 | (with_reducible refine Kd.C_alloc ?_ _) | (with_reducible refine Kd.C_drewN ?_ _) | (with_reducible refine Kd.C_drew ?_))); (case side2 => exact (Kd.R_reads' HO_3.out).2.1); (case side3 => exact Tabs_below HT.out (by repeat (first | (with_reducible first | exact HB.out | apply below_alloc | apply pw_below_drewN | apply below_drew1 | refine below_set ?_ GE249.out | refine below_set ?_ GE256.out) | exact HB.out))); rintro e w30 ⟨rfl, hb⟩; have n0_ := Aside0.mk (Kd.R_below (by (with_reducible repeat (first | apply Kd.R_alloc | apply Kd.R_drewN | apply Kd.R_drew)); exact HO_3.out) hb); have n1_ := Aside0.mk (blk_below (g := gb249) (o := .cells #[.slice A0_0 l0_0.length c0_0, .slice (some ad255) l0_1.length c0_1, .slice A0_2 l0_2.length c0_2] 25 (0, 0)) (by (with_reducible repeat (first | refine blk_drewN ?_ _ | refine blk_drew ?_ | refine blk_alloc ?_ _)); exact BK249.out) hb); have n2_ := Aside0.mk (blk_below (g := gb256) (o := .cells #[.string ((rd_T29 l0_1 x4_1).f0), .string ((rd_T29 l0_1 x4_1).f1), .int .i64 ((rd_T29 l0_1 x4_1).f2)] 29 (0, 0)) (by (with_reducible repeat (first | refine blk_drewN ?_ _ | refine blk_drew ?_ | refine blk_alloc ?_ _)); exact BK256.out) hb); have n3_ := Aside0.mk (below_step (by repeat (first | (with_reducible first | exact HB.out | apply below_alloc | apply pw_below_drewN | apply below_drew1 | refine below_set ?_ GE249.out | refine below_set ?_ GE256.out) | exact HB.out)) hb); clear HO_3; clear BK249; clear BK256; clear HB; have HO_3 := n0_; have BK249 := n1_; have BK256 := n2_; have HB := n3_; clear n0_ n1_ n2_ n3_; (try clear hb); (try clear hb2); (try clear hk); (try clear hi))); go_upto_if 51 with (first | ((with_reducible refine gate_dst (N := 5) rfl ?_); refine box_event ?hg (N := 5) ?hd (cs := #[.string (⟨#[]⟩ : ByteArray), .string (⟨#[]⟩ : ByteArray), .int .i64 0]) (t := 29) ?hr ?_; (case hd => rfl); (case hg => rfl); (case hr => first | (go_simp; done) | (go_simp; rfl)); intro gb256 hg w24 hbox hb; have n0_ := Aside0.mk (Kd.R_below (Kd.R_elderB (by (with_reducible repeat (first | apply Kd.R_alloc | apply Kd.R_drewN | apply Kd.R_drew)); exact HO_3.out) gb256 (Nat.le_of_eq hg.symm)) hb); have n1_ := Aside0.mk (blk_below (g := gb249) (o := .cells #[.slice A0_0 l0_0.length c0_0, .slice (some ad255) l0_1.length c0_1, .slice A0_2 l0_2.length c0_2] 25 (0, 0)) (by (with_reducible repeat (first | refine blk_drewN ?_ _ | refine blk_drew ?_ | refine blk_alloc ?_ _)); exact BK249.out) hb); have n2_ := Aside0.mk (below_step (by repeat (first | (with_reducible first | exact HB.out | apply below_alloc | apply pw_below_drewN | apply below_drew1 | refine below_set ?_ GE249.out) | exact HB.out)) hb); have n3_ := Aside0.mk (hbox); have n4_ := Aside0.mk ((by rw [hg]; exact (below_size (by repeat (first | (with_reducible first | exact HB.out | apply below_alloc | apply pw_below_drewN | apply below_drew1 | refine below_set ?_ GE249.out) | exact HB.out))) : w.heap.size ≤ gb256)); have n5_ := Aside0.mk ((by rw [hg]; exact (below_size (by repeat (first | (with_reducible first | exact HB.out | apply below_alloc | apply pw_below_drewN | apply below_drew1 | refine below_set ?_ GE249.out) | exact HB.out))) : w.heap.size ≤ gb256)); have n6_ := Aside0.mk ((by rw [hg]; exact Nat.ne_of_lt (blk_lt (g := gb249) (o := .cells #[.slice A0_0 l0_0.length c0_0, .slice (some ad255) l0_1.length c0_1, .slice A0_2 l0_2.length c0_2] 25 (0, 0)) (by (with_reducible repeat (first | refine blk_drewN ?_ _ | refine blk_drew ?_ | refine blk_alloc ?_ _)); exact BK249.out)) : gb249 ≠ gb256)); have n7_ := Aside0.mk ((by rw [hg]; exact Nat.ne_of_gt (blk_lt (g := gb249) (o := .cells #[.slice A0_0 l0_0.length c0_0, .slice (some ad255) l0_1.length c0_1, .slice A0_2 l0_2.length c0_2] 25 (0, 0)) (by (with_reducible repeat (first | refine blk_drewN ?_ _ | refine blk_drew ?_ | refine blk_alloc ?_ _)); exact BK249.out)) : gb256 ≠ gb249)); clear HO_3; clear BK249; clear HB; have HO_3 := n0_; have BK249 := n1_; have HB := n2_; have BK256 := n3_; have GW256 := n4_; have GE256 := n5_; have NB249_256 := n6_; have NB256_249 := n7_; clear n0_ n1_ n2_ n3_ n4_ n5_ n6_ n7_; clear hb hbox hg; have hnb25 := NB256_249.out; have hnc25 := NB249_256.out; have hcz26_0 : w24.cell? ⟨gb256, 0, none⟩ = some (.string (⟨#[]⟩ : ByteArray)) := (blk_cell BK256.out 0).trans rfl; have hcz26_1 : w24.cell? ⟨gb256, 1, none⟩ = some (.string (⟨#[]⟩ : ByteArray)) := (blk_cell BK256.out 1).trans rfl; have hcz26_2 : w24.cell? ⟨gb256, 2, none⟩ = some (.int .i64 0) := (blk_cell BK256.out 2).trans rfl; have hfz26_0 := blk_frozen BK256.out 0; have hfz26_1 := blk_frozen BK256.out 1; have hfz26_2 := blk_frozen BK256.out 2; obtain ⟨Ao27, co27, eo27⟩ := Kd.R_slice HO_3.out; subst eo27) | (go_at_call 8; (with_reducible refine (fairwayref17_Groups.calls kj12 _ _ x3_1 t257 _ ?side1 ?side2 A20.out).mono ?_); (case side1 => refine (Kd.R_reads' (e := 29) (base := w.heap.size) (ok := fun k_ => (True ∧ k_ ≠ gb256)) (n := x3_1.length) (c := co27) ?_).2.2; exact (by (with_reducible repeat (first | apply Kd.R_alloc | apply Kd.R_drewN | apply Kd.R_drew)); exact (Kd.R_mono (Kd.R_far (p := ⟨gb256, 2, none⟩) (Kd.R_far (p := ⟨gb256, 1, none⟩) (Kd.R_far (p := ⟨gb256, 0, none⟩) (Kd.R_mono HO_3.out (fun k_ hk => (⟨hk, hk.2⟩ : _ ∧ k_ ≠ gb256))) (fun _ hk => hk.2) (.string ((rd_T29 l0_1 x4_1).f0))) (fun _ hk => hk.2) (.string ((rd_T29 l0_1 x4_1).f1))) (fun _ hk => hk.2) (.int .i64 ((rd_T29 l0_1 x4_1).f2))) (fun _ h_ => h_.1)))); (case side2 => exact (Kd.R_reads' HO_3.out).2.1); rintro e w28 ⟨rfl, hb⟩; have n0_ := Aside0.mk (Kd.R_below (by (with_reducible repeat (first | apply Kd.R_alloc | apply Kd.R_drewN | apply Kd.R_drew)); exact (Kd.R_mono (Kd.R_far (p := ⟨gb256, 2, none⟩) (Kd.R_far (p := ⟨gb256, 1, none⟩) (Kd.R_far (p := ⟨gb256, 0, none⟩) (Kd.R_mono HO_3.out (fun k_ hk => (⟨hk, hk.2⟩ : _ ∧ k_ ≠ gb256))) (fun _ hk => hk.2) (.string ((rd_T29 l0_1 x4_1).f0))) (fun _ hk => hk.2) (.string ((rd_T29 l0_1 x4_1).f1))) (fun _ hk => hk.2) (.int .i64 ((rd_T29 l0_1 x4_1).f2))) (fun _ h_ => h_.1))) hb); have n1_ := Aside0.mk (blk_below (g := gb249) (o := .cells #[.slice A0_0 l0_0.length c0_0, .slice (some ad255) l0_1.length c0_1, .slice A0_2 l0_2.length c0_2] 25 (0, 0)) (by (with_reducible repeat (first | refine blk_drewN ?_ _ | refine blk_drew ?_ | refine blk_alloc ?_ _)); refine blk_far ?_ NB249_256.out _; (with_reducible repeat (first | refine blk_drewN ?_ _ | refine blk_drew ?_ | refine blk_alloc ?_ _)); refine blk_far ?_ NB249_256.out _; (with_reducible repeat (first | refine blk_drewN ?_ _ | refine blk_drew ?_ | refine blk_alloc ?_ _)); refine blk_far ?_ NB249_256.out _; (with_reducible repeat (first | refine blk_drewN ?_ _ | refine blk_drew ?_ | refine blk_alloc ?_ _)); exact BK249.out) hb); have n2_ := Aside0.mk (blk_below (g := gb256) (o := .cells #[.string ((rd_T29 l0_1 x4_1).f0), .string ((rd_T29 l0_1 x4_1).f1), .int .i64 ((rd_T29 l0_1 x4_1).f2)] 29 (0, 0)) (by (with_reducible repeat (first | refine blk_drewN ?_ _ | refine blk_drew ?_ | refine blk_alloc ?_ _)); refine blk_put (cs := #[.string ((rd_T29 l0_1 x4_1).f0), .string ((rd_T29 l0_1 x4_1).f1), .int .i64 0]) ?_ 2 _ rfl; (with_reducible repeat (first | refine blk_drewN ?_ _ | refine blk_drew ?_ | refine blk_alloc ?_ _)); refine blk_put (cs := #[.string ((rd_T29 l0_1 x4_1).f0), .string (⟨#[]⟩ : ByteArray), .int .i64 0]) ?_ 1 _ rfl; (with_reducible repeat (first | refine blk_drewN ?_ _ | refine blk_drew ?_ | refine blk_alloc ?_ _)); refine blk_put (cs := #[.string (⟨#[]⟩ : ByteArray), .string (⟨#[]⟩ : ByteArray), .int .i64 0]) ?_ 0 _ rfl; (with_reducible repeat (first | refine blk_drewN ?_ _ | refine blk_drew ?_ | refine blk_alloc ?_ _)); exact BK256.out) hb); have n3_ := Aside0.mk (below_step (by repeat (first | (with_reducible first | exact HB.out | apply below_alloc | apply pw_below_drewN | apply below_drew1 | refine below_set ?_ GE249.out | refine below_set ?_ GE256.out) | exact HB.out)) hb); clear HO_3; clear BK249; clear BK256; clear HB; have HO_3 := n0_; have BK249 := n1_; have BK256 := n2_; have HB := n3_; clear n0_ n1_ n2_ n3_; (try clear hb); (try clear hb2); (try clear hk); (try clear hi); have hcz29_0 : w28.cell? ⟨gb256, 0, none⟩ = some (.string ((rd_T29 l0_1 x4_1).f0)) := (blk_cell BK256.out 0).trans rfl; have hcz29_1 : w28.cell? ⟨gb256, 1, none⟩ = some (.string ((rd_T29 l0_1 x4_1).f1)) := (blk_cell BK256.out 1).trans rfl; have hcz29_2 : w28.cell? ⟨gb256, 2, none⟩ = some (.int .i64 ((rd_T29 l0_1 x4_1).f2)) := (blk_cell BK256.out 2).trans rfl; have hfz29_0 := blk_frozen BK256.out 0; have hfz29_1 := blk_frozen BK256.out 1; have hfz29_2 := blk_frozen BK256.out 2) | (go_at_call 9; (with_reducible refine (group_Fetch.calls kj12 _ _ x3_1 ((rd_T29 l0_1 x4_1).f0) ((rd_T29 l0_1 x4_1).f1) t258 t259 _ ?side1 ?side2 A21.out ?side3).mono ?_); (case side1 => repeat (first | exact (Kd.R_reads' HO_3.out).2.2 | (with_reducible refine Kd.C_alloc ?_ _) | (with_reducible refine Kd.C_drewN ?_ _) | (with_reducible refine Kd.C_drew ?_))); (case side2 => exact (Kd.R_reads' HO_3.out).2.1); (case side3 => exact Tabs_below HT.out (by repeat (first | (with_reducible first | exact HB.out | apply below_alloc | apply pw_below_drewN | apply below_drew1 | refine below_set ?_ GE249.out | refine below_set ?_ GE256.out) | exact HB.out))); rintro e w30 ⟨rfl, hb⟩; have n0_ := Aside0.mk (Kd.R_below (by (with_reducible repeat (first | apply Kd.R_alloc | apply Kd.R_drewN | apply Kd.R_drew)); exact HO_3.out) hb); have n1_ := Aside0.mk (blk_below (g := gb249) (o := .cells #[.slice A0_0 l0_0.length c0_0, .slice (some ad255) l0_1.length c0_1, .slice A0_2 l0_2.length c0_2] 25 (0, 0)) (by (with_reducible repeat (first | refine blk_drewN ?_ _ | refine blk_drew ?_ | refine blk_alloc ?_ _)); exact BK249.out) hb); have n2_ := Aside0.mk (blk_below (g := gb256) (o := .cells #[.string ((rd_T29 l0_1 x4_1).f0), .string ((rd_T29 l0_1 x4_1).f1), .int .i64 ((rd_T29 l0_1 x4_1).f2)] 29 (0, 0)) (by (with_reducible repeat (first | refine blk_drewN ?_ _ | refine blk_drew ?_ | refine blk_alloc ?_ _)); exact BK256.out) hb); have n3_ := Aside0.mk (below_step (by repeat (first | (with_reducible first | exact HB.out | apply below_alloc | apply pw_below_drewN | apply below_drew1 | refine below_set ?_ GE249.out | refine below_set ?_ GE256.out) | exact HB.out)) hb); clear HO_3; clear BK249; clear BK256; clear HB; have HO_3 := n0_; have BK249 := n1_; have BK256 := n2_; have HB := n3_; clear n0_ n1_ n2_ n3_; (try clear hb); (try clear hb2); (try clear hk); (try clear hi))))
         (try simp only [Act.put, sTo,sZ,sS])
         go_cut [9, 10] (fun v9 v10 wc => ∃ (kq : Nat) (x9_21 : Int) (x10_21 : Int), v9 = .int .i64 x9_21 ∧ v10 = .int .i64 x10_21 ∧ Aside0 (fairwaylaw17_GroupCommits.j2 kq x3_1 x4_1 t257 t258 t259 x9_21 x10_21 l0_0 l0_1 l0_2 ((rd_T29 l0_1 x4_1).f0) ((rd_T29 l0_1 x4_1).f1) ((rd_T29 l0_1 x4_1).f2) = some r) ∧ Aside0 (kq ≤ kj12) ∧ Aside0 (Kd.R k29 29 wc w.heap.size (fun k_ => k_ ≠ gb256) (.slice Ao27 x3_1.length co27) x3_1) ∧ Aside0 (wc.heap[gb249]? = some (.cells #[(.slice A0_0 l0_0.length c0_0), (.slice (some ad255) l0_1.length c0_1), (.slice A0_2 l0_2.length c0_2)] 25 (0, 0))) ∧ Aside0 (wc.heap[gb256]? = some (.cells #[.string ((rd_T29 l0_1 x4_1).f0), .string ((rd_T29 l0_1 x4_1).f1), .int .i64 ((rd_T29 l0_1 x4_1).f2)] 29 (0, 0))) ∧ Aside0 (Below w.heap.size w wc))
         case first =>
          have H := HC22.out
          clear HC22
          by_cases c31 : t257 = true
          ·subst c31
           have H1 : ((fairwayref17_Fetch.f kj12 x3_1 ((rd_T29 l0_1 x4_1).f0) ((rd_T29 l0_1 x4_1).f1)).bind fun t260 => (if t260 ≥ 0 then (if 0 ≤ t260 then (if t260 < (x3_1.length : Int) then (fairwaylaw17_GroupCommits.j2 kj12 x3_1 x4_1 true t258 t259 0 ((rd_T29 x3_1 t260).f2) l0_0 l0_1 l0_2 ((rd_T29 l0_1 x4_1).f0) ((rd_T29 l0_1 x4_1).f1) ((rd_T29 l0_1 x4_1).f2)) else (none)) else (none)) else (fairwaylaw17_GroupCommits.j2 kj12 x3_1 x4_1 true t258 t259 3 0 l0_0 l0_1 l0_2 ((rd_T29 l0_1 x4_1).f0) ((rd_T29 l0_1 x4_1).f1) ((rd_T29 l0_1 x4_1).f2)))) = some r := by rw [if_pos rfl] at H; exact H
           clear H
           have H := H1
           clear H1
           replace H := Option.bind_eq_some_iff.mp H
           obtain ⟨t260, A320, H⟩ := H
           replace H : (if t260 ≥ 0 then (if 0 ≤ t260 then (if t260 < (x3_1.length : Int) then (fairwaylaw17_GroupCommits.j2 kj12 x3_1 x4_1 true t258 t259 0 ((rd_T29 x3_1 t260).f2) l0_0 l0_1 l0_2 ((rd_T29 l0_1 x4_1).f0) ((rd_T29 l0_1 x4_1).f1) ((rd_T29 l0_1 x4_1).f2)) else (none)) else (none)) else (fairwaylaw17_GroupCommits.j2 kj12 x3_1 x4_1 true t258 t259 3 0 l0_0 l0_1 l0_2 ((rd_T29 l0_1 x4_1).f0) ((rd_T29 l0_1 x4_1).f1) ((rd_T29 l0_1 x4_1).f2))) = some r := H
           have A32 := Aside0.mk A320
           clear A320
           by_cases c33 : t260 ≥ 0
           ·rw [if_pos c33] at H
            have c33b0 : decide (0 ≤ t260) = true := decide_eq_true c33
            clear c33
            (first | rw [c33b0] | (simp only [i64_w, i32_w]; rw [c33b0]) | skip)
            by_cases c34 : 0 ≤ t260
            ·rw [if_pos c34] at H
             have c34b0 : decide (0 ≤ t260) = true := decide_eq_true c34
             clear c34
             by_cases c35 : t260 < (x3_1.length : Int)
             ·rw [if_pos c35] at H
              have c35b0 : decide (t260 < (x3_1.length : Int)) = true := decide_eq_true c35
              clear c35
              have H' := Aside0.mk H
              clear H
              have hnb36 := NB256_249.out
              have hnc36 := NB249_256.out
              have hcz37_0 : w30.cell? ⟨gb256, 0, none⟩ = some (.string ((rd_T29 l0_1 x4_1).f0)) := (blk_cell BK256.out 0).trans rfl
              have hcz37_1 : w30.cell? ⟨gb256, 1, none⟩ = some (.string ((rd_T29 l0_1 x4_1).f1)) := (blk_cell BK256.out 1).trans rfl
              have hcz37_2 : w30.cell? ⟨gb256, 2, none⟩ = some (.int .i64 ((rd_T29 l0_1 x4_1).f2)) := (blk_cell BK256.out 2).trans rfl
              have hfz37_0 := blk_frozen BK256.out 0
              have hfz37_1 := blk_frozen BK256.out 1
              have hfz37_2 := blk_frozen BK256.out 2
              go_wp2_with (first | (go_at_call 10; (with_reducible refine (fairwayref17_Fetch.calls kj12 _ _ x3_1 ((rd_T29 l0_1 x4_1).f0) ((rd_T29 l0_1 x4_1).f1) t260 _ ?side1 ?side2 A32.out).mono ?_); (case side1 => repeat (first | exact (Kd.R_reads' HO_3.out).2.2 | (with_reducible refine Kd.C_alloc ?_ _) | (with_reducible refine Kd.C_drewN ?_ _) | (with_reducible refine Kd.C_drew ?_))); (case side2 => exact (Kd.R_reads' HO_3.out).2.1); rintro e w' ⟨rfl, ⟨nd, rfl⟩⟩; (try first | exact ⟨rfl, _, World.drewN_drewN _ _ _⟩ | exact ⟨rfl, _, Eq.trans (World.drewN_drewN _ _ _) (congrArg (World.drewN _) (Nat.add_assoc _ _ _))⟩); have p261 : 0 ≤ (t260 : Int) := of_decide_eq_true (by first | (with_reducible assumption) | assumption); have q261 : t260 < (x3_1.length : Int) := of_decide_eq_true (by first | (with_reducible assumption) | assumption); obtain ⟨ad261, e261, hx261_0, hx261_1, hx261_2⟩ := at_T29 (Kd.R_reads' HO_3.out).2.2 t260 p261 q261; cases e261; replace p261 := eq_true p261; replace q261 := eq_true q261))
              repeat (go_quiet (first | (go_at_call 10; (with_reducible refine (fairwayref17_Fetch.calls kj12 _ _ x3_1 ((rd_T29 l0_1 x4_1).f0) ((rd_T29 l0_1 x4_1).f1) t260 _ ?side1 ?side2 A32.out).mono ?_); (case side1 => repeat (first | exact (Kd.R_reads' HO_3.out).2.2 | (with_reducible refine Kd.C_alloc ?_ _) | (with_reducible refine Kd.C_drewN ?_ _) | (with_reducible refine Kd.C_drew ?_))); (case side2 => exact (Kd.R_reads' HO_3.out).2.1); rintro e w' ⟨rfl, ⟨nd, rfl⟩⟩; (try first | exact ⟨rfl, _, World.drewN_drewN _ _ _⟩ | exact ⟨rfl, _, Eq.trans (World.drewN_drewN _ _ _) (congrArg (World.drewN _) (Nat.add_assoc _ _ _))⟩); have p261 : 0 ≤ (t260 : Int) := of_decide_eq_true (by first | (with_reducible assumption) | assumption); have q261 : t260 < (x3_1.length : Int) := of_decide_eq_true (by first | (with_reducible assumption) | assumption); obtain ⟨ad261, e261, hx261_0, hx261_1, hx261_2⟩ := at_T29 (Kd.R_reads' HO_3.out).2.2 t260 p261 q261; cases e261; replace p261 := eq_true p261; replace q261 := eq_true q261)); try go_wp2_with (first | (go_at_call 10; (with_reducible refine (fairwayref17_Fetch.calls kj12 _ _ x3_1 ((rd_T29 l0_1 x4_1).f0) ((rd_T29 l0_1 x4_1).f1) t260 _ ?side1 ?side2 A32.out).mono ?_); (case side1 => repeat (first | exact (Kd.R_reads' HO_3.out).2.2 | (with_reducible refine Kd.C_alloc ?_ _) | (with_reducible refine Kd.C_drewN ?_ _) | (with_reducible refine Kd.C_drew ?_))); (case side2 => exact (Kd.R_reads' HO_3.out).2.1); rintro e w' ⟨rfl, ⟨nd, rfl⟩⟩; (try first | exact ⟨rfl, _, World.drewN_drewN _ _ _⟩ | exact ⟨rfl, _, Eq.trans (World.drewN_drewN _ _ _) (congrArg (World.drewN _) (Nat.add_assoc _ _ _))⟩); have p261 : 0 ≤ (t260 : Int) := of_decide_eq_true (by first | (with_reducible assumption) | assumption); have q261 : t260 < (x3_1.length : Int) := of_decide_eq_true (by first | (with_reducible assumption) | assumption); obtain ⟨ad261, e261, hx261_0, hx261_1, hx261_2⟩ := at_T29 (Kd.R_reads' HO_3.out).2.2 t260 p261 q261; cases e261; replace p261 := eq_true p261; replace q261 := eq_true q261)))
              go_meet
              case rel => exact ⟨_, (0), ((rd_T29 x3_1 t260).f2), (by first | rfl | (simp; done) | (simp [*]; done)), (by first | rfl | (simp; done) | (simp [*]; done)), H', ⟨by have := HK1.out; have := HJ12.out; first | omega | exact Nat.le_refl _⟩, ⟨by (with_reducible repeat (first | apply Kd.R_alloc | apply Kd.R_drewN | apply Kd.R_drew)); exact Kd.R_mono HO_3.out (fun _ hk => hk.2)⟩, ⟨by (with_reducible repeat (first | refine blk_drewN ?_ _ | refine blk_drew ?_ | refine blk_alloc ?_ _)); exact BK249.out⟩, ⟨by (with_reducible repeat (first | refine blk_drewN ?_ _ | refine blk_drew ?_ | refine blk_alloc ?_ _)); exact BK256.out⟩, ⟨by repeat (first | (with_reducible first | exact HB.out | apply below_alloc | apply pw_below_drewN | apply below_drew1 | refine below_set ?_ GE249.out | refine below_set ?_ GE256.out) | exact HB.out)⟩⟩
             ·rw [if_neg c35] at H
              exact absurd H (by simp)
            ·rw [if_neg c34] at H
             exact absurd H (by simp)
           ·rw [if_neg c33] at H
            have c33b0 : decide (0 ≤ t260) = false := decide_eq_false c33
            clear c33
            (first | rw [c33b0] | (simp only [i64_w, i32_w]; rw [c33b0]) | skip)
            have H' := Aside0.mk H
            clear H
            have hnb38 := NB256_249.out
            have hnc38 := NB249_256.out
            have hcz39_0 : w30.cell? ⟨gb256, 0, none⟩ = some (.string ((rd_T29 l0_1 x4_1).f0)) := (blk_cell BK256.out 0).trans rfl
            have hcz39_1 : w30.cell? ⟨gb256, 1, none⟩ = some (.string ((rd_T29 l0_1 x4_1).f1)) := (blk_cell BK256.out 1).trans rfl
            have hcz39_2 : w30.cell? ⟨gb256, 2, none⟩ = some (.int .i64 ((rd_T29 l0_1 x4_1).f2)) := (blk_cell BK256.out 2).trans rfl
            have hfz39_0 := blk_frozen BK256.out 0
            have hfz39_1 := blk_frozen BK256.out 1
            have hfz39_2 := blk_frozen BK256.out 2
            go_wp2_with (first | (go_at_call 10; (with_reducible refine (fairwayref17_Fetch.calls kj12 _ _ x3_1 ((rd_T29 l0_1 x4_1).f0) ((rd_T29 l0_1 x4_1).f1) t260 _ ?side1 ?side2 A32.out).mono ?_); (case side1 => repeat (first | exact (Kd.R_reads' HO_3.out).2.2 | (with_reducible refine Kd.C_alloc ?_ _) | (with_reducible refine Kd.C_drewN ?_ _) | (with_reducible refine Kd.C_drew ?_))); (case side2 => exact (Kd.R_reads' HO_3.out).2.1); rintro e w' ⟨rfl, ⟨nd, rfl⟩⟩; (try first | exact ⟨rfl, _, World.drewN_drewN _ _ _⟩ | exact ⟨rfl, _, Eq.trans (World.drewN_drewN _ _ _) (congrArg (World.drewN _) (Nat.add_assoc _ _ _))⟩)))
            repeat (go_quiet (first | (go_at_call 10; (with_reducible refine (fairwayref17_Fetch.calls kj12 _ _ x3_1 ((rd_T29 l0_1 x4_1).f0) ((rd_T29 l0_1 x4_1).f1) t260 _ ?side1 ?side2 A32.out).mono ?_); (case side1 => repeat (first | exact (Kd.R_reads' HO_3.out).2.2 | (with_reducible refine Kd.C_alloc ?_ _) | (with_reducible refine Kd.C_drewN ?_ _) | (with_reducible refine Kd.C_drew ?_))); (case side2 => exact (Kd.R_reads' HO_3.out).2.1); rintro e w' ⟨rfl, ⟨nd, rfl⟩⟩; (try first | exact ⟨rfl, _, World.drewN_drewN _ _ _⟩ | exact ⟨rfl, _, Eq.trans (World.drewN_drewN _ _ _) (congrArg (World.drewN _) (Nat.add_assoc _ _ _))⟩))); try go_wp2_with (first | (go_at_call 10; (with_reducible refine (fairwayref17_Fetch.calls kj12 _ _ x3_1 ((rd_T29 l0_1 x4_1).f0) ((rd_T29 l0_1 x4_1).f1) t260 _ ?side1 ?side2 A32.out).mono ?_); (case side1 => repeat (first | exact (Kd.R_reads' HO_3.out).2.2 | (with_reducible refine Kd.C_alloc ?_ _) | (with_reducible refine Kd.C_drewN ?_ _) | (with_reducible refine Kd.C_drew ?_))); (case side2 => exact (Kd.R_reads' HO_3.out).2.1); rintro e w' ⟨rfl, ⟨nd, rfl⟩⟩; (try first | exact ⟨rfl, _, World.drewN_drewN _ _ _⟩ | exact ⟨rfl, _, Eq.trans (World.drewN_drewN _ _ _) (congrArg (World.drewN _) (Nat.add_assoc _ _ _))⟩))))
            go_meet
            case rel => exact ⟨_, (3), (0), (by first | rfl | (simp; done) | (simp [*]; done)), (by first | rfl | (simp; done) | (simp [*]; done)), H', ⟨by have := HK1.out; have := HJ12.out; first | omega | exact Nat.le_refl _⟩, ⟨by (with_reducible repeat (first | apply Kd.R_alloc | apply Kd.R_drewN | apply Kd.R_drew)); exact Kd.R_mono HO_3.out (fun _ hk => hk.2)⟩, ⟨by (with_reducible repeat (first | refine blk_drewN ?_ _ | refine blk_drew ?_ | refine blk_alloc ?_ _)); exact BK249.out⟩, ⟨by (with_reducible repeat (first | refine blk_drewN ?_ _ | refine blk_drew ?_ | refine blk_alloc ?_ _)); exact BK256.out⟩, ⟨by repeat (first | (with_reducible first | exact HB.out | apply below_alloc | apply pw_below_drewN | apply below_drew1 | refine below_set ?_ GE249.out | refine below_set ?_ GE256.out) | exact HB.out)⟩⟩
          ·replace c31 := Bool.eq_false_iff.mpr c31
           subst c31
           have H1 : (fairwaylaw17_GroupCommits.j2 kj12 x3_1 x4_1 false t258 t259 1 0 l0_0 l0_1 l0_2 ((rd_T29 l0_1 x4_1).f0) ((rd_T29 l0_1 x4_1).f1) ((rd_T29 l0_1 x4_1).f2)) = some r := by rw [if_neg (show ¬ (false = true) by decide)] at H; exact H
           clear H
           have H := H1
           clear H1
           have H' := Aside0.mk H
           clear H
           go_wp2
           repeat (go_quiet (fail); try go_wp2)
           go_meet
           case rel => exact ⟨_, (1), (0), (by first | rfl | (simp; done) | (simp [*]; done)), (by first | rfl | (simp; done) | (simp [*]; done)), H', ⟨by have := HK1.out; have := HJ12.out; first | omega | exact Nat.le_refl _⟩, ⟨by (with_reducible repeat (first | apply Kd.R_alloc | apply Kd.R_drewN | apply Kd.R_drew)); exact Kd.R_mono HO_3.out (fun _ hk => hk.2)⟩, ⟨by (with_reducible repeat (first | refine blk_drewN ?_ _ | refine blk_drew ?_ | refine blk_alloc ?_ _)); exact BK249.out⟩, ⟨by (with_reducible repeat (first | refine blk_drewN ?_ _ | refine blk_drew ?_ | refine blk_alloc ?_ _)); exact BK256.out⟩, ⟨by repeat (first | (with_reducible first | exact HB.out | apply below_alloc | apply pw_below_drewN | apply below_drew1 | refine below_set ?_ GE249.out | refine below_set ?_ GE256.out) | exact HB.out)⟩⟩
         case rest =>
          clear HC22
          try clear c1
          try clear c2
          try clear p2
          try clear q2
          try clear hx2
          try clear c3
          try clear c14
          try clear c14b0
          try clear c17
          try clear c18
          try clear c18b0
          try clear c19
          try clear c19b0
          try clear c25
          try clear p25
          try clear q25
          try clear hx25
          try clear p26
          try clear q26
          try clear hx26
          try clear c31
          try clear c33
          try clear c33b0
          try clear c34
          try clear c34b0
          try clear c35
          try clear c35b0
          try clear c36
          try clear c38
          try clear hcz11_0
          try clear hcz11_1
          try clear hcz11_2
          try clear hcz15_0
          try clear hcz15_1
          try clear hcz15_2
          try clear hcz16_0
          try clear hcz16_1
          try clear hcz16_2
          try clear hcz23_0
          try clear hcz23_1
          try clear hcz23_2
          try clear hcz26_0
          try clear hcz26_1
          try clear hcz26_2
          try clear hcz29_0
          try clear hcz29_1
          try clear hcz29_2
          try clear hcz37_0
          try clear hcz37_1
          try clear hcz37_2
          try clear hcz39_0
          try clear hcz39_1
          try clear hcz39_2
          try clear hcz5_0
          try clear hcz5_1
          try clear hcz5_2
          try clear hcz9_0
          try clear hcz9_1
          try clear hcz9_2
          try clear hfz11_0
          try clear hfz11_1
          try clear hfz11_2
          try clear hfz15_0
          try clear hfz15_1
          try clear hfz15_2
          try clear hfz16_0
          try clear hfz16_1
          try clear hfz16_2
          try clear hfz23_0
          try clear hfz23_1
          try clear hfz23_2
          try clear hfz26_0
          try clear hfz26_1
          try clear hfz26_2
          try clear hfz29_0
          try clear hfz29_1
          try clear hfz29_2
          try clear hfz37_0
          try clear hfz37_1
          try clear hfz37_2
          try clear hfz39_0
          try clear hfz39_1
          try clear hfz39_2
          try clear hfz5_0
          try clear hfz5_1
          try clear hfz5_2
          try clear hfz9_0
          try clear hfz9_1
          try clear hfz9_2
          try clear hx255_0
          try clear hx255_1
          try clear hx255_2
          try clear hx261_0
          try clear hx261_1
          try clear hx261_2
          try clear p2
          try clear p255
          try clear p261
          try clear q255
          try clear q261
          obtain ⟨kq, x9_21, x10_21, rfl, rfl, HA, HJ21, HO_3, BK249, BK256, HB⟩ := hcut
          cases kq with
          | zero => exact absurd HA.out (by simp [fairwaylaw17_GroupCommits.j2])
          | succ kj21 =>
           have H := HA.out
           clear HA
           simp only [fairwaylaw17_GroupCommits.j2] at H
           have HC40 := Aside0.mk H
           clear H
           go_upto_region 16 with (fail)
           repeat (go_quiet (fail); go_upto_region 16 with (fail))
           go_cut [81] (fun v81 wc => ∃ (kq : Nat) (x81_39 : Bool), v81 = .bool x81_39 ∧ Aside0 (fairwaylaw17_GroupCommits.j3 kq x3_1 x4_1 t257 x81_39 l0_0 l0_1 l0_2 ((rd_T29 l0_1 x4_1).f0) ((rd_T29 l0_1 x4_1).f1) ((rd_T29 l0_1 x4_1).f2) = some r) ∧ Aside0 (kq ≤ kj21) ∧ Aside0 (Kd.R k29 29 wc w.heap.size (fun k_ => k_ ≠ gb256) (.slice Ao27 x3_1.length co27) x3_1) ∧ Aside0 (wc.heap[gb249]? = some (.cells #[(.slice A0_0 l0_0.length c0_0), (.slice (some ad255) l0_1.length c0_1), (.slice A0_2 l0_2.length c0_2)] 25 (0, 0))) ∧ Aside0 (wc.heap[gb256]? = some (.cells #[.string ((rd_T29 l0_1 x4_1).f0), .string ((rd_T29 l0_1 x4_1).f1), .int .i64 ((rd_T29 l0_1 x4_1).f2)] 29 (0, 0))) ∧ Aside0 (Below w.heap.size w wc))
           case first =>
            have H := HC40.out
            clear HC40
            replace H := Option.bind_eq_some_iff.mp H
            obtain ⟨t262, A410, H⟩ := H
            replace H : ((fairwaylaw17_num.f t262).bind fun t263 => (if ((t263 == 0) != t257) = true then (fairwaylaw17_GroupCommits.j3 kj21 x3_1 x4_1 t257 true l0_0 l0_1 l0_2 ((rd_T29 l0_1 x4_1).f0) ((rd_T29 l0_1 x4_1).f1) ((rd_T29 l0_1 x4_1).f2)) else ((fairwaylaw17_num.f t259).bind fun t264 => (if t264 = x9_21 then (fairwaylaw17_GroupCommits.j3 kj21 x3_1 x4_1 t257 (t258 != x10_21) l0_0 l0_1 l0_2 ((rd_T29 l0_1 x4_1).f0) ((rd_T29 l0_1 x4_1).f1) ((rd_T29 l0_1 x4_1).f2)) else (fairwaylaw17_GroupCommits.j3 kj21 x3_1 x4_1 t257 true l0_0 l0_1 l0_2 ((rd_T29 l0_1 x4_1).f0) ((rd_T29 l0_1 x4_1).f1) ((rd_T29 l0_1 x4_1).f2)))))) = some r := H
            have A41 := Aside0.mk A410
            clear A410
            replace H := Option.bind_eq_some_iff.mp H
            obtain ⟨t263, A420, H⟩ := H
            replace H : (if ((t263 == 0) != t257) = true then (fairwaylaw17_GroupCommits.j3 kj21 x3_1 x4_1 t257 true l0_0 l0_1 l0_2 ((rd_T29 l0_1 x4_1).f0) ((rd_T29 l0_1 x4_1).f1) ((rd_T29 l0_1 x4_1).f2)) else ((fairwaylaw17_num.f t259).bind fun t264 => (if t264 = x9_21 then (fairwaylaw17_GroupCommits.j3 kj21 x3_1 x4_1 t257 (t258 != x10_21) l0_0 l0_1 l0_2 ((rd_T29 l0_1 x4_1).f0) ((rd_T29 l0_1 x4_1).f1) ((rd_T29 l0_1 x4_1).f2)) else (fairwaylaw17_GroupCommits.j3 kj21 x3_1 x4_1 t257 true l0_0 l0_1 l0_2 ((rd_T29 l0_1 x4_1).f0) ((rd_T29 l0_1 x4_1).f1) ((rd_T29 l0_1 x4_1).f2))))) = some r := H
            have A42 := Aside0.mk A420
            clear A420
            by_cases c43 : ((t263 == 0) != t257) = true
            ·rw [if_pos c43] at H
             have c43b0 : ((t263 == 0) != t257) = true := c43
             (try (have c43b1 : decide ((t263 == 0) = t257) = false := by simpa using c43))
             (try (have c43b2 : ((t263 == 0) == t257) = false := by simpa using c43))
             (try (have c43b3 : ¬ ((t263 == 0) = t257) := by simpa using c43))
             clear c43
             (first | rw [c43b0] | (simp only [i64_w, i32_w]; rw [c43b0]) | skip)
             have H' := Aside0.mk H
             clear H
             go_wp2_with (first | (go_at_call 12; (with_reducible refine (group_Check.calls kj21 _ _ x3_1 t262 _ ?side1 ?side2 A41.out ?side3).mono ?_); (case side1 => repeat (first | exact (Kd.R_reads' HO_3.out).2.2 | (with_reducible refine Kd.C_alloc ?_ _) | (with_reducible refine Kd.C_drewN ?_ _) | (with_reducible refine Kd.C_drew ?_))); (case side2 => exact (Kd.R_reads' HO_3.out).2.1); (case side3 => exact Tabs_below HT.out (by repeat (first | (with_reducible first | exact HB.out | apply below_alloc | apply pw_below_drewN | apply below_drew1 | refine below_set ?_ GE249.out | refine below_set ?_ GE256.out) | exact HB.out))); rintro e w44 ⟨rfl, hb⟩; have n0_ := Aside0.mk (Kd.R_below (by (with_reducible repeat (first | apply Kd.R_alloc | apply Kd.R_drewN | apply Kd.R_drew)); exact HO_3.out) hb); have n1_ := Aside0.mk (blk_below (g := gb249) (o := .cells #[.slice A0_0 l0_0.length c0_0, .slice (some ad255) l0_1.length c0_1, .slice A0_2 l0_2.length c0_2] 25 (0, 0)) (by (with_reducible repeat (first | refine blk_drewN ?_ _ | refine blk_drew ?_ | refine blk_alloc ?_ _)); exact BK249.out) hb); have n2_ := Aside0.mk (blk_below (g := gb256) (o := .cells #[.string ((rd_T29 l0_1 x4_1).f0), .string ((rd_T29 l0_1 x4_1).f1), .int .i64 ((rd_T29 l0_1 x4_1).f2)] 29 (0, 0)) (by (with_reducible repeat (first | refine blk_drewN ?_ _ | refine blk_drew ?_ | refine blk_alloc ?_ _)); exact BK256.out) hb); have n3_ := Aside0.mk (below_step (by repeat (first | (with_reducible first | exact HB.out | apply below_alloc | apply pw_below_drewN | apply below_drew1 | refine below_set ?_ GE249.out | refine below_set ?_ GE256.out) | exact HB.out)) hb); clear HO_3; clear BK249; clear BK256; clear HB; have HO_3 := n0_; have BK249 := n1_; have BK256 := n2_; have HB := n3_; clear n0_ n1_ n2_ n3_; (try clear hb); (try clear hb2); (try clear hk); (try clear hi)) | (go_at_call 11; (with_reducible refine (fairwaylaw17_num.calls t262 t263 _ A42.out).mono ?_); rintro e w' ⟨rfl, ⟨nd, rfl⟩⟩; (try first | exact ⟨rfl, _, World.drewN_drewN _ _ _⟩ | exact ⟨rfl, _, Eq.trans (World.drewN_drewN _ _ _) (congrArg (World.drewN _) (Nat.add_assoc _ _ _))⟩)))
             repeat (go_quiet (first | (go_at_call 12; (with_reducible refine (group_Check.calls kj21 _ _ x3_1 t262 _ ?side1 ?side2 A41.out ?side3).mono ?_); (case side1 => repeat (first | exact (Kd.R_reads' HO_3.out).2.2 | (with_reducible refine Kd.C_alloc ?_ _) | (with_reducible refine Kd.C_drewN ?_ _) | (with_reducible refine Kd.C_drew ?_))); (case side2 => exact (Kd.R_reads' HO_3.out).2.1); (case side3 => exact Tabs_below HT.out (by repeat (first | (with_reducible first | exact HB.out | apply below_alloc | apply pw_below_drewN | apply below_drew1 | refine below_set ?_ GE249.out | refine below_set ?_ GE256.out) | exact HB.out))); rintro e w44 ⟨rfl, hb⟩; have n0_ := Aside0.mk (Kd.R_below (by (with_reducible repeat (first | apply Kd.R_alloc | apply Kd.R_drewN | apply Kd.R_drew)); exact HO_3.out) hb); have n1_ := Aside0.mk (blk_below (g := gb249) (o := .cells #[.slice A0_0 l0_0.length c0_0, .slice (some ad255) l0_1.length c0_1, .slice A0_2 l0_2.length c0_2] 25 (0, 0)) (by (with_reducible repeat (first | refine blk_drewN ?_ _ | refine blk_drew ?_ | refine blk_alloc ?_ _)); exact BK249.out) hb); have n2_ := Aside0.mk (blk_below (g := gb256) (o := .cells #[.string ((rd_T29 l0_1 x4_1).f0), .string ((rd_T29 l0_1 x4_1).f1), .int .i64 ((rd_T29 l0_1 x4_1).f2)] 29 (0, 0)) (by (with_reducible repeat (first | refine blk_drewN ?_ _ | refine blk_drew ?_ | refine blk_alloc ?_ _)); exact BK256.out) hb); have n3_ := Aside0.mk (below_step (by repeat (first | (with_reducible first | exact HB.out | apply below_alloc | apply pw_below_drewN | apply below_drew1 | refine below_set ?_ GE249.out | refine below_set ?_ GE256.out) | exact HB.out)) hb); clear HO_3; clear BK249; clear BK256; clear HB; have HO_3 := n0_; have BK249 := n1_; have BK256 := n2_; have HB := n3_; clear n0_ n1_ n2_ n3_; (try clear hb); (try clear hb2); (try clear hk); (try clear hi)) | (go_at_call 11; (with_reducible refine (fairwaylaw17_num.calls t262 t263 _ A42.out).mono ?_); rintro e w' ⟨rfl, ⟨nd, rfl⟩⟩; (try first | exact ⟨rfl, _, World.drewN_drewN _ _ _⟩ | exact ⟨rfl, _, Eq.trans (World.drewN_drewN _ _ _) (congrArg (World.drewN _) (Nat.add_assoc _ _ _))⟩))); try go_wp2_with (first | (go_at_call 12; (with_reducible refine (group_Check.calls kj21 _ _ x3_1 t262 _ ?side1 ?side2 A41.out ?side3).mono ?_); (case side1 => repeat (first | exact (Kd.R_reads' HO_3.out).2.2 | (with_reducible refine Kd.C_alloc ?_ _) | (with_reducible refine Kd.C_drewN ?_ _) | (with_reducible refine Kd.C_drew ?_))); (case side2 => exact (Kd.R_reads' HO_3.out).2.1); (case side3 => exact Tabs_below HT.out (by repeat (first | (with_reducible first | exact HB.out | apply below_alloc | apply pw_below_drewN | apply below_drew1 | refine below_set ?_ GE249.out | refine below_set ?_ GE256.out) | exact HB.out))); rintro e w44 ⟨rfl, hb⟩; have n0_ := Aside0.mk (Kd.R_below (by (with_reducible repeat (first | apply Kd.R_alloc | apply Kd.R_drewN | apply Kd.R_drew)); exact HO_3.out) hb); have n1_ := Aside0.mk (blk_below (g := gb249) (o := .cells #[.slice A0_0 l0_0.length c0_0, .slice (some ad255) l0_1.length c0_1, .slice A0_2 l0_2.length c0_2] 25 (0, 0)) (by (with_reducible repeat (first | refine blk_drewN ?_ _ | refine blk_drew ?_ | refine blk_alloc ?_ _)); exact BK249.out) hb); have n2_ := Aside0.mk (blk_below (g := gb256) (o := .cells #[.string ((rd_T29 l0_1 x4_1).f0), .string ((rd_T29 l0_1 x4_1).f1), .int .i64 ((rd_T29 l0_1 x4_1).f2)] 29 (0, 0)) (by (with_reducible repeat (first | refine blk_drewN ?_ _ | refine blk_drew ?_ | refine blk_alloc ?_ _)); exact BK256.out) hb); have n3_ := Aside0.mk (below_step (by repeat (first | (with_reducible first | exact HB.out | apply below_alloc | apply pw_below_drewN | apply below_drew1 | refine below_set ?_ GE249.out | refine below_set ?_ GE256.out) | exact HB.out)) hb); clear HO_3; clear BK249; clear BK256; clear HB; have HO_3 := n0_; have BK249 := n1_; have BK256 := n2_; have HB := n3_; clear n0_ n1_ n2_ n3_; (try clear hb); (try clear hb2); (try clear hk); (try clear hi)) | (go_at_call 11; (with_reducible refine (fairwaylaw17_num.calls t262 t263 _ A42.out).mono ?_); rintro e w' ⟨rfl, ⟨nd, rfl⟩⟩; (try first | exact ⟨rfl, _, World.drewN_drewN _ _ _⟩ | exact ⟨rfl, _, Eq.trans (World.drewN_drewN _ _ _) (congrArg (World.drewN _) (Nat.add_assoc _ _ _))⟩))))
             go_meet
             case rel => exact ⟨_, (true), (by first | rfl | (simp; done) | (simp [*]; done)), H', ⟨by have := HK1.out; have := HJ12.out; have := HJ21.out; first | omega | exact Nat.le_refl _⟩, ⟨by (with_reducible repeat (first | apply Kd.R_alloc | apply Kd.R_drewN | apply Kd.R_drew)); exact HO_3.out⟩, ⟨by (with_reducible repeat (first | refine blk_drewN ?_ _ | refine blk_drew ?_ | refine blk_alloc ?_ _)); exact BK249.out⟩, ⟨by (with_reducible repeat (first | refine blk_drewN ?_ _ | refine blk_drew ?_ | refine blk_alloc ?_ _)); exact BK256.out⟩, ⟨by repeat (first | (with_reducible first | exact HB.out | apply below_alloc | apply pw_below_drewN | apply below_drew1 | refine below_set ?_ GE249.out | refine below_set ?_ GE256.out) | exact HB.out)⟩⟩
            ·rw [if_neg c43] at H
             have c43b0 : ((t263 == 0) != t257) = false := by simpa using c43
             (try (have c43b1 : decide ((t263 == 0) = t257) = true := by simpa using c43))
             (try (have c43b2 : ((t263 == 0) == t257) = true := by simpa using c43))
             clear c43
             (first | rw [c43b0] | (simp only [i64_w, i32_w]; rw [c43b0]) | skip)
             replace H := Option.bind_eq_some_iff.mp H
             obtain ⟨t264, A450, H⟩ := H
             replace H : (if t264 = x9_21 then (fairwaylaw17_GroupCommits.j3 kj21 x3_1 x4_1 t257 (t258 != x10_21) l0_0 l0_1 l0_2 ((rd_T29 l0_1 x4_1).f0) ((rd_T29 l0_1 x4_1).f1) ((rd_T29 l0_1 x4_1).f2)) else (fairwaylaw17_GroupCommits.j3 kj21 x3_1 x4_1 t257 true l0_0 l0_1 l0_2 ((rd_T29 l0_1 x4_1).f0) ((rd_T29 l0_1 x4_1).f1) ((rd_T29 l0_1 x4_1).f2))) = some r := H
             have A45 := Aside0.mk A450
             clear A450
             by_cases c46 : t264 = x9_21
             ·rw [if_pos c46] at H
              have c46b0 : (t264 == x9_21) = true := beq_iff_eq.mpr c46
              have c46b1 : (t264 != x9_21) = false := bne_eq_false_iff_eq.mpr c46
              clear c46
              have H' := Aside0.mk H
              clear H
              go_wp2_with (first | (go_at_call 12; (with_reducible refine (group_Check.calls kj21 _ _ x3_1 t262 _ ?side1 ?side2 A41.out ?side3).mono ?_); (case side1 => repeat (first | exact (Kd.R_reads' HO_3.out).2.2 | (with_reducible refine Kd.C_alloc ?_ _) | (with_reducible refine Kd.C_drewN ?_ _) | (with_reducible refine Kd.C_drew ?_))); (case side2 => exact (Kd.R_reads' HO_3.out).2.1); (case side3 => exact Tabs_below HT.out (by repeat (first | (with_reducible first | exact HB.out | apply below_alloc | apply pw_below_drewN | apply below_drew1 | refine below_set ?_ GE249.out | refine below_set ?_ GE256.out) | exact HB.out))); rintro e w47 ⟨rfl, hb⟩; have n0_ := Aside0.mk (Kd.R_below (by (with_reducible repeat (first | apply Kd.R_alloc | apply Kd.R_drewN | apply Kd.R_drew)); exact HO_3.out) hb); have n1_ := Aside0.mk (blk_below (g := gb249) (o := .cells #[.slice A0_0 l0_0.length c0_0, .slice (some ad255) l0_1.length c0_1, .slice A0_2 l0_2.length c0_2] 25 (0, 0)) (by (with_reducible repeat (first | refine blk_drewN ?_ _ | refine blk_drew ?_ | refine blk_alloc ?_ _)); exact BK249.out) hb); have n2_ := Aside0.mk (blk_below (g := gb256) (o := .cells #[.string ((rd_T29 l0_1 x4_1).f0), .string ((rd_T29 l0_1 x4_1).f1), .int .i64 ((rd_T29 l0_1 x4_1).f2)] 29 (0, 0)) (by (with_reducible repeat (first | refine blk_drewN ?_ _ | refine blk_drew ?_ | refine blk_alloc ?_ _)); exact BK256.out) hb); have n3_ := Aside0.mk (below_step (by repeat (first | (with_reducible first | exact HB.out | apply below_alloc | apply pw_below_drewN | apply below_drew1 | refine below_set ?_ GE249.out | refine below_set ?_ GE256.out) | exact HB.out)) hb); clear HO_3; clear BK249; clear BK256; clear HB; have HO_3 := n0_; have BK249 := n1_; have BK256 := n2_; have HB := n3_; clear n0_ n1_ n2_ n3_; (try clear hb); (try clear hb2); (try clear hk); (try clear hi)) | (go_at_call 11; (with_reducible refine (fairwaylaw17_num.calls t262 t263 _ A42.out).mono ?_); rintro e w' ⟨rfl, ⟨nd, rfl⟩⟩; (try first | exact ⟨rfl, _, World.drewN_drewN _ _ _⟩ | exact ⟨rfl, _, Eq.trans (World.drewN_drewN _ _ _) (congrArg (World.drewN _) (Nat.add_assoc _ _ _))⟩)) | (go_at_call 11; (with_reducible refine (fairwaylaw17_num.calls t259 t264 _ A45.out).mono ?_); rintro e w' ⟨rfl, ⟨nd, rfl⟩⟩; (try first | exact ⟨rfl, _, World.drewN_drewN _ _ _⟩ | exact ⟨rfl, _, Eq.trans (World.drewN_drewN _ _ _) (congrArg (World.drewN _) (Nat.add_assoc _ _ _))⟩)))
              repeat (go_quiet (first | (go_at_call 12; (with_reducible refine (group_Check.calls kj21 _ _ x3_1 t262 _ ?side1 ?side2 A41.out ?side3).mono ?_); (case side1 => repeat (first | exact (Kd.R_reads' HO_3.out).2.2 | (with_reducible refine Kd.C_alloc ?_ _) | (with_reducible refine Kd.C_drewN ?_ _) | (with_reducible refine Kd.C_drew ?_))); (case side2 => exact (Kd.R_reads' HO_3.out).2.1); (case side3 => exact Tabs_below HT.out (by repeat (first | (with_reducible first | exact HB.out | apply below_alloc | apply pw_below_drewN | apply below_drew1 | refine below_set ?_ GE249.out | refine below_set ?_ GE256.out) | exact HB.out))); rintro e w47 ⟨rfl, hb⟩; have n0_ := Aside0.mk (Kd.R_below (by (with_reducible repeat (first | apply Kd.R_alloc | apply Kd.R_drewN | apply Kd.R_drew)); exact HO_3.out) hb); have n1_ := Aside0.mk (blk_below (g := gb249) (o := .cells #[.slice A0_0 l0_0.length c0_0, .slice (some ad255) l0_1.length c0_1, .slice A0_2 l0_2.length c0_2] 25 (0, 0)) (by (with_reducible repeat (first | refine blk_drewN ?_ _ | refine blk_drew ?_ | refine blk_alloc ?_ _)); exact BK249.out) hb); have n2_ := Aside0.mk (blk_below (g := gb256) (o := .cells #[.string ((rd_T29 l0_1 x4_1).f0), .string ((rd_T29 l0_1 x4_1).f1), .int .i64 ((rd_T29 l0_1 x4_1).f2)] 29 (0, 0)) (by (with_reducible repeat (first | refine blk_drewN ?_ _ | refine blk_drew ?_ | refine blk_alloc ?_ _)); exact BK256.out) hb); have n3_ := Aside0.mk (below_step (by repeat (first | (with_reducible first | exact HB.out | apply below_alloc | apply pw_below_drewN | apply below_drew1 | refine below_set ?_ GE249.out | refine below_set ?_ GE256.out) | exact HB.out)) hb); clear HO_3; clear BK249; clear BK256; clear HB; have HO_3 := n0_; have BK249 := n1_; have BK256 := n2_; have HB := n3_; clear n0_ n1_ n2_ n3_; (try clear hb); (try clear hb2); (try clear hk); (try clear hi)) | (go_at_call 11; (with_reducible refine (fairwaylaw17_num.calls t262 t263 _ A42.out).mono ?_); rintro e w' ⟨rfl, ⟨nd, rfl⟩⟩; (try first | exact ⟨rfl, _, World.drewN_drewN _ _ _⟩ | exact ⟨rfl, _, Eq.trans (World.drewN_drewN _ _ _) (congrArg (World.drewN _) (Nat.add_assoc _ _ _))⟩)) | (go_at_call 11; (with_reducible refine (fairwaylaw17_num.calls t259 t264 _ A45.out).mono ?_); rintro e w' ⟨rfl, ⟨nd, rfl⟩⟩; (try first | exact ⟨rfl, _, World.drewN_drewN _ _ _⟩ | exact ⟨rfl, _, Eq.trans (World.drewN_drewN _ _ _) (congrArg (World.drewN _) (Nat.add_assoc _ _ _))⟩))); try go_wp2_with (first | (go_at_call 12; (with_reducible refine (group_Check.calls kj21 _ _ x3_1 t262 _ ?side1 ?side2 A41.out ?side3).mono ?_); (case side1 => repeat (first | exact (Kd.R_reads' HO_3.out).2.2 | (with_reducible refine Kd.C_alloc ?_ _) | (with_reducible refine Kd.C_drewN ?_ _) | (with_reducible refine Kd.C_drew ?_))); (case side2 => exact (Kd.R_reads' HO_3.out).2.1); (case side3 => exact Tabs_below HT.out (by repeat (first | (with_reducible first | exact HB.out | apply below_alloc | apply pw_below_drewN | apply below_drew1 | refine below_set ?_ GE249.out | refine below_set ?_ GE256.out) | exact HB.out))); rintro e w47 ⟨rfl, hb⟩; have n0_ := Aside0.mk (Kd.R_below (by (with_reducible repeat (first | apply Kd.R_alloc | apply Kd.R_drewN | apply Kd.R_drew)); exact HO_3.out) hb); have n1_ := Aside0.mk (blk_below (g := gb249) (o := .cells #[.slice A0_0 l0_0.length c0_0, .slice (some ad255) l0_1.length c0_1, .slice A0_2 l0_2.length c0_2] 25 (0, 0)) (by (with_reducible repeat (first | refine blk_drewN ?_ _ | refine blk_drew ?_ | refine blk_alloc ?_ _)); exact BK249.out) hb); have n2_ := Aside0.mk (blk_below (g := gb256) (o := .cells #[.string ((rd_T29 l0_1 x4_1).f0), .string ((rd_T29 l0_1 x4_1).f1), .int .i64 ((rd_T29 l0_1 x4_1).f2)] 29 (0, 0)) (by (with_reducible repeat (first | refine blk_drewN ?_ _ | refine blk_drew ?_ | refine blk_alloc ?_ _)); exact BK256.out) hb); have n3_ := Aside0.mk (below_step (by repeat (first | (with_reducible first | exact HB.out | apply below_alloc | apply pw_below_drewN | apply below_drew1 | refine below_set ?_ GE249.out | refine below_set ?_ GE256.out) | exact HB.out)) hb); clear HO_3; clear BK249; clear BK256; clear HB; have HO_3 := n0_; have BK249 := n1_; have BK256 := n2_; have HB := n3_; clear n0_ n1_ n2_ n3_; (try clear hb); (try clear hb2); (try clear hk); (try clear hi)) | (go_at_call 11; (with_reducible refine (fairwaylaw17_num.calls t262 t263 _ A42.out).mono ?_); rintro e w' ⟨rfl, ⟨nd, rfl⟩⟩; (try first | exact ⟨rfl, _, World.drewN_drewN _ _ _⟩ | exact ⟨rfl, _, Eq.trans (World.drewN_drewN _ _ _) (congrArg (World.drewN _) (Nat.add_assoc _ _ _))⟩)) | (go_at_call 11; (with_reducible refine (fairwaylaw17_num.calls t259 t264 _ A45.out).mono ?_); rintro e w' ⟨rfl, ⟨nd, rfl⟩⟩; (try first | exact ⟨rfl, _, World.drewN_drewN _ _ _⟩ | exact ⟨rfl, _, Eq.trans (World.drewN_drewN _ _ _) (congrArg (World.drewN _) (Nat.add_assoc _ _ _))⟩))))
              go_meet
              case rel => exact ⟨_, ((t258 != x10_21)), (by first | rfl | (simp; done) | (simp [*]; done)), H', ⟨by have := HK1.out; have := HJ12.out; have := HJ21.out; first | omega | exact Nat.le_refl _⟩, ⟨by (with_reducible repeat (first | apply Kd.R_alloc | apply Kd.R_drewN | apply Kd.R_drew)); exact HO_3.out⟩, ⟨by (with_reducible repeat (first | refine blk_drewN ?_ _ | refine blk_drew ?_ | refine blk_alloc ?_ _)); exact BK249.out⟩, ⟨by (with_reducible repeat (first | refine blk_drewN ?_ _ | refine blk_drew ?_ | refine blk_alloc ?_ _)); exact BK256.out⟩, ⟨by repeat (first | (with_reducible first | exact HB.out | apply below_alloc | apply pw_below_drewN | apply below_drew1 | refine below_set ?_ GE249.out | refine below_set ?_ GE256.out) | exact HB.out)⟩⟩
             ·rw [if_neg c46] at H
              have c46b0 : (t264 == x9_21) = false := beq_eq_false_iff_ne.mpr c46
              have c46b1 : (t264 != x9_21) = true := bne_iff_ne.mpr c46
              have H' := Aside0.mk H
              clear H
              go_wp2_with (first | (go_at_call 12; (with_reducible refine (group_Check.calls kj21 _ _ x3_1 t262 _ ?side1 ?side2 A41.out ?side3).mono ?_); (case side1 => repeat (first | exact (Kd.R_reads' HO_3.out).2.2 | (with_reducible refine Kd.C_alloc ?_ _) | (with_reducible refine Kd.C_drewN ?_ _) | (with_reducible refine Kd.C_drew ?_))); (case side2 => exact (Kd.R_reads' HO_3.out).2.1); (case side3 => exact Tabs_below HT.out (by repeat (first | (with_reducible first | exact HB.out | apply below_alloc | apply pw_below_drewN | apply below_drew1 | refine below_set ?_ GE249.out | refine below_set ?_ GE256.out) | exact HB.out))); rintro e w48 ⟨rfl, hb⟩; have n0_ := Aside0.mk (Kd.R_below (by (with_reducible repeat (first | apply Kd.R_alloc | apply Kd.R_drewN | apply Kd.R_drew)); exact HO_3.out) hb); have n1_ := Aside0.mk (blk_below (g := gb249) (o := .cells #[.slice A0_0 l0_0.length c0_0, .slice (some ad255) l0_1.length c0_1, .slice A0_2 l0_2.length c0_2] 25 (0, 0)) (by (with_reducible repeat (first | refine blk_drewN ?_ _ | refine blk_drew ?_ | refine blk_alloc ?_ _)); exact BK249.out) hb); have n2_ := Aside0.mk (blk_below (g := gb256) (o := .cells #[.string ((rd_T29 l0_1 x4_1).f0), .string ((rd_T29 l0_1 x4_1).f1), .int .i64 ((rd_T29 l0_1 x4_1).f2)] 29 (0, 0)) (by (with_reducible repeat (first | refine blk_drewN ?_ _ | refine blk_drew ?_ | refine blk_alloc ?_ _)); exact BK256.out) hb); have n3_ := Aside0.mk (below_step (by repeat (first | (with_reducible first | exact HB.out | apply below_alloc | apply pw_below_drewN | apply below_drew1 | refine below_set ?_ GE249.out | refine below_set ?_ GE256.out) | exact HB.out)) hb); clear HO_3; clear BK249; clear BK256; clear HB; have HO_3 := n0_; have BK249 := n1_; have BK256 := n2_; have HB := n3_; clear n0_ n1_ n2_ n3_; (try clear hb); (try clear hb2); (try clear hk); (try clear hi)) | (go_at_call 11; (with_reducible refine (fairwaylaw17_num.calls t262 t263 _ A42.out).mono ?_); rintro e w' ⟨rfl, ⟨nd, rfl⟩⟩; (try first | exact ⟨rfl, _, World.drewN_drewN _ _ _⟩ | exact ⟨rfl, _, Eq.trans (World.drewN_drewN _ _ _) (congrArg (World.drewN _) (Nat.add_assoc _ _ _))⟩)) | (go_at_call 11; (with_reducible refine (fairwaylaw17_num.calls t259 t264 _ A45.out).mono ?_); rintro e w' ⟨rfl, ⟨nd, rfl⟩⟩; (try first | exact ⟨rfl, _, World.drewN_drewN _ _ _⟩ | exact ⟨rfl, _, Eq.trans (World.drewN_drewN _ _ _) (congrArg (World.drewN _) (Nat.add_assoc _ _ _))⟩)))
              repeat (go_quiet (first | (go_at_call 12; (with_reducible refine (group_Check.calls kj21 _ _ x3_1 t262 _ ?side1 ?side2 A41.out ?side3).mono ?_); (case side1 => repeat (first | exact (Kd.R_reads' HO_3.out).2.2 | (with_reducible refine Kd.C_alloc ?_ _) | (with_reducible refine Kd.C_drewN ?_ _) | (with_reducible refine Kd.C_drew ?_))); (case side2 => exact (Kd.R_reads' HO_3.out).2.1); (case side3 => exact Tabs_below HT.out (by repeat (first | (with_reducible first | exact HB.out | apply below_alloc | apply pw_below_drewN | apply below_drew1 | refine below_set ?_ GE249.out | refine below_set ?_ GE256.out) | exact HB.out))); rintro e w48 ⟨rfl, hb⟩; have n0_ := Aside0.mk (Kd.R_below (by (with_reducible repeat (first | apply Kd.R_alloc | apply Kd.R_drewN | apply Kd.R_drew)); exact HO_3.out) hb); have n1_ := Aside0.mk (blk_below (g := gb249) (o := .cells #[.slice A0_0 l0_0.length c0_0, .slice (some ad255) l0_1.length c0_1, .slice A0_2 l0_2.length c0_2] 25 (0, 0)) (by (with_reducible repeat (first | refine blk_drewN ?_ _ | refine blk_drew ?_ | refine blk_alloc ?_ _)); exact BK249.out) hb); have n2_ := Aside0.mk (blk_below (g := gb256) (o := .cells #[.string ((rd_T29 l0_1 x4_1).f0), .string ((rd_T29 l0_1 x4_1).f1), .int .i64 ((rd_T29 l0_1 x4_1).f2)] 29 (0, 0)) (by (with_reducible repeat (first | refine blk_drewN ?_ _ | refine blk_drew ?_ | refine blk_alloc ?_ _)); exact BK256.out) hb); have n3_ := Aside0.mk (below_step (by repeat (first | (with_reducible first | exact HB.out | apply below_alloc | apply pw_below_drewN | apply below_drew1 | refine below_set ?_ GE249.out | refine below_set ?_ GE256.out) | exact HB.out)) hb); clear HO_3; clear BK249; clear BK256; clear HB; have HO_3 := n0_; have BK249 := n1_; have BK256 := n2_; have HB := n3_; clear n0_ n1_ n2_ n3_; (try clear hb); (try clear hb2); (try clear hk); (try clear hi)) | (go_at_call 11; (with_reducible refine (fairwaylaw17_num.calls t262 t263 _ A42.out).mono ?_); rintro e w' ⟨rfl, ⟨nd, rfl⟩⟩; (try first | exact ⟨rfl, _, World.drewN_drewN _ _ _⟩ | exact ⟨rfl, _, Eq.trans (World.drewN_drewN _ _ _) (congrArg (World.drewN _) (Nat.add_assoc _ _ _))⟩)) | (go_at_call 11; (with_reducible refine (fairwaylaw17_num.calls t259 t264 _ A45.out).mono ?_); rintro e w' ⟨rfl, ⟨nd, rfl⟩⟩; (try first | exact ⟨rfl, _, World.drewN_drewN _ _ _⟩ | exact ⟨rfl, _, Eq.trans (World.drewN_drewN _ _ _) (congrArg (World.drewN _) (Nat.add_assoc _ _ _))⟩))); try go_wp2_with (first | (go_at_call 12; (with_reducible refine (group_Check.calls kj21 _ _ x3_1 t262 _ ?side1 ?side2 A41.out ?side3).mono ?_); (case side1 => repeat (first | exact (Kd.R_reads' HO_3.out).2.2 | (with_reducible refine Kd.C_alloc ?_ _) | (with_reducible refine Kd.C_drewN ?_ _) | (with_reducible refine Kd.C_drew ?_))); (case side2 => exact (Kd.R_reads' HO_3.out).2.1); (case side3 => exact Tabs_below HT.out (by repeat (first | (with_reducible first | exact HB.out | apply below_alloc | apply pw_below_drewN | apply below_drew1 | refine below_set ?_ GE249.out | refine below_set ?_ GE256.out) | exact HB.out))); rintro e w48 ⟨rfl, hb⟩; have n0_ := Aside0.mk (Kd.R_below (by (with_reducible repeat (first | apply Kd.R_alloc | apply Kd.R_drewN | apply Kd.R_drew)); exact HO_3.out) hb); have n1_ := Aside0.mk (blk_below (g := gb249) (o := .cells #[.slice A0_0 l0_0.length c0_0, .slice (some ad255) l0_1.length c0_1, .slice A0_2 l0_2.length c0_2] 25 (0, 0)) (by (with_reducible repeat (first | refine blk_drewN ?_ _ | refine blk_drew ?_ | refine blk_alloc ?_ _)); exact BK249.out) hb); have n2_ := Aside0.mk (blk_below (g := gb256) (o := .cells #[.string ((rd_T29 l0_1 x4_1).f0), .string ((rd_T29 l0_1 x4_1).f1), .int .i64 ((rd_T29 l0_1 x4_1).f2)] 29 (0, 0)) (by (with_reducible repeat (first | refine blk_drewN ?_ _ | refine blk_drew ?_ | refine blk_alloc ?_ _)); exact BK256.out) hb); have n3_ := Aside0.mk (below_step (by repeat (first | (with_reducible first | exact HB.out | apply below_alloc | apply pw_below_drewN | apply below_drew1 | refine below_set ?_ GE249.out | refine below_set ?_ GE256.out) | exact HB.out)) hb); clear HO_3; clear BK249; clear BK256; clear HB; have HO_3 := n0_; have BK249 := n1_; have BK256 := n2_; have HB := n3_; clear n0_ n1_ n2_ n3_; (try clear hb); (try clear hb2); (try clear hk); (try clear hi)) | (go_at_call 11; (with_reducible refine (fairwaylaw17_num.calls t262 t263 _ A42.out).mono ?_); rintro e w' ⟨rfl, ⟨nd, rfl⟩⟩; (try first | exact ⟨rfl, _, World.drewN_drewN _ _ _⟩ | exact ⟨rfl, _, Eq.trans (World.drewN_drewN _ _ _) (congrArg (World.drewN _) (Nat.add_assoc _ _ _))⟩)) | (go_at_call 11; (with_reducible refine (fairwaylaw17_num.calls t259 t264 _ A45.out).mono ?_); rintro e w' ⟨rfl, ⟨nd, rfl⟩⟩; (try first | exact ⟨rfl, _, World.drewN_drewN _ _ _⟩ | exact ⟨rfl, _, Eq.trans (World.drewN_drewN _ _ _) (congrArg (World.drewN _) (Nat.add_assoc _ _ _))⟩))))
              go_meet
              case rel => exact ⟨_, (true), (by first | rfl | (simp; done) | (simp [*]; done)), H', ⟨by have := HK1.out; have := HJ12.out; have := HJ21.out; first | omega | exact Nat.le_refl _⟩, ⟨by (with_reducible repeat (first | apply Kd.R_alloc | apply Kd.R_drewN | apply Kd.R_drew)); exact HO_3.out⟩, ⟨by (with_reducible repeat (first | refine blk_drewN ?_ _ | refine blk_drew ?_ | refine blk_alloc ?_ _)); exact BK249.out⟩, ⟨by (with_reducible repeat (first | refine blk_drewN ?_ _ | refine blk_drew ?_ | refine blk_alloc ?_ _)); exact BK256.out⟩, ⟨by repeat (first | (with_reducible first | exact HB.out | apply below_alloc | apply pw_below_drewN | apply below_drew1 | refine below_set ?_ GE249.out | refine below_set ?_ GE256.out) | exact HB.out)⟩⟩
           case rest =>
            clear HC40
            try clear c1
            try clear c2
            try clear p2
            try clear q2
            try clear hx2
            try clear c3
            try clear c4
            try clear c14
            try clear c14b0
            try clear c17
            try clear c18
            try clear c18b0
            try clear c19
            try clear c19b0
            try clear c25
            try clear p25
            try clear q25
            try clear hx25
            try clear p26
            try clear q26
            try clear hx26
            try clear c31
            try clear c33
            try clear c33b0
            try clear c34
            try clear c34b0
            try clear c35
            try clear c35b0
            try clear c36
            try clear c38
            try clear c43
            try clear c43b0
            try clear c43b1
            try clear c43b2
            try clear c46
            try clear c46b0
            try clear c46b1
            try clear hcz11_0
            try clear hcz11_1
            try clear hcz11_2
            try clear hcz15_0
            try clear hcz15_1
            try clear hcz15_2
            try clear hcz16_0
            try clear hcz16_1
            try clear hcz16_2
            try clear hcz23_0
            try clear hcz23_1
            try clear hcz23_2
            try clear hcz26_0
            try clear hcz26_1
            try clear hcz26_2
            try clear hcz29_0
            try clear hcz29_1
            try clear hcz29_2
            try clear hcz37_0
            try clear hcz37_1
            try clear hcz37_2
            try clear hcz39_0
            try clear hcz39_1
            try clear hcz39_2
            try clear hcz5_0
            try clear hcz5_1
            try clear hcz5_2
            try clear hcz9_0
            try clear hcz9_1
            try clear hcz9_2
            try clear hfz11_0
            try clear hfz11_1
            try clear hfz11_2
            try clear hfz15_0
            try clear hfz15_1
            try clear hfz15_2
            try clear hfz16_0
            try clear hfz16_1
            try clear hfz16_2
            try clear hfz23_0
            try clear hfz23_1
            try clear hfz23_2
            try clear hfz26_0
            try clear hfz26_1
            try clear hfz26_2
            try clear hfz29_0
            try clear hfz29_1
            try clear hfz29_2
            try clear hfz37_0
            try clear hfz37_1
            try clear hfz37_2
            try clear hfz39_0
            try clear hfz39_1
            try clear hfz39_2
            try clear hfz5_0
            try clear hfz5_1
            try clear hfz5_2
            try clear hfz9_0
            try clear hfz9_1
            try clear hfz9_2
            try clear hx255_0
            try clear hx255_1
            try clear hx255_2
            try clear hx261_0
            try clear hx261_1
            try clear hx261_2
            try clear p2
            try clear p25
            try clear p255
            try clear p26
            try clear p261
            try clear q2
            try clear q25
            try clear q255
            try clear q26
            try clear q261
            obtain ⟨kq, x81_39, rfl, HA, HJ39, HO_3, BK249, BK256, HB⟩ := hcut
            cases kq with
            | zero => exact absurd HA.out (by simp [fairwaylaw17_GroupCommits.j3])
            | succ kj39 =>
             have H := HA.out
             clear HA
             simp only [fairwaylaw17_GroupCommits.j3] at H
             by_cases c49 : x81_39 = true
             ·subst c49
              have H1 : (some false) = some r := by rw [if_pos rfl] at H; exact H
              clear H
              have H := H1
              clear H1
              obtain rfl := Option.some.inj H
              go_wp2
              repeat (go_quiet (fail); try go_wp2)
              go_ret
              exact ⟨by first | rfl | (simp [errW_none, errW_some] <;> rfl) | (simp [*, errW_none, errW_some] <;> rfl), by repeat (first | (with_reducible first | exact HB.out | apply below_alloc | apply pw_below_drewN | apply below_drew1 | refine below_set ?_ GE249.out | refine below_set ?_ GE256.out) | exact HB.out)⟩
             ·replace c49 := Bool.eq_false_iff.mpr c49
              subst c49
              have H1 : ((fairwayref0_CopyGroups.f kj39 x3_1).bind fun t265 => ((group_Commit.f kj39 t265 ((rd_T29 l0_1 x4_1).f0) ((rd_T29 l0_1 x4_1).f1) ((rd_T29 l0_1 x4_1).f2)).bind fun bt268 => (if t257 = true then ((fairwayref17_Group.f kj39 ((rd_T29 l0_1 x4_1).f0) ((rd_T29 l0_1 x4_1).f1) ((rd_T29 l0_1 x4_1).f2)).bind fun t273 => (fairwaylaw17_GroupCommits.j4 kj39 x3_1 x4_1 1 t265 bt268.1 bt268.2.1 bt268.2.2 ([] : List (S29)) false t273 l0_0 l0_1 l0_2 ((rd_T29 l0_1 x4_1).f0) ((rd_T29 l0_1 x4_1).f1) ((rd_T29 l0_1 x4_1).f2))) else (fairwaylaw17_GroupCommits.j4 kj39 x3_1 x4_1 1 t265 bt268.1 bt268.2.1 bt268.2.2 ([] : List (S29)) false false l0_0 l0_1 l0_2 ((rd_T29 l0_1 x4_1).f0) ((rd_T29 l0_1 x4_1).f1) ((rd_T29 l0_1 x4_1).f2))))) = some r := by rw [if_neg (show ¬ (false = true) by decide)] at H; exact H
              clear H
              have H := H1
              clear H1
              replace H := Option.bind_eq_some_iff.mp H
              obtain ⟨t265, A500, H⟩ := H
              replace H : ((group_Commit.f kj39 t265 ((rd_T29 l0_1 x4_1).f0) ((rd_T29 l0_1 x4_1).f1) ((rd_T29 l0_1 x4_1).f2)).bind fun bt268 => (if t257 = true then ((fairwayref17_Group.f kj39 ((rd_T29 l0_1 x4_1).f0) ((rd_T29 l0_1 x4_1).f1) ((rd_T29 l0_1 x4_1).f2)).bind fun t273 => (fairwaylaw17_GroupCommits.j4 kj39 x3_1 x4_1 1 t265 bt268.1 bt268.2.1 bt268.2.2 ([] : List (S29)) false t273 l0_0 l0_1 l0_2 ((rd_T29 l0_1 x4_1).f0) ((rd_T29 l0_1 x4_1).f1) ((rd_T29 l0_1 x4_1).f2))) else (fairwaylaw17_GroupCommits.j4 kj39 x3_1 x4_1 1 t265 bt268.1 bt268.2.1 bt268.2.2 ([] : List (S29)) false false l0_0 l0_1 l0_2 ((rd_T29 l0_1 x4_1).f0) ((rd_T29 l0_1 x4_1).f1) ((rd_T29 l0_1 x4_1).f2)))) = some r := H
              have A50 := Aside0.mk A500
              clear A500
              replace H := Option.bind_eq_some_iff.mp H
              obtain ⟨⟨t268, t271, t272⟩, A510, H⟩ := H
              replace H : (if t257 = true then ((fairwayref17_Group.f kj39 ((rd_T29 l0_1 x4_1).f0) ((rd_T29 l0_1 x4_1).f1) ((rd_T29 l0_1 x4_1).f2)).bind fun t273 => (fairwaylaw17_GroupCommits.j4 kj39 x3_1 x4_1 1 t265 t268 t271 t272 ([] : List (S29)) false t273 l0_0 l0_1 l0_2 ((rd_T29 l0_1 x4_1).f0) ((rd_T29 l0_1 x4_1).f1) ((rd_T29 l0_1 x4_1).f2))) else (fairwaylaw17_GroupCommits.j4 kj39 x3_1 x4_1 1 t265 t268 t271 t272 ([] : List (S29)) false false l0_0 l0_1 l0_2 ((rd_T29 l0_1 x4_1).f0) ((rd_T29 l0_1 x4_1).f1) ((rd_T29 l0_1 x4_1).f2))) = some r := H
              have A51 := Aside0.mk A510
              clear A510
              have HC52 := Aside0.mk H
              clear H
              go_upto_region 23 with (first | (go_at_call 7; (with_reducible refine (fairwayref0_CopyGroups.calls kj39 _ _ x3_1 t265 _ ?side1 ?side2 A50.out).mono ?_); (case side1 => repeat (first | exact (Kd.R_reads' HO_3.out).2.2 | (with_reducible refine Kd.C_alloc ?_ _) | (with_reducible refine Kd.C_drewN ?_ _) | (with_reducible refine Kd.C_drew ?_))); (case side2 => exact (Kd.R_reads' HO_3.out).2.1); rintro e w53 ⟨v266, rfl, ho0, hb⟩; have n0_ := Aside0.mk (Kd.R_elder' (by (with_reducible repeat (first | apply Kd.R_alloc | apply Kd.R_drewN | apply Kd.R_drew)); exact HO_3.out) (Kd.R_base ho0) hb); have n1_ := Aside0.mk (Kd.R_lower (Kd.R_newB (Kd.R_new' ho0 (Kd.R_lt (by (with_reducible repeat (first | apply Kd.R_alloc | apply Kd.R_drewN | apply Kd.R_drew)); exact HO_3.out))) (g := gb256) (o := .cells #[.string ((rd_T29 l0_1 x4_1).f0), .string ((rd_T29 l0_1 x4_1).f1), .int .i64 ((rd_T29 l0_1 x4_1).f2)] 29 (0, 0)) (by (with_reducible repeat (first | refine blk_drewN ?_ _ | refine blk_drew ?_ | refine blk_alloc ?_ _)); exact BK256.out)) (below_size (by repeat (first | (with_reducible first | exact HB.out | apply below_alloc | apply pw_below_drewN | apply below_drew1 | refine below_set ?_ GE249.out | refine below_set ?_ GE256.out) | exact HB.out)))); have n2_ := Aside0.mk (blk_below (g := gb249) (o := .cells #[.slice A0_0 l0_0.length c0_0, .slice (some ad255) l0_1.length c0_1, .slice A0_2 l0_2.length c0_2] 25 (0, 0)) (by (with_reducible repeat (first | refine blk_drewN ?_ _ | refine blk_drew ?_ | refine blk_alloc ?_ _)); exact BK249.out) hb); have n3_ := Aside0.mk (blk_below (g := gb256) (o := .cells #[.string ((rd_T29 l0_1 x4_1).f0), .string ((rd_T29 l0_1 x4_1).f1), .int .i64 ((rd_T29 l0_1 x4_1).f2)] 29 (0, 0)) (by (with_reducible repeat (first | refine blk_drewN ?_ _ | refine blk_drew ?_ | refine blk_alloc ?_ _)); exact BK256.out) hb); have n4_ := Aside0.mk (below_step (by repeat (first | (with_reducible first | exact HB.out | apply below_alloc | apply pw_below_drewN | apply below_drew1 | refine below_set ?_ GE249.out | refine below_set ?_ GE256.out) | exact HB.out)) hb); clear HO_3; clear BK249; clear BK256; clear HB; have HO_3 := n0_; have HO267 := n1_; have BK249 := n2_; have BK256 := n3_; have HB := n4_; clear n0_ n1_ n2_ n3_ n4_; (try clear hb); (try clear hb2); (try clear hk); (try clear hi); (try clear ho0); have hnb54 := NB256_249.out; have hnc54 := NB249_256.out; have hcz55_0 : w53.cell? ⟨gb256, 0, none⟩ = some (.string ((rd_T29 l0_1 x4_1).f0)) := (blk_cell BK256.out 0).trans rfl; have hcz55_1 : w53.cell? ⟨gb256, 1, none⟩ = some (.string ((rd_T29 l0_1 x4_1).f1)) := (blk_cell BK256.out 1).trans rfl; have hcz55_2 : w53.cell? ⟨gb256, 2, none⟩ = some (.int .i64 ((rd_T29 l0_1 x4_1).f2)) := (blk_cell BK256.out 2).trans rfl; have hfz55_0 := blk_frozen BK256.out 0; have hfz55_1 := blk_frozen BK256.out 1; have hfz55_2 := blk_frozen BK256.out 2; obtain ⟨Ao56, co56, eo56⟩ := Kd.R_slice HO267.out; subst eo56) | (go_at_call 13; (with_reducible refine (group_Commit.calls kj39 _ _ t265 ((rd_T29 l0_1 x4_1).f0) ((rd_T29 l0_1 x4_1).f1) ((rd_T29 l0_1 x4_1).f2) t268 t271 t272 _ ?side1 ?side2 A51.out ?side3).mono ?_); (case side1 => repeat (first | exact (Kd.R_reads' HO267.out).2.2 | (with_reducible refine Kd.C_alloc ?_ _) | (with_reducible refine Kd.C_drewN ?_ _) | (with_reducible refine Kd.C_drew ?_))); (case side2 => exact (Kd.R_reads' HO267.out).2.1); (case side3 => exact Tabs_below HT.out (by repeat (first | (with_reducible first | exact HB.out | apply below_alloc | apply pw_below_drewN | apply below_drew1 | refine below_set ?_ GE249.out | refine below_set ?_ GE256.out) | exact HB.out))); rintro e w57 ⟨v269, rfl, ho0, hb⟩; have n0_ := Aside0.mk (Kd.R_elder' (by (with_reducible repeat (first | apply Kd.R_alloc | apply Kd.R_drewN | apply Kd.R_drew)); exact HO_3.out) (Kd.R_base ho0) hb); have n1_ := Aside0.mk (Kd.R_elder' (by (with_reducible repeat (first | apply Kd.R_alloc | apply Kd.R_drewN | apply Kd.R_drew)); exact HO267.out) (Kd.R_base ho0) hb); have n2_ := Aside0.mk (Kd.R_lower (Kd.R_newB (Kd.R_new' (Kd.R_new' ho0 (Kd.R_lt (by (with_reducible repeat (first | apply Kd.R_alloc | apply Kd.R_drewN | apply Kd.R_drew)); exact HO_3.out))) (Kd.R_lt (by (with_reducible repeat (first | apply Kd.R_alloc | apply Kd.R_drewN | apply Kd.R_drew)); exact HO267.out))) (g := gb256) (o := .cells #[.string ((rd_T29 l0_1 x4_1).f0), .string ((rd_T29 l0_1 x4_1).f1), .int .i64 ((rd_T29 l0_1 x4_1).f2)] 29 (0, 0)) (by (with_reducible repeat (first | refine blk_drewN ?_ _ | refine blk_drew ?_ | refine blk_alloc ?_ _)); exact BK256.out)) (below_size (by repeat (first | (with_reducible first | exact HB.out | apply below_alloc | apply pw_below_drewN | apply below_drew1 | refine below_set ?_ GE249.out | refine below_set ?_ GE256.out) | exact HB.out)))); have n3_ := Aside0.mk (blk_below (g := gb249) (o := .cells #[.slice A0_0 l0_0.length c0_0, .slice (some ad255) l0_1.length c0_1, .slice A0_2 l0_2.length c0_2] 25 (0, 0)) (by (with_reducible repeat (first | refine blk_drewN ?_ _ | refine blk_drew ?_ | refine blk_alloc ?_ _)); exact BK249.out) hb); have n4_ := Aside0.mk (blk_below (g := gb256) (o := .cells #[.string ((rd_T29 l0_1 x4_1).f0), .string ((rd_T29 l0_1 x4_1).f1), .int .i64 ((rd_T29 l0_1 x4_1).f2)] 29 (0, 0)) (by (with_reducible repeat (first | refine blk_drewN ?_ _ | refine blk_drew ?_ | refine blk_alloc ?_ _)); exact BK256.out) hb); have n5_ := Aside0.mk (below_step (by repeat (first | (with_reducible first | exact HB.out | apply below_alloc | apply pw_below_drewN | apply below_drew1 | refine below_set ?_ GE249.out | refine below_set ?_ GE256.out) | exact HB.out)) hb); clear HO_3; clear HO267; clear BK249; clear BK256; clear HB; have HO_3 := n0_; have HO267 := n1_; have HO270 := n2_; have BK249 := n3_; have BK256 := n4_; have HB := n5_; clear n0_ n1_ n2_ n3_ n4_ n5_; (try clear hb); (try clear hb2); (try clear hk); (try clear hi); (try clear ho0)))
              repeat (go_quiet (first | (go_at_call 7; (with_reducible refine (fairwayref0_CopyGroups.calls kj39 _ _ x3_1 t265 _ ?side1 ?side2 A50.out).mono ?_); (case side1 => repeat (first | exact (Kd.R_reads' HO_3.out).2.2 | (with_reducible refine Kd.C_alloc ?_ _) | (with_reducible refine Kd.C_drewN ?_ _) | (with_reducible refine Kd.C_drew ?_))); (case side2 => exact (Kd.R_reads' HO_3.out).2.1); rintro e w53 ⟨v266, rfl, ho0, hb⟩; have n0_ := Aside0.mk (Kd.R_elder' (by (with_reducible repeat (first | apply Kd.R_alloc | apply Kd.R_drewN | apply Kd.R_drew)); exact HO_3.out) (Kd.R_base ho0) hb); have n1_ := Aside0.mk (Kd.R_lower (Kd.R_newB (Kd.R_new' ho0 (Kd.R_lt (by (with_reducible repeat (first | apply Kd.R_alloc | apply Kd.R_drewN | apply Kd.R_drew)); exact HO_3.out))) (g := gb256) (o := .cells #[.string ((rd_T29 l0_1 x4_1).f0), .string ((rd_T29 l0_1 x4_1).f1), .int .i64 ((rd_T29 l0_1 x4_1).f2)] 29 (0, 0)) (by (with_reducible repeat (first | refine blk_drewN ?_ _ | refine blk_drew ?_ | refine blk_alloc ?_ _)); exact BK256.out)) (below_size (by repeat (first | (with_reducible first | exact HB.out | apply below_alloc | apply pw_below_drewN | apply below_drew1 | refine below_set ?_ GE249.out | refine below_set ?_ GE256.out) | exact HB.out)))); have n2_ := Aside0.mk (blk_below (g := gb249) (o := .cells #[.slice A0_0 l0_0.length c0_0, .slice (some ad255) l0_1.length c0_1, .slice A0_2 l0_2.length c0_2] 25 (0, 0)) (by (with_reducible repeat (first | refine blk_drewN ?_ _ | refine blk_drew ?_ | refine blk_alloc ?_ _)); exact BK249.out) hb); have n3_ := Aside0.mk (blk_below (g := gb256) (o := .cells #[.string ((rd_T29 l0_1 x4_1).f0), .string ((rd_T29 l0_1 x4_1).f1), .int .i64 ((rd_T29 l0_1 x4_1).f2)] 29 (0, 0)) (by (with_reducible repeat (first | refine blk_drewN ?_ _ | refine blk_drew ?_ | refine blk_alloc ?_ _)); exact BK256.out) hb); have n4_ := Aside0.mk (below_step (by repeat (first | (with_reducible first | exact HB.out | apply below_alloc | apply pw_below_drewN | apply below_drew1 | refine below_set ?_ GE249.out | refine below_set ?_ GE256.out) | exact HB.out)) hb); clear HO_3; clear BK249; clear BK256; clear HB; have HO_3 := n0_; have HO267 := n1_; have BK249 := n2_; have BK256 := n3_; have HB := n4_; clear n0_ n1_ n2_ n3_ n4_; (try clear hb); (try clear hb2); (try clear hk); (try clear hi); (try clear ho0); have hnb54 := NB256_249.out; have hnc54 := NB249_256.out; have hcz55_0 : w53.cell? ⟨gb256, 0, none⟩ = some (.string ((rd_T29 l0_1 x4_1).f0)) := (blk_cell BK256.out 0).trans rfl; have hcz55_1 : w53.cell? ⟨gb256, 1, none⟩ = some (.string ((rd_T29 l0_1 x4_1).f1)) := (blk_cell BK256.out 1).trans rfl; have hcz55_2 : w53.cell? ⟨gb256, 2, none⟩ = some (.int .i64 ((rd_T29 l0_1 x4_1).f2)) := (blk_cell BK256.out 2).trans rfl; have hfz55_0 := blk_frozen BK256.out 0; have hfz55_1 := blk_frozen BK256.out 1; have hfz55_2 := blk_frozen BK256.out 2; obtain ⟨Ao56, co56, eo56⟩ := Kd.R_slice HO267.out; subst eo56) | (go_at_call 13; (with_reducible refine (group_Commit.calls kj39 _ _ t265 ((rd_T29 l0_1 x4_1).f0) ((rd_T29 l0_1 x4_1).f1) ((rd_T29 l0_1 x4_1).f2) t268 t271 t272 _ ?side1 ?side2 A51.out ?side3).mono ?_); (case side1 => repeat (first | exact (Kd.R_reads' HO267.out).2.2 | (with_reducible refine Kd.C_alloc ?_ _) | (with_reducible refine Kd.C_drewN ?_ _) | (with_reducible refine Kd.C_drew ?_))); (case side2 => exact (Kd.R_reads' HO267.out).2.1); (case side3 => exact Tabs_below HT.out (by repeat (first | (with_reducible first | exact HB.out | apply below_alloc | apply pw_below_drewN | apply below_drew1 | refine below_set ?_ GE249.out | refine below_set ?_ GE256.out) | exact HB.out))); rintro e w57 ⟨v269, rfl, ho0, hb⟩; have n0_ := Aside0.mk (Kd.R_elder' (by (with_reducible repeat (first | apply Kd.R_alloc | apply Kd.R_drewN | apply Kd.R_drew)); exact HO_3.out) (Kd.R_base ho0) hb); have n1_ := Aside0.mk (Kd.R_elder' (by (with_reducible repeat (first | apply Kd.R_alloc | apply Kd.R_drewN | apply Kd.R_drew)); exact HO267.out) (Kd.R_base ho0) hb); have n2_ := Aside0.mk (Kd.R_lower (Kd.R_newB (Kd.R_new' (Kd.R_new' ho0 (Kd.R_lt (by (with_reducible repeat (first | apply Kd.R_alloc | apply Kd.R_drewN | apply Kd.R_drew)); exact HO_3.out))) (Kd.R_lt (by (with_reducible repeat (first | apply Kd.R_alloc | apply Kd.R_drewN | apply Kd.R_drew)); exact HO267.out))) (g := gb256) (o := .cells #[.string ((rd_T29 l0_1 x4_1).f0), .string ((rd_T29 l0_1 x4_1).f1), .int .i64 ((rd_T29 l0_1 x4_1).f2)] 29 (0, 0)) (by (with_reducible repeat (first | refine blk_drewN ?_ _ | refine blk_drew ?_ | refine blk_alloc ?_ _)); exact BK256.out)) (below_size (by repeat (first | (with_reducible first | exact HB.out | apply below_alloc | apply pw_below_drewN | apply below_drew1 | refine below_set ?_ GE249.out | refine below_set ?_ GE256.out) | exact HB.out)))); have n3_ := Aside0.mk (blk_below (g := gb249) (o := .cells #[.slice A0_0 l0_0.length c0_0, .slice (some ad255) l0_1.length c0_1, .slice A0_2 l0_2.length c0_2] 25 (0, 0)) (by (with_reducible repeat (first | refine blk_drewN ?_ _ | refine blk_drew ?_ | refine blk_alloc ?_ _)); exact BK249.out) hb); have n4_ := Aside0.mk (blk_below (g := gb256) (o := .cells #[.string ((rd_T29 l0_1 x4_1).f0), .string ((rd_T29 l0_1 x4_1).f1), .int .i64 ((rd_T29 l0_1 x4_1).f2)] 29 (0, 0)) (by (with_reducible repeat (first | refine blk_drewN ?_ _ | refine blk_drew ?_ | refine blk_alloc ?_ _)); exact BK256.out) hb); have n5_ := Aside0.mk (below_step (by repeat (first | (with_reducible first | exact HB.out | apply below_alloc | apply pw_below_drewN | apply below_drew1 | refine below_set ?_ GE249.out | refine below_set ?_ GE256.out) | exact HB.out)) hb); clear HO_3; clear HO267; clear BK249; clear BK256; clear HB; have HO_3 := n0_; have HO267 := n1_; have HO270 := n2_; have BK249 := n3_; have BK256 := n4_; have HB := n5_; clear n0_ n1_ n2_ n3_ n4_ n5_; (try clear hb); (try clear hb2); (try clear hk); (try clear hi); (try clear ho0))); go_upto_region 23 with (first | (go_at_call 7; (with_reducible refine (fairwayref0_CopyGroups.calls kj39 _ _ x3_1 t265 _ ?side1 ?side2 A50.out).mono ?_); (case side1 => repeat (first | exact (Kd.R_reads' HO_3.out).2.2 | (with_reducible refine Kd.C_alloc ?_ _) | (with_reducible refine Kd.C_drewN ?_ _) | (with_reducible refine Kd.C_drew ?_))); (case side2 => exact (Kd.R_reads' HO_3.out).2.1); rintro e w53 ⟨v266, rfl, ho0, hb⟩; have n0_ := Aside0.mk (Kd.R_elder' (by (with_reducible repeat (first | apply Kd.R_alloc | apply Kd.R_drewN | apply Kd.R_drew)); exact HO_3.out) (Kd.R_base ho0) hb); have n1_ := Aside0.mk (Kd.R_lower (Kd.R_newB (Kd.R_new' ho0 (Kd.R_lt (by (with_reducible repeat (first | apply Kd.R_alloc | apply Kd.R_drewN | apply Kd.R_drew)); exact HO_3.out))) (g := gb256) (o := .cells #[.string ((rd_T29 l0_1 x4_1).f0), .string ((rd_T29 l0_1 x4_1).f1), .int .i64 ((rd_T29 l0_1 x4_1).f2)] 29 (0, 0)) (by (with_reducible repeat (first | refine blk_drewN ?_ _ | refine blk_drew ?_ | refine blk_alloc ?_ _)); exact BK256.out)) (below_size (by repeat (first | (with_reducible first | exact HB.out | apply below_alloc | apply pw_below_drewN | apply below_drew1 | refine below_set ?_ GE249.out | refine below_set ?_ GE256.out) | exact HB.out)))); have n2_ := Aside0.mk (blk_below (g := gb249) (o := .cells #[.slice A0_0 l0_0.length c0_0, .slice (some ad255) l0_1.length c0_1, .slice A0_2 l0_2.length c0_2] 25 (0, 0)) (by (with_reducible repeat (first | refine blk_drewN ?_ _ | refine blk_drew ?_ | refine blk_alloc ?_ _)); exact BK249.out) hb); have n3_ := Aside0.mk (blk_below (g := gb256) (o := .cells #[.string ((rd_T29 l0_1 x4_1).f0), .string ((rd_T29 l0_1 x4_1).f1), .int .i64 ((rd_T29 l0_1 x4_1).f2)] 29 (0, 0)) (by (with_reducible repeat (first | refine blk_drewN ?_ _ | refine blk_drew ?_ | refine blk_alloc ?_ _)); exact BK256.out) hb); have n4_ := Aside0.mk (below_step (by repeat (first | (with_reducible first | exact HB.out | apply below_alloc | apply pw_below_drewN | apply below_drew1 | refine below_set ?_ GE249.out | refine below_set ?_ GE256.out) | exact HB.out)) hb); clear HO_3; clear BK249; clear BK256; clear HB; have HO_3 := n0_; have HO267 := n1_; have BK249 := n2_; have BK256 := n3_; have HB := n4_; clear n0_ n1_ n2_ n3_ n4_; (try clear hb); (try clear hb2); (try clear hk); (try clear hi); (try clear ho0); have hnb54 := NB256_249.out; have hnc54 := NB249_256.out; have hcz55_0 : w53.cell? ⟨gb256, 0, none⟩ = some (.string ((rd_T29 l0_1 x4_1).f0)) := (blk_cell BK256.out 0).trans rfl; have hcz55_1 : w53.cell? ⟨gb256, 1, none⟩ = some (.string ((rd_T29 l0_1 x4_1).f1)) := (blk_cell BK256.out 1).trans rfl; have hcz55_2 : w53.cell? ⟨gb256, 2, none⟩ = some (.int .i64 ((rd_T29 l0_1 x4_1).f2)) := (blk_cell BK256.out 2).trans rfl; have hfz55_0 := blk_frozen BK256.out 0; have hfz55_1 := blk_frozen BK256.out 1; have hfz55_2 := blk_frozen BK256.out 2; obtain ⟨Ao56, co56, eo56⟩ := Kd.R_slice HO267.out; subst eo56) | (go_at_call 13; (with_reducible refine (group_Commit.calls kj39 _ _ t265 ((rd_T29 l0_1 x4_1).f0) ((rd_T29 l0_1 x4_1).f1) ((rd_T29 l0_1 x4_1).f2) t268 t271 t272 _ ?side1 ?side2 A51.out ?side3).mono ?_); (case side1 => repeat (first | exact (Kd.R_reads' HO267.out).2.2 | (with_reducible refine Kd.C_alloc ?_ _) | (with_reducible refine Kd.C_drewN ?_ _) | (with_reducible refine Kd.C_drew ?_))); (case side2 => exact (Kd.R_reads' HO267.out).2.1); (case side3 => exact Tabs_below HT.out (by repeat (first | (with_reducible first | exact HB.out | apply below_alloc | apply pw_below_drewN | apply below_drew1 | refine below_set ?_ GE249.out | refine below_set ?_ GE256.out) | exact HB.out))); rintro e w57 ⟨v269, rfl, ho0, hb⟩; have n0_ := Aside0.mk (Kd.R_elder' (by (with_reducible repeat (first | apply Kd.R_alloc | apply Kd.R_drewN | apply Kd.R_drew)); exact HO_3.out) (Kd.R_base ho0) hb); have n1_ := Aside0.mk (Kd.R_elder' (by (with_reducible repeat (first | apply Kd.R_alloc | apply Kd.R_drewN | apply Kd.R_drew)); exact HO267.out) (Kd.R_base ho0) hb); have n2_ := Aside0.mk (Kd.R_lower (Kd.R_newB (Kd.R_new' (Kd.R_new' ho0 (Kd.R_lt (by (with_reducible repeat (first | apply Kd.R_alloc | apply Kd.R_drewN | apply Kd.R_drew)); exact HO_3.out))) (Kd.R_lt (by (with_reducible repeat (first | apply Kd.R_alloc | apply Kd.R_drewN | apply Kd.R_drew)); exact HO267.out))) (g := gb256) (o := .cells #[.string ((rd_T29 l0_1 x4_1).f0), .string ((rd_T29 l0_1 x4_1).f1), .int .i64 ((rd_T29 l0_1 x4_1).f2)] 29 (0, 0)) (by (with_reducible repeat (first | refine blk_drewN ?_ _ | refine blk_drew ?_ | refine blk_alloc ?_ _)); exact BK256.out)) (below_size (by repeat (first | (with_reducible first | exact HB.out | apply below_alloc | apply pw_below_drewN | apply below_drew1 | refine below_set ?_ GE249.out | refine below_set ?_ GE256.out) | exact HB.out)))); have n3_ := Aside0.mk (blk_below (g := gb249) (o := .cells #[.slice A0_0 l0_0.length c0_0, .slice (some ad255) l0_1.length c0_1, .slice A0_2 l0_2.length c0_2] 25 (0, 0)) (by (with_reducible repeat (first | refine blk_drewN ?_ _ | refine blk_drew ?_ | refine blk_alloc ?_ _)); exact BK249.out) hb); have n4_ := Aside0.mk (blk_below (g := gb256) (o := .cells #[.string ((rd_T29 l0_1 x4_1).f0), .string ((rd_T29 l0_1 x4_1).f1), .int .i64 ((rd_T29 l0_1 x4_1).f2)] 29 (0, 0)) (by (with_reducible repeat (first | refine blk_drewN ?_ _ | refine blk_drew ?_ | refine blk_alloc ?_ _)); exact BK256.out) hb); have n5_ := Aside0.mk (below_step (by repeat (first | (with_reducible first | exact HB.out | apply below_alloc | apply pw_below_drewN | apply below_drew1 | refine below_set ?_ GE249.out | refine below_set ?_ GE256.out) | exact HB.out)) hb); clear HO_3; clear HO267; clear BK249; clear BK256; clear HB; have HO_3 := n0_; have HO267 := n1_; have HO270 := n2_; have BK249 := n3_; have BK256 := n4_; have HB := n5_; clear n0_ n1_ n2_ n3_ n4_ n5_; (try clear hb); (try clear hb2); (try clear hk); (try clear hi); (try clear ho0))))
              (try simp only [Act.put, sTo,sZ,sS])
              go_cut [95] (fun v95 wc => ∃ (kq : Nat) (x95_51 : Bool), v95 = .bool x95_51 ∧ Aside0 (fairwaylaw17_GroupCommits.j4 kq x3_1 x4_1 1 t265 t268 t271 t272 ([] : List (S29)) false x95_51 l0_0 l0_1 l0_2 ((rd_T29 l0_1 x4_1).f0) ((rd_T29 l0_1 x4_1).f1) ((rd_T29 l0_1 x4_1).f2) = some r) ∧ Aside0 (kq ≤ kj39) ∧ Aside0 (Kd.R k29 29 wc w.heap.size (fun k_ => some k_ ≠ ((.slice Ao56 t265.length co56) : Value).ownBlock ∧ some k_ ≠ (v269 : Value).ownBlock ∧ some k_ ≠ ((.slice none 0 0) : Value).ownBlock ∧ k_ ≠ gb256) (.slice Ao27 x3_1.length co27) x3_1) ∧ Aside0 (Kd.R k29 29 wc w.heap.size (fun k_ => some k_ ≠ ((.slice Ao27 x3_1.length co27) : Value).ownBlock ∧ some k_ ≠ (v269 : Value).ownBlock ∧ some k_ ≠ ((.slice none 0 0) : Value).ownBlock ∧ k_ ≠ gb256) (.slice Ao56 t265.length co56) t265) ∧ Aside0 (Kd.R k29 29 wc w.heap.size (fun k_ => some k_ ≠ ((.slice Ao27 x3_1.length co27) : Value).ownBlock ∧ some k_ ≠ ((.slice Ao56 t265.length co56) : Value).ownBlock ∧ some k_ ≠ ((.slice none 0 0) : Value).ownBlock ∧ k_ ≠ gb256) v269 t268) ∧ Aside0 (Kd.R k29 29 wc w.heap.size (fun k_ => some k_ ≠ ((.slice Ao27 x3_1.length co27) : Value).ownBlock ∧ some k_ ≠ ((.slice Ao56 t265.length co56) : Value).ownBlock ∧ some k_ ≠ (v269 : Value).ownBlock ∧ k_ ≠ gb256) (.slice none 0 0) ([] : List (S29))) ∧ Aside0 (wc.heap[gb249]? = some (.cells #[(.slice A0_0 l0_0.length c0_0), (.slice (some ad255) l0_1.length c0_1), (.slice A0_2 l0_2.length c0_2)] 25 (0, 0))) ∧ Aside0 (wc.heap[gb256]? = some (.cells #[.string ((rd_T29 l0_1 x4_1).f0), .string ((rd_T29 l0_1 x4_1).f1), .int .i64 ((rd_T29 l0_1 x4_1).f2)] 29 (0, 0))) ∧ Aside0 (Below w.heap.size w wc))
              case first =>
               have H := HC52.out
               clear HC52
               by_cases c58 : t257 = true
               ·subst c58
                have H1 : ((fairwayref17_Group.f kj39 ((rd_T29 l0_1 x4_1).f0) ((rd_T29 l0_1 x4_1).f1) ((rd_T29 l0_1 x4_1).f2)).bind fun t273 => (fairwaylaw17_GroupCommits.j4 kj39 x3_1 x4_1 1 t265 t268 t271 t272 ([] : List (S29)) false t273 l0_0 l0_1 l0_2 ((rd_T29 l0_1 x4_1).f0) ((rd_T29 l0_1 x4_1).f1) ((rd_T29 l0_1 x4_1).f2))) = some r := by rw [if_pos rfl] at H; exact H
                clear H
                have H := H1
                clear H1
                replace H := Option.bind_eq_some_iff.mp H
                obtain ⟨t273, A590, H⟩ := H
                replace H : (fairwaylaw17_GroupCommits.j4 kj39 x3_1 x4_1 1 t265 t268 t271 t272 ([] : List (S29)) false t273 l0_0 l0_1 l0_2 ((rd_T29 l0_1 x4_1).f0) ((rd_T29 l0_1 x4_1).f1) ((rd_T29 l0_1 x4_1).f2)) = some r := H
                have A59 := Aside0.mk A590
                clear A590
                have H' := Aside0.mk H
                clear H
                have hnb60 := NB256_249.out
                have hnc60 := NB249_256.out
                have hcz61_0 : w57.cell? ⟨gb256, 0, none⟩ = some (.string ((rd_T29 l0_1 x4_1).f0)) := (blk_cell BK256.out 0).trans rfl
                have hcz61_1 : w57.cell? ⟨gb256, 1, none⟩ = some (.string ((rd_T29 l0_1 x4_1).f1)) := (blk_cell BK256.out 1).trans rfl
                have hcz61_2 : w57.cell? ⟨gb256, 2, none⟩ = some (.int .i64 ((rd_T29 l0_1 x4_1).f2)) := (blk_cell BK256.out 2).trans rfl
                have hfz61_0 := blk_frozen BK256.out 0
                have hfz61_1 := blk_frozen BK256.out 1
                have hfz61_2 := blk_frozen BK256.out 2
                go_wp2_with (first | (go_at_call 14; (with_reducible refine (fairwayref17_Group.calls kj39 ((rd_T29 l0_1 x4_1).f0) ((rd_T29 l0_1 x4_1).f1) ((rd_T29 l0_1 x4_1).f2) t273 _ A59.out).mono ?_); rintro e w62 ⟨rfl, hb⟩; have n0_ := Aside0.mk (Kd.R_below (by (with_reducible repeat (first | apply Kd.R_alloc | apply Kd.R_drewN | apply Kd.R_drew)); exact HO_3.out) hb); have n1_ := Aside0.mk (Kd.R_below (by (with_reducible repeat (first | apply Kd.R_alloc | apply Kd.R_drewN | apply Kd.R_drew)); exact HO267.out) hb); have n2_ := Aside0.mk (Kd.R_below (by (with_reducible repeat (first | apply Kd.R_alloc | apply Kd.R_drewN | apply Kd.R_drew)); exact HO270.out) hb); have n3_ := Aside0.mk (blk_below (g := gb249) (o := .cells #[.slice A0_0 l0_0.length c0_0, .slice (some ad255) l0_1.length c0_1, .slice A0_2 l0_2.length c0_2] 25 (0, 0)) (by (with_reducible repeat (first | refine blk_drewN ?_ _ | refine blk_drew ?_ | refine blk_alloc ?_ _)); exact BK249.out) hb); have n4_ := Aside0.mk (blk_below (g := gb256) (o := .cells #[.string ((rd_T29 l0_1 x4_1).f0), .string ((rd_T29 l0_1 x4_1).f1), .int .i64 ((rd_T29 l0_1 x4_1).f2)] 29 (0, 0)) (by (with_reducible repeat (first | refine blk_drewN ?_ _ | refine blk_drew ?_ | refine blk_alloc ?_ _)); exact BK256.out) hb); have n5_ := Aside0.mk (below_step (by repeat (first | (with_reducible first | exact HB.out | apply below_alloc | apply pw_below_drewN | apply below_drew1 | refine below_set ?_ GE249.out | refine below_set ?_ GE256.out) | exact HB.out)) hb); clear HO_3; clear HO267; clear HO270; clear BK249; clear BK256; clear HB; have HO_3 := n0_; have HO267 := n1_; have HO270 := n2_; have BK249 := n3_; have BK256 := n4_; have HB := n5_; clear n0_ n1_ n2_ n3_ n4_ n5_; (try clear hb); (try clear hb2); (try clear hk); (try clear hi)))
                repeat (go_quiet (first | (go_at_call 14; (with_reducible refine (fairwayref17_Group.calls kj39 ((rd_T29 l0_1 x4_1).f0) ((rd_T29 l0_1 x4_1).f1) ((rd_T29 l0_1 x4_1).f2) t273 _ A59.out).mono ?_); rintro e w62 ⟨rfl, hb⟩; have n0_ := Aside0.mk (Kd.R_below (by (with_reducible repeat (first | apply Kd.R_alloc | apply Kd.R_drewN | apply Kd.R_drew)); exact HO_3.out) hb); have n1_ := Aside0.mk (Kd.R_below (by (with_reducible repeat (first | apply Kd.R_alloc | apply Kd.R_drewN | apply Kd.R_drew)); exact HO267.out) hb); have n2_ := Aside0.mk (Kd.R_below (by (with_reducible repeat (first | apply Kd.R_alloc | apply Kd.R_drewN | apply Kd.R_drew)); exact HO270.out) hb); have n3_ := Aside0.mk (blk_below (g := gb249) (o := .cells #[.slice A0_0 l0_0.length c0_0, .slice (some ad255) l0_1.length c0_1, .slice A0_2 l0_2.length c0_2] 25 (0, 0)) (by (with_reducible repeat (first | refine blk_drewN ?_ _ | refine blk_drew ?_ | refine blk_alloc ?_ _)); exact BK249.out) hb); have n4_ := Aside0.mk (blk_below (g := gb256) (o := .cells #[.string ((rd_T29 l0_1 x4_1).f0), .string ((rd_T29 l0_1 x4_1).f1), .int .i64 ((rd_T29 l0_1 x4_1).f2)] 29 (0, 0)) (by (with_reducible repeat (first | refine blk_drewN ?_ _ | refine blk_drew ?_ | refine blk_alloc ?_ _)); exact BK256.out) hb); have n5_ := Aside0.mk (below_step (by repeat (first | (with_reducible first | exact HB.out | apply below_alloc | apply pw_below_drewN | apply below_drew1 | refine below_set ?_ GE249.out | refine below_set ?_ GE256.out) | exact HB.out)) hb); clear HO_3; clear HO267; clear HO270; clear BK249; clear BK256; clear HB; have HO_3 := n0_; have HO267 := n1_; have HO270 := n2_; have BK249 := n3_; have BK256 := n4_; have HB := n5_; clear n0_ n1_ n2_ n3_ n4_ n5_; (try clear hb); (try clear hb2); (try clear hk); (try clear hi))); try go_wp2_with (first | (go_at_call 14; (with_reducible refine (fairwayref17_Group.calls kj39 ((rd_T29 l0_1 x4_1).f0) ((rd_T29 l0_1 x4_1).f1) ((rd_T29 l0_1 x4_1).f2) t273 _ A59.out).mono ?_); rintro e w62 ⟨rfl, hb⟩; have n0_ := Aside0.mk (Kd.R_below (by (with_reducible repeat (first | apply Kd.R_alloc | apply Kd.R_drewN | apply Kd.R_drew)); exact HO_3.out) hb); have n1_ := Aside0.mk (Kd.R_below (by (with_reducible repeat (first | apply Kd.R_alloc | apply Kd.R_drewN | apply Kd.R_drew)); exact HO267.out) hb); have n2_ := Aside0.mk (Kd.R_below (by (with_reducible repeat (first | apply Kd.R_alloc | apply Kd.R_drewN | apply Kd.R_drew)); exact HO270.out) hb); have n3_ := Aside0.mk (blk_below (g := gb249) (o := .cells #[.slice A0_0 l0_0.length c0_0, .slice (some ad255) l0_1.length c0_1, .slice A0_2 l0_2.length c0_2] 25 (0, 0)) (by (with_reducible repeat (first | refine blk_drewN ?_ _ | refine blk_drew ?_ | refine blk_alloc ?_ _)); exact BK249.out) hb); have n4_ := Aside0.mk (blk_below (g := gb256) (o := .cells #[.string ((rd_T29 l0_1 x4_1).f0), .string ((rd_T29 l0_1 x4_1).f1), .int .i64 ((rd_T29 l0_1 x4_1).f2)] 29 (0, 0)) (by (with_reducible repeat (first | refine blk_drewN ?_ _ | refine blk_drew ?_ | refine blk_alloc ?_ _)); exact BK256.out) hb); have n5_ := Aside0.mk (below_step (by repeat (first | (with_reducible first | exact HB.out | apply below_alloc | apply pw_below_drewN | apply below_drew1 | refine below_set ?_ GE249.out | refine below_set ?_ GE256.out) | exact HB.out)) hb); clear HO_3; clear HO267; clear HO270; clear BK249; clear BK256; clear HB; have HO_3 := n0_; have HO267 := n1_; have HO270 := n2_; have BK249 := n3_; have BK256 := n4_; have HB := n5_; clear n0_ n1_ n2_ n3_ n4_ n5_; (try clear hb); (try clear hb2); (try clear hk); (try clear hi))))
                go_meet
                case rel => exact ⟨_, (t273), (by first | rfl | (simp; done) | (simp [*]; done)), H', ⟨by have := HK1.out; have := HJ12.out; have := HJ21.out; have := HJ39.out; first | omega | exact Nat.le_refl _⟩, ⟨by (with_reducible repeat (first | apply Kd.R_alloc | apply Kd.R_drewN | apply Kd.R_drew)); exact Kd.R_mono HO_3.out (fun _ hk => ⟨hk.1.2, ⟨hk.2, ⟨(by simp [Value.ownBlock]), hk.1.1⟩⟩⟩)⟩, ⟨by (with_reducible repeat (first | apply Kd.R_alloc | apply Kd.R_drewN | apply Kd.R_drew)); exact Kd.R_mono HO267.out (fun _ hk => ⟨hk.1.1.2, ⟨hk.2, ⟨(by simp [Value.ownBlock]), hk.1.2⟩⟩⟩)⟩, ⟨by (with_reducible repeat (first | apply Kd.R_alloc | apply Kd.R_drewN | apply Kd.R_drew)); exact Kd.R_mono HO270.out (fun _ hk => ⟨hk.1.1.2, ⟨hk.1.2, ⟨(by simp [Value.ownBlock]), hk.2⟩⟩⟩)⟩, ⟨by first | exact Kd.R_nil _ _ _ _ _ | exact Kd.N_nil _ _ _ _ _ | exact Kd.V_nil _ _ _ _ _ | exact Kd.Q_nil _ _ _ _ _ | exact Kd.S_nil _ _ _ _ _⟩, ⟨by (with_reducible repeat (first | refine blk_drewN ?_ _ | refine blk_drew ?_ | refine blk_alloc ?_ _)); exact BK249.out⟩, ⟨by (with_reducible repeat (first | refine blk_drewN ?_ _ | refine blk_drew ?_ | refine blk_alloc ?_ _)); exact BK256.out⟩, ⟨by repeat (first | (with_reducible first | exact HB.out | apply below_alloc | apply pw_below_drewN | apply below_drew1 | refine below_set ?_ GE249.out | refine below_set ?_ GE256.out) | exact HB.out)⟩⟩
               ·replace c58 := Bool.eq_false_iff.mpr c58
                subst c58
                have H1 : (fairwaylaw17_GroupCommits.j4 kj39 x3_1 x4_1 1 t265 t268 t271 t272 ([] : List (S29)) false false l0_0 l0_1 l0_2 ((rd_T29 l0_1 x4_1).f0) ((rd_T29 l0_1 x4_1).f1) ((rd_T29 l0_1 x4_1).f2)) = some r := by rw [if_neg (show ¬ (false = true) by decide)] at H; exact H
                clear H
                have H := H1
                clear H1
                have H' := Aside0.mk H
                clear H
                go_wp2
                repeat (go_quiet (fail); try go_wp2)
                go_meet
                case rel => exact ⟨_, (false), (by first | rfl | (simp; done) | (simp [*]; done)), H', ⟨by have := HK1.out; have := HJ12.out; have := HJ21.out; have := HJ39.out; first | omega | exact Nat.le_refl _⟩, ⟨by (with_reducible repeat (first | apply Kd.R_alloc | apply Kd.R_drewN | apply Kd.R_drew)); exact Kd.R_mono HO_3.out (fun _ hk => ⟨hk.1.2, ⟨hk.2, ⟨(by simp [Value.ownBlock]), hk.1.1⟩⟩⟩)⟩, ⟨by (with_reducible repeat (first | apply Kd.R_alloc | apply Kd.R_drewN | apply Kd.R_drew)); exact Kd.R_mono HO267.out (fun _ hk => ⟨hk.1.1.2, ⟨hk.2, ⟨(by simp [Value.ownBlock]), hk.1.2⟩⟩⟩)⟩, ⟨by (with_reducible repeat (first | apply Kd.R_alloc | apply Kd.R_drewN | apply Kd.R_drew)); exact Kd.R_mono HO270.out (fun _ hk => ⟨hk.1.1.2, ⟨hk.1.2, ⟨(by simp [Value.ownBlock]), hk.2⟩⟩⟩)⟩, ⟨by first | exact Kd.R_nil _ _ _ _ _ | exact Kd.N_nil _ _ _ _ _ | exact Kd.V_nil _ _ _ _ _ | exact Kd.Q_nil _ _ _ _ _ | exact Kd.S_nil _ _ _ _ _⟩, ⟨by (with_reducible repeat (first | refine blk_drewN ?_ _ | refine blk_drew ?_ | refine blk_alloc ?_ _)); exact BK249.out⟩, ⟨by (with_reducible repeat (first | refine blk_drewN ?_ _ | refine blk_drew ?_ | refine blk_alloc ?_ _)); exact BK256.out⟩, ⟨by repeat (first | (with_reducible first | exact HB.out | apply below_alloc | apply pw_below_drewN | apply below_drew1 | refine below_set ?_ GE249.out | refine below_set ?_ GE256.out) | exact HB.out)⟩⟩
              case rest =>
               clear HC52
               try clear c1
               try clear c2
               try clear p2
               try clear q2
               try clear hx2
               try clear c3
               try clear c4
               try clear c5
               try clear c6
               try clear c14
               try clear c14b0
               try clear c17
               try clear c18
               try clear c18b0
               try clear c19
               try clear c19b0
               try clear c25
               try clear p25
               try clear q25
               try clear hx25
               try clear p26
               try clear q26
               try clear hx26
               try clear c31
               try clear c33
               try clear c33b0
               try clear c34
               try clear c34b0
               try clear c35
               try clear c35b0
               try clear c36
               try clear c38
               try clear c43
               try clear c43b0
               try clear c43b1
               try clear c43b2
               try clear c46
               try clear c46b0
               try clear c46b1
               try clear c49
               try clear c54
               try clear c58
               try clear c60
               try clear hcz11_0
               try clear hcz11_1
               try clear hcz11_2
               try clear hcz15_0
               try clear hcz15_1
               try clear hcz15_2
               try clear hcz16_0
               try clear hcz16_1
               try clear hcz16_2
               try clear hcz23_0
               try clear hcz23_1
               try clear hcz23_2
               try clear hcz26_0
               try clear hcz26_1
               try clear hcz26_2
               try clear hcz29_0
               try clear hcz29_1
               try clear hcz29_2
               try clear hcz37_0
               try clear hcz37_1
               try clear hcz37_2
               try clear hcz39_0
               try clear hcz39_1
               try clear hcz39_2
               try clear hcz55_0
               try clear hcz55_1
               try clear hcz55_2
               try clear hcz5_0
               try clear hcz5_1
               try clear hcz5_2
               try clear hcz61_0
               try clear hcz61_1
               try clear hcz61_2
               try clear hcz9_0
               try clear hcz9_1
               try clear hcz9_2
               try clear hfz11_0
               try clear hfz11_1
               try clear hfz11_2
               try clear hfz15_0
               try clear hfz15_1
               try clear hfz15_2
               try clear hfz16_0
               try clear hfz16_1
               try clear hfz16_2
               try clear hfz23_0
               try clear hfz23_1
               try clear hfz23_2
               try clear hfz26_0
               try clear hfz26_1
               try clear hfz26_2
               try clear hfz29_0
               try clear hfz29_1
               try clear hfz29_2
               try clear hfz37_0
               try clear hfz37_1
               try clear hfz37_2
               try clear hfz39_0
               try clear hfz39_1
               try clear hfz39_2
               try clear hfz55_0
               try clear hfz55_1
               try clear hfz55_2
               try clear hfz5_0
               try clear hfz5_1
               try clear hfz5_2
               try clear hfz61_0
               try clear hfz61_1
               try clear hfz61_2
               try clear hfz9_0
               try clear hfz9_1
               try clear hfz9_2
               try clear hx255_0
               try clear hx255_1
               try clear hx255_2
               try clear hx261_0
               try clear hx261_1
               try clear hx261_2
               try clear p2
               try clear p25
               try clear p255
               try clear p26
               try clear p261
               try clear q2
               try clear q25
               try clear q255
               try clear q26
               try clear q261
               obtain ⟨kq, x95_51, rfl, HA, HJ51, HO_3, HO_12, HO_13, HO_16, BK249, BK256, HB⟩ := hcut
               cases kq with
               | zero => exact absurd HA.out (by simp [fairwaylaw17_GroupCommits.j4])
               | succ kj51 =>
                have H := HA.out
                clear HA
                simp only [fairwaylaw17_GroupCommits.j4] at H
                have HC63 := Aside0.mk H
                clear H
                go_upto_if 95 with (fail)
                repeat (go_quiet (fail); go_upto_if 95 with (fail))
                go_cut [9, 16, 17] (fun v9 v16 v17 wc => ∃ (kq : Nat) (x9_62 : Int) (x16_62 : List (S29)) (x17_62 : Bool), v9 = .int .i64 x9_62 ∧ v17 = .bool x17_62 ∧ Aside0 (fairwaylaw17_GroupCommits.j5 kq x3_1 x4_1 x9_62 t265 t268 t271 t272 x16_62 x17_62 l0_0 l0_1 l0_2 = some r) ∧ Aside0 (kq ≤ kj51) ∧ Aside0 (Kd.R k29 29 wc w.heap.size (fun k_ => some k_ ≠ ((.slice Ao56 t265.length co56) : Value).ownBlock ∧ some k_ ≠ (v269 : Value).ownBlock ∧ some k_ ≠ (v16 : Value).ownBlock ∧ k_ ≠ gb256) (.slice Ao27 x3_1.length co27) x3_1) ∧ Aside0 (Kd.R k29 29 wc w.heap.size (fun k_ => some k_ ≠ ((.slice Ao27 x3_1.length co27) : Value).ownBlock ∧ some k_ ≠ (v269 : Value).ownBlock ∧ some k_ ≠ (v16 : Value).ownBlock ∧ k_ ≠ gb256) (.slice Ao56 t265.length co56) t265) ∧ Aside0 (Kd.R k29 29 wc w.heap.size (fun k_ => some k_ ≠ ((.slice Ao27 x3_1.length co27) : Value).ownBlock ∧ some k_ ≠ ((.slice Ao56 t265.length co56) : Value).ownBlock ∧ some k_ ≠ (v16 : Value).ownBlock ∧ k_ ≠ gb256) v269 t268) ∧ Aside0 (Kd.R k29 29 wc w.heap.size (fun k_ => some k_ ≠ ((.slice Ao27 x3_1.length co27) : Value).ownBlock ∧ some k_ ≠ ((.slice Ao56 t265.length co56) : Value).ownBlock ∧ some k_ ≠ (v269 : Value).ownBlock ∧ k_ ≠ gb256) v16 x16_62) ∧ Aside0 (wc.heap[gb249]? = some (.cells #[(.slice A0_0 l0_0.length c0_0), (.slice (some ad255) l0_1.length c0_1), (.slice A0_2 l0_2.length c0_2)] 25 (0, 0))) ∧ Aside0 (wc.heap[gb256]? = some (.cells #[.string ((rd_T29 l0_1 x4_1).f0), .string ((rd_T29 l0_1 x4_1).f1), .int .i64 ((rd_T29 l0_1 x4_1).f2)] 29 (0, 0))) ∧ Aside0 (Below w.heap.size w wc))
                case first =>
                 have H := HC63.out
                 clear HC63
                 by_cases c64 : x95_51 = true
                 ·subst c64
                  have H1 : ((fairwayref17_Commit.f kj51 x3_1 ((rd_T29 l0_1 x4_1).f0) ((rd_T29 l0_1 x4_1).f1) ((rd_T29 l0_1 x4_1).f2)).bind fun bt274 => (fairwaylaw17_GroupCommits.j5 kj51 x3_1 x4_1 bt274.2.2 t265 t268 t271 t272 bt274.1 bt274.2.1 l0_0 l0_1 l0_2)) = some r := by rw [if_pos rfl] at H; exact H
                  clear H
                  have H := H1
                  clear H1
                  replace H := Option.bind_eq_some_iff.mp H
                  obtain ⟨⟨t274, t277, t278⟩, A650, H⟩ := H
                  replace H : (fairwaylaw17_GroupCommits.j5 kj51 x3_1 x4_1 t278 t265 t268 t271 t272 t274 t277 l0_0 l0_1 l0_2) = some r := H
                  have A65 := Aside0.mk A650
                  clear A650
                  have H' := Aside0.mk H
                  clear H
                  have hnb66 := NB256_249.out
                  have hnc66 := NB249_256.out
                  have hcz67_0 : wc.cell? ⟨gb256, 0, none⟩ = some (.string ((rd_T29 l0_1 x4_1).f0)) := (blk_cell BK256.out 0).trans rfl
                  have hcz67_1 : wc.cell? ⟨gb256, 1, none⟩ = some (.string ((rd_T29 l0_1 x4_1).f1)) := (blk_cell BK256.out 1).trans rfl
                  have hcz67_2 : wc.cell? ⟨gb256, 2, none⟩ = some (.int .i64 ((rd_T29 l0_1 x4_1).f2)) := (blk_cell BK256.out 2).trans rfl
                  have hfz67_0 := blk_frozen BK256.out 0
                  have hfz67_1 := blk_frozen BK256.out 1
                  have hfz67_2 := blk_frozen BK256.out 2
                  go_wp2_with (first | (go_at_call 15; (with_reducible refine (fairwayref17_Commit.calls kj51 _ _ x3_1 ((rd_T29 l0_1 x4_1).f0) ((rd_T29 l0_1 x4_1).f1) ((rd_T29 l0_1 x4_1).f2) t274 t277 t278 _ ?side1 ?side2 A65.out).mono ?_); (case side1 => repeat (first | exact (Kd.R_reads' HO_3.out).2.2 | (with_reducible refine Kd.C_alloc ?_ _) | (with_reducible refine Kd.C_drewN ?_ _) | (with_reducible refine Kd.C_drew ?_))); (case side2 => exact (Kd.R_reads' HO_3.out).2.1); rintro e w68 ⟨v275, rfl, ho0, hb⟩; have n0_ := Aside0.mk (Kd.R_elder' (by (with_reducible repeat (first | apply Kd.R_alloc | apply Kd.R_drewN | apply Kd.R_drew)); exact HO_3.out) (Kd.R_base ho0) hb); have n1_ := Aside0.mk (Kd.R_elder' (by (with_reducible repeat (first | apply Kd.R_alloc | apply Kd.R_drewN | apply Kd.R_drew)); exact HO_12.out) (Kd.R_base ho0) hb); have n2_ := Aside0.mk (Kd.R_elder' (by (with_reducible repeat (first | apply Kd.R_alloc | apply Kd.R_drewN | apply Kd.R_drew)); exact HO_13.out) (Kd.R_base ho0) hb); have n3_ := Aside0.mk (Kd.R_elder' (by (with_reducible repeat (first | apply Kd.R_alloc | apply Kd.R_drewN | apply Kd.R_drew)); exact HO_16.out) (Kd.R_base ho0) hb); have n4_ := Aside0.mk (Kd.R_lower (Kd.R_newB (Kd.R_new' (Kd.R_new' (Kd.R_new' (Kd.R_new' ho0 (Kd.R_lt (by (with_reducible repeat (first | apply Kd.R_alloc | apply Kd.R_drewN | apply Kd.R_drew)); exact HO_3.out))) (Kd.R_lt (by (with_reducible repeat (first | apply Kd.R_alloc | apply Kd.R_drewN | apply Kd.R_drew)); exact HO_12.out))) (Kd.R_lt (by (with_reducible repeat (first | apply Kd.R_alloc | apply Kd.R_drewN | apply Kd.R_drew)); exact HO_13.out))) (Kd.R_lt (by (with_reducible repeat (first | apply Kd.R_alloc | apply Kd.R_drewN | apply Kd.R_drew)); exact HO_16.out))) (g := gb256) (o := .cells #[.string ((rd_T29 l0_1 x4_1).f0), .string ((rd_T29 l0_1 x4_1).f1), .int .i64 ((rd_T29 l0_1 x4_1).f2)] 29 (0, 0)) (by (with_reducible repeat (first | refine blk_drewN ?_ _ | refine blk_drew ?_ | refine blk_alloc ?_ _)); exact BK256.out)) (below_size (by repeat (first | (with_reducible first | exact HB.out | apply below_alloc | apply pw_below_drewN | apply below_drew1 | refine below_set ?_ GE249.out | refine below_set ?_ GE256.out) | exact HB.out)))); have n5_ := Aside0.mk (blk_below (g := gb249) (o := .cells #[.slice A0_0 l0_0.length c0_0, .slice (some ad255) l0_1.length c0_1, .slice A0_2 l0_2.length c0_2] 25 (0, 0)) (by (with_reducible repeat (first | refine blk_drewN ?_ _ | refine blk_drew ?_ | refine blk_alloc ?_ _)); exact BK249.out) hb); have n6_ := Aside0.mk (blk_below (g := gb256) (o := .cells #[.string ((rd_T29 l0_1 x4_1).f0), .string ((rd_T29 l0_1 x4_1).f1), .int .i64 ((rd_T29 l0_1 x4_1).f2)] 29 (0, 0)) (by (with_reducible repeat (first | refine blk_drewN ?_ _ | refine blk_drew ?_ | refine blk_alloc ?_ _)); exact BK256.out) hb); have n7_ := Aside0.mk (below_step (by repeat (first | (with_reducible first | exact HB.out | apply below_alloc | apply pw_below_drewN | apply below_drew1 | refine below_set ?_ GE249.out | refine below_set ?_ GE256.out) | exact HB.out)) hb); clear HO_3; clear HO_12; clear HO_13; clear HO_16; clear BK249; clear BK256; clear HB; have HO_3 := n0_; have HO_12 := n1_; have HO_13 := n2_; have HO_16 := n3_; have HO276 := n4_; have BK249 := n5_; have BK256 := n6_; have HB := n7_; clear n0_ n1_ n2_ n3_ n4_ n5_ n6_ n7_; (try clear hb); (try clear hb2); (try clear hk); (try clear hi); (try clear ho0)))
                  repeat (go_quiet (first | (go_at_call 15; (with_reducible refine (fairwayref17_Commit.calls kj51 _ _ x3_1 ((rd_T29 l0_1 x4_1).f0) ((rd_T29 l0_1 x4_1).f1) ((rd_T29 l0_1 x4_1).f2) t274 t277 t278 _ ?side1 ?side2 A65.out).mono ?_); (case side1 => repeat (first | exact (Kd.R_reads' HO_3.out).2.2 | (with_reducible refine Kd.C_alloc ?_ _) | (with_reducible refine Kd.C_drewN ?_ _) | (with_reducible refine Kd.C_drew ?_))); (case side2 => exact (Kd.R_reads' HO_3.out).2.1); rintro e w68 ⟨v275, rfl, ho0, hb⟩; have n0_ := Aside0.mk (Kd.R_elder' (by (with_reducible repeat (first | apply Kd.R_alloc | apply Kd.R_drewN | apply Kd.R_drew)); exact HO_3.out) (Kd.R_base ho0) hb); have n1_ := Aside0.mk (Kd.R_elder' (by (with_reducible repeat (first | apply Kd.R_alloc | apply Kd.R_drewN | apply Kd.R_drew)); exact HO_12.out) (Kd.R_base ho0) hb); have n2_ := Aside0.mk (Kd.R_elder' (by (with_reducible repeat (first | apply Kd.R_alloc | apply Kd.R_drewN | apply Kd.R_drew)); exact HO_13.out) (Kd.R_base ho0) hb); have n3_ := Aside0.mk (Kd.R_elder' (by (with_reducible repeat (first | apply Kd.R_alloc | apply Kd.R_drewN | apply Kd.R_drew)); exact HO_16.out) (Kd.R_base ho0) hb); have n4_ := Aside0.mk (Kd.R_lower (Kd.R_newB (Kd.R_new' (Kd.R_new' (Kd.R_new' (Kd.R_new' ho0 (Kd.R_lt (by (with_reducible repeat (first | apply Kd.R_alloc | apply Kd.R_drewN | apply Kd.R_drew)); exact HO_3.out))) (Kd.R_lt (by (with_reducible repeat (first | apply Kd.R_alloc | apply Kd.R_drewN | apply Kd.R_drew)); exact HO_12.out))) (Kd.R_lt (by (with_reducible repeat (first | apply Kd.R_alloc | apply Kd.R_drewN | apply Kd.R_drew)); exact HO_13.out))) (Kd.R_lt (by (with_reducible repeat (first | apply Kd.R_alloc | apply Kd.R_drewN | apply Kd.R_drew)); exact HO_16.out))) (g := gb256) (o := .cells #[.string ((rd_T29 l0_1 x4_1).f0), .string ((rd_T29 l0_1 x4_1).f1), .int .i64 ((rd_T29 l0_1 x4_1).f2)] 29 (0, 0)) (by (with_reducible repeat (first | refine blk_drewN ?_ _ | refine blk_drew ?_ | refine blk_alloc ?_ _)); exact BK256.out)) (below_size (by repeat (first | (with_reducible first | exact HB.out | apply below_alloc | apply pw_below_drewN | apply below_drew1 | refine below_set ?_ GE249.out | refine below_set ?_ GE256.out) | exact HB.out)))); have n5_ := Aside0.mk (blk_below (g := gb249) (o := .cells #[.slice A0_0 l0_0.length c0_0, .slice (some ad255) l0_1.length c0_1, .slice A0_2 l0_2.length c0_2] 25 (0, 0)) (by (with_reducible repeat (first | refine blk_drewN ?_ _ | refine blk_drew ?_ | refine blk_alloc ?_ _)); exact BK249.out) hb); have n6_ := Aside0.mk (blk_below (g := gb256) (o := .cells #[.string ((rd_T29 l0_1 x4_1).f0), .string ((rd_T29 l0_1 x4_1).f1), .int .i64 ((rd_T29 l0_1 x4_1).f2)] 29 (0, 0)) (by (with_reducible repeat (first | refine blk_drewN ?_ _ | refine blk_drew ?_ | refine blk_alloc ?_ _)); exact BK256.out) hb); have n7_ := Aside0.mk (below_step (by repeat (first | (with_reducible first | exact HB.out | apply below_alloc | apply pw_below_drewN | apply below_drew1 | refine below_set ?_ GE249.out | refine below_set ?_ GE256.out) | exact HB.out)) hb); clear HO_3; clear HO_12; clear HO_13; clear HO_16; clear BK249; clear BK256; clear HB; have HO_3 := n0_; have HO_12 := n1_; have HO_13 := n2_; have HO_16 := n3_; have HO276 := n4_; have BK249 := n5_; have BK256 := n6_; have HB := n7_; clear n0_ n1_ n2_ n3_ n4_ n5_ n6_ n7_; (try clear hb); (try clear hb2); (try clear hk); (try clear hi); (try clear ho0))); try go_wp2_with (first | (go_at_call 15; (with_reducible refine (fairwayref17_Commit.calls kj51 _ _ x3_1 ((rd_T29 l0_1 x4_1).f0) ((rd_T29 l0_1 x4_1).f1) ((rd_T29 l0_1 x4_1).f2) t274 t277 t278 _ ?side1 ?side2 A65.out).mono ?_); (case side1 => repeat (first | exact (Kd.R_reads' HO_3.out).2.2 | (with_reducible refine Kd.C_alloc ?_ _) | (with_reducible refine Kd.C_drewN ?_ _) | (with_reducible refine Kd.C_drew ?_))); (case side2 => exact (Kd.R_reads' HO_3.out).2.1); rintro e w68 ⟨v275, rfl, ho0, hb⟩; have n0_ := Aside0.mk (Kd.R_elder' (by (with_reducible repeat (first | apply Kd.R_alloc | apply Kd.R_drewN | apply Kd.R_drew)); exact HO_3.out) (Kd.R_base ho0) hb); have n1_ := Aside0.mk (Kd.R_elder' (by (with_reducible repeat (first | apply Kd.R_alloc | apply Kd.R_drewN | apply Kd.R_drew)); exact HO_12.out) (Kd.R_base ho0) hb); have n2_ := Aside0.mk (Kd.R_elder' (by (with_reducible repeat (first | apply Kd.R_alloc | apply Kd.R_drewN | apply Kd.R_drew)); exact HO_13.out) (Kd.R_base ho0) hb); have n3_ := Aside0.mk (Kd.R_elder' (by (with_reducible repeat (first | apply Kd.R_alloc | apply Kd.R_drewN | apply Kd.R_drew)); exact HO_16.out) (Kd.R_base ho0) hb); have n4_ := Aside0.mk (Kd.R_lower (Kd.R_newB (Kd.R_new' (Kd.R_new' (Kd.R_new' (Kd.R_new' ho0 (Kd.R_lt (by (with_reducible repeat (first | apply Kd.R_alloc | apply Kd.R_drewN | apply Kd.R_drew)); exact HO_3.out))) (Kd.R_lt (by (with_reducible repeat (first | apply Kd.R_alloc | apply Kd.R_drewN | apply Kd.R_drew)); exact HO_12.out))) (Kd.R_lt (by (with_reducible repeat (first | apply Kd.R_alloc | apply Kd.R_drewN | apply Kd.R_drew)); exact HO_13.out))) (Kd.R_lt (by (with_reducible repeat (first | apply Kd.R_alloc | apply Kd.R_drewN | apply Kd.R_drew)); exact HO_16.out))) (g := gb256) (o := .cells #[.string ((rd_T29 l0_1 x4_1).f0), .string ((rd_T29 l0_1 x4_1).f1), .int .i64 ((rd_T29 l0_1 x4_1).f2)] 29 (0, 0)) (by (with_reducible repeat (first | refine blk_drewN ?_ _ | refine blk_drew ?_ | refine blk_alloc ?_ _)); exact BK256.out)) (below_size (by repeat (first | (with_reducible first | exact HB.out | apply below_alloc | apply pw_below_drewN | apply below_drew1 | refine below_set ?_ GE249.out | refine below_set ?_ GE256.out) | exact HB.out)))); have n5_ := Aside0.mk (blk_below (g := gb249) (o := .cells #[.slice A0_0 l0_0.length c0_0, .slice (some ad255) l0_1.length c0_1, .slice A0_2 l0_2.length c0_2] 25 (0, 0)) (by (with_reducible repeat (first | refine blk_drewN ?_ _ | refine blk_drew ?_ | refine blk_alloc ?_ _)); exact BK249.out) hb); have n6_ := Aside0.mk (blk_below (g := gb256) (o := .cells #[.string ((rd_T29 l0_1 x4_1).f0), .string ((rd_T29 l0_1 x4_1).f1), .int .i64 ((rd_T29 l0_1 x4_1).f2)] 29 (0, 0)) (by (with_reducible repeat (first | refine blk_drewN ?_ _ | refine blk_drew ?_ | refine blk_alloc ?_ _)); exact BK256.out) hb); have n7_ := Aside0.mk (below_step (by repeat (first | (with_reducible first | exact HB.out | apply below_alloc | apply pw_below_drewN | apply below_drew1 | refine below_set ?_ GE249.out | refine below_set ?_ GE256.out) | exact HB.out)) hb); clear HO_3; clear HO_12; clear HO_13; clear HO_16; clear BK249; clear BK256; clear HB; have HO_3 := n0_; have HO_12 := n1_; have HO_13 := n2_; have HO_16 := n3_; have HO276 := n4_; have BK249 := n5_; have BK256 := n6_; have HB := n7_; clear n0_ n1_ n2_ n3_ n4_ n5_ n6_ n7_; (try clear hb); (try clear hb2); (try clear hk); (try clear hi); (try clear ho0))))
                  go_meet
                  case rel => exact ⟨_, (t278), (t274), (t277), (by first | rfl | (simp; done) | (simp [*]; done)), (by first | rfl | (simp; done) | (simp [*]; done)), H', ⟨by have := HK1.out; have := HJ12.out; have := HJ21.out; have := HJ39.out; have := HJ51.out; first | omega | exact Nat.le_refl _⟩, ⟨by (with_reducible repeat (first | apply Kd.R_alloc | apply Kd.R_drewN | apply Kd.R_drew)); exact Kd.R_mono HO_3.out (fun _ hk => ⟨hk.1.1, ⟨hk.1.2.1, ⟨hk.2, hk.1.2.2.2⟩⟩⟩)⟩, ⟨by (with_reducible repeat (first | apply Kd.R_alloc | apply Kd.R_drewN | apply Kd.R_drew)); exact Kd.R_mono HO_12.out (fun _ hk => ⟨hk.1.1, ⟨hk.1.2.1, ⟨hk.2, hk.1.2.2.2⟩⟩⟩)⟩, ⟨by (with_reducible repeat (first | apply Kd.R_alloc | apply Kd.R_drewN | apply Kd.R_drew)); exact Kd.R_mono HO_13.out (fun _ hk => ⟨hk.1.1, ⟨hk.1.2.1, ⟨hk.2, hk.1.2.2.2⟩⟩⟩)⟩, ⟨by (with_reducible repeat (first | apply Kd.R_alloc | apply Kd.R_drewN | apply Kd.R_drew)); exact Kd.R_mono HO276.out (fun _ hk => ⟨hk.1.1.1.1.2, ⟨hk.1.1.1.2, ⟨hk.1.1.2, hk.2⟩⟩⟩)⟩, ⟨by (with_reducible repeat (first | refine blk_drewN ?_ _ | refine blk_drew ?_ | refine blk_alloc ?_ _)); exact BK249.out⟩, ⟨by (with_reducible repeat (first | refine blk_drewN ?_ _ | refine blk_drew ?_ | refine blk_alloc ?_ _)); exact BK256.out⟩, ⟨by repeat (first | (with_reducible first | exact HB.out | apply below_alloc | apply pw_below_drewN | apply below_drew1 | refine below_set ?_ GE249.out | refine below_set ?_ GE256.out) | exact HB.out)⟩⟩
                 ·replace c64 := Bool.eq_false_iff.mpr c64
                  subst c64
                  have H1 : (fairwaylaw17_GroupCommits.j5 kj51 x3_1 x4_1 1 t265 t268 t271 t272 ([] : List (S29)) false l0_0 l0_1 l0_2) = some r := by rw [if_neg (show ¬ (false = true) by decide)] at H; exact H
                  clear H
                  have H := H1
                  clear H1
                  have H' := Aside0.mk H
                  clear H
                  go_wp2
                  repeat (go_quiet (fail); try go_wp2)
                  go_meet
                  case rel => exact ⟨_, (1), (([] : List (S29))), (false), (by first | rfl | (simp; done) | (simp [*]; done)), (by first | rfl | (simp; done) | (simp [*]; done)), H', ⟨by have := HK1.out; have := HJ12.out; have := HJ21.out; have := HJ39.out; have := HJ51.out; first | omega | exact Nat.le_refl _⟩, ⟨by (with_reducible repeat (first | apply Kd.R_alloc | apply Kd.R_drewN | apply Kd.R_drew)); exact HO_3.out⟩, ⟨by (with_reducible repeat (first | apply Kd.R_alloc | apply Kd.R_drewN | apply Kd.R_drew)); exact HO_12.out⟩, ⟨by (with_reducible repeat (first | apply Kd.R_alloc | apply Kd.R_drewN | apply Kd.R_drew)); exact HO_13.out⟩, ⟨by (with_reducible repeat (first | apply Kd.R_alloc | apply Kd.R_drewN | apply Kd.R_drew)); exact HO_16.out⟩, ⟨by (with_reducible repeat (first | refine blk_drewN ?_ _ | refine blk_drew ?_ | refine blk_alloc ?_ _)); exact BK249.out⟩, ⟨by (with_reducible repeat (first | refine blk_drewN ?_ _ | refine blk_drew ?_ | refine blk_alloc ?_ _)); exact BK256.out⟩, ⟨by repeat (first | (with_reducible first | exact HB.out | apply below_alloc | apply pw_below_drewN | apply below_drew1 | refine below_set ?_ GE249.out | refine below_set ?_ GE256.out) | exact HB.out)⟩⟩
                case rest =>
                 clear HC63
                 try clear c1
                 try clear c2
                 try clear p2
                 try clear q2
                 try clear hx2
                 try clear c3
                 try clear c4
                 try clear c5
                 try clear c6
                 try clear c14
                 try clear c14b0
                 try clear c17
                 try clear c18
                 try clear c18b0
                 try clear c19
                 try clear c19b0
                 try clear c25
                 try clear p25
                 try clear q25
                 try clear hx25
                 try clear p26
                 try clear q26
                 try clear hx26
                 try clear c31
                 try clear c33
                 try clear c33b0
                 try clear c34
                 try clear c34b0
                 try clear c35
                 try clear c35b0
                 try clear c36
                 try clear c38
                 try clear c43
                 try clear c43b0
                 try clear c43b1
                 try clear c43b2
                 try clear c46
                 try clear c46b0
                 try clear c46b1
                 try clear c49
                 try clear c54
                 try clear c58
                 try clear c60
                 try clear c64
                 try clear c66
                 try clear hcz11_0
                 try clear hcz11_1
                 try clear hcz11_2
                 try clear hcz15_0
                 try clear hcz15_1
                 try clear hcz15_2
                 try clear hcz16_0
                 try clear hcz16_1
                 try clear hcz16_2
                 try clear hcz23_0
                 try clear hcz23_1
                 try clear hcz23_2
                 try clear hcz26_0
                 try clear hcz26_1
                 try clear hcz26_2
                 try clear hcz29_0
                 try clear hcz29_1
                 try clear hcz29_2
                 try clear hcz37_0
                 try clear hcz37_1
                 try clear hcz37_2
                 try clear hcz39_0
                 try clear hcz39_1
                 try clear hcz39_2
                 try clear hcz55_0
                 try clear hcz55_1
                 try clear hcz55_2
                 try clear hcz5_0
                 try clear hcz5_1
                 try clear hcz5_2
                 try clear hcz61_0
                 try clear hcz61_1
                 try clear hcz61_2
                 try clear hcz67_0
                 try clear hcz67_1
                 try clear hcz67_2
                 try clear hcz9_0
                 try clear hcz9_1
                 try clear hcz9_2
                 try clear hfz11_0
                 try clear hfz11_1
                 try clear hfz11_2
                 try clear hfz15_0
                 try clear hfz15_1
                 try clear hfz15_2
                 try clear hfz16_0
                 try clear hfz16_1
                 try clear hfz16_2
                 try clear hfz23_0
                 try clear hfz23_1
                 try clear hfz23_2
                 try clear hfz26_0
                 try clear hfz26_1
                 try clear hfz26_2
                 try clear hfz29_0
                 try clear hfz29_1
                 try clear hfz29_2
                 try clear hfz37_0
                 try clear hfz37_1
                 try clear hfz37_2
                 try clear hfz39_0
                 try clear hfz39_1
                 try clear hfz39_2
                 try clear hfz55_0
                 try clear hfz55_1
                 try clear hfz55_2
                 try clear hfz5_0
                 try clear hfz5_1
                 try clear hfz5_2
                 try clear hfz61_0
                 try clear hfz61_1
                 try clear hfz61_2
                 try clear hfz67_0
                 try clear hfz67_1
                 try clear hfz67_2
                 try clear hfz9_0
                 try clear hfz9_1
                 try clear hfz9_2
                 try clear hx255_0
                 try clear hx255_1
                 try clear hx255_2
                 try clear hx261_0
                 try clear hx261_1
                 try clear hx261_2
                 try clear p2
                 try clear p25
                 try clear p255
                 try clear p26
                 try clear p261
                 try clear q2
                 try clear q25
                 try clear q255
                 try clear q26
                 try clear q261
                 obtain ⟨kq, x9_62, x16_62, x17_62, rfl, rfl, HA, HJ62, HO_3, HO_12, HO_13, HO_16, BK249, BK256, HB⟩ := hcut
                 cases kq with
                 | zero => exact absurd HA.out (by simp [fairwaylaw17_GroupCommits.j5])
                 | succ kj62 =>
                  have H := HA.out
                  clear HA
                  simp only [fairwaylaw17_GroupCommits.j5] at H
                  have HC69 := Aside0.mk H
                  clear H
                  go_upto_region 25 with (fail)
                  repeat (go_quiet (fail); go_upto_region 25 with (fail))
                  go_cut [123] (fun v123 wc => ∃ (kq : Nat) (x123_68 : Bool), v123 = .bool x123_68 ∧ Aside0 (fairwaylaw17_GroupCommits.j6 kq x3_1 x4_1 x9_62 t265 t268 x16_62 x123_68 l0_0 l0_1 l0_2 = some r) ∧ Aside0 (kq ≤ kj62) ∧ Aside0 (Kd.R k29 29 wc w.heap.size (fun k_ => some k_ ≠ ((.slice Ao56 t265.length co56) : Value).ownBlock ∧ some k_ ≠ (v269 : Value).ownBlock ∧ some k_ ≠ (u16 : Value).ownBlock ∧ k_ ≠ gb256) (.slice Ao27 x3_1.length co27) x3_1) ∧ Aside0 (Kd.R k29 29 wc w.heap.size (fun k_ => some k_ ≠ ((.slice Ao27 x3_1.length co27) : Value).ownBlock ∧ some k_ ≠ (v269 : Value).ownBlock ∧ some k_ ≠ (u16 : Value).ownBlock ∧ k_ ≠ gb256) (.slice Ao56 t265.length co56) t265) ∧ Aside0 (Kd.R k29 29 wc w.heap.size (fun k_ => some k_ ≠ ((.slice Ao27 x3_1.length co27) : Value).ownBlock ∧ some k_ ≠ ((.slice Ao56 t265.length co56) : Value).ownBlock ∧ some k_ ≠ (u16 : Value).ownBlock ∧ k_ ≠ gb256) v269 t268) ∧ Aside0 (Kd.R k29 29 wc w.heap.size (fun k_ => some k_ ≠ ((.slice Ao27 x3_1.length co27) : Value).ownBlock ∧ some k_ ≠ ((.slice Ao56 t265.length co56) : Value).ownBlock ∧ some k_ ≠ (v269 : Value).ownBlock ∧ k_ ≠ gb256) u16 x16_62) ∧ Aside0 (wc.heap[gb249]? = some (.cells #[(.slice A0_0 l0_0.length c0_0), (.slice (some ad255) l0_1.length c0_1), (.slice A0_2 l0_2.length c0_2)] 25 (0, 0))) ∧ Aside0 (wc.heap[gb256]? = some (.cells #[.string ((rd_T29 l0_1 x4_1).f0), .string ((rd_T29 l0_1 x4_1).f1), .int .i64 ((rd_T29 l0_1 x4_1).f2)] 29 (0, 0))) ∧ Aside0 (Below w.heap.size w wc))
                  case first =>
                   have H := HC69.out
                   clear HC69
                   replace H := Option.bind_eq_some_iff.mp H
                   obtain ⟨t279, A700, H⟩ := H
                   replace H : (if t279 = x9_62 then (if (t271 != x17_62) = true then (fairwaylaw17_GroupCommits.j6 kj62 x3_1 x4_1 x9_62 t265 t268 x16_62 true l0_0 l0_1 l0_2) else ((fairwayref0_EqGroups.f kj62 t268 x16_62).bind fun t280 => (if t280 = true then ((fairwayref0_EqGroups.f kj62 t265 x3_1).bind fun t281 => (fairwaylaw17_GroupCommits.j6 kj62 x3_1 x4_1 x9_62 t265 t268 x16_62 (!t281) l0_0 l0_1 l0_2)) else (fairwaylaw17_GroupCommits.j6 kj62 x3_1 x4_1 x9_62 t265 t268 x16_62 true l0_0 l0_1 l0_2)))) else (fairwaylaw17_GroupCommits.j6 kj62 x3_1 x4_1 x9_62 t265 t268 x16_62 true l0_0 l0_1 l0_2)) = some r := H
                   have A70 := Aside0.mk A700
                   clear A700
                   by_cases c71 : t279 = x9_62
                   ·rw [if_pos c71] at H
                    have c71b0 : (t279 == x9_62) = true := beq_iff_eq.mpr c71
                    have c71b1 : (t279 != x9_62) = false := bne_eq_false_iff_eq.mpr c71
                    clear c71
                    (first | rw [c71b0] | (simp only [i64_w, i32_w]; rw [c71b0]) | skip)
                    by_cases c72 : (t271 != x17_62) = true
                    ·rw [if_pos c72] at H
                     have c72b0 : (t271 != x17_62) = true := c72
                     (try (have c72b1 : decide (t271 = x17_62) = false := by simpa using c72))
                     (try (have c72b2 : (t271 == x17_62) = false := by simpa using c72))
                     (try (have c72b3 : ¬ (t271 = x17_62) := by simpa using c72))
                     clear c72
                     have H' := Aside0.mk H
                     clear H
                     go_wp2_with (first | (go_at_call 11; (with_reducible refine (fairwaylaw17_num.calls t272 t279 _ A70.out).mono ?_); rintro e w' ⟨rfl, ⟨nd, rfl⟩⟩; (try first | exact ⟨rfl, _, World.drewN_drewN _ _ _⟩ | exact ⟨rfl, _, Eq.trans (World.drewN_drewN _ _ _) (congrArg (World.drewN _) (Nat.add_assoc _ _ _))⟩)))
                     repeat (go_quiet (first | (go_at_call 11; (with_reducible refine (fairwaylaw17_num.calls t272 t279 _ A70.out).mono ?_); rintro e w' ⟨rfl, ⟨nd, rfl⟩⟩; (try first | exact ⟨rfl, _, World.drewN_drewN _ _ _⟩ | exact ⟨rfl, _, Eq.trans (World.drewN_drewN _ _ _) (congrArg (World.drewN _) (Nat.add_assoc _ _ _))⟩))); try go_wp2_with (first | (go_at_call 11; (with_reducible refine (fairwaylaw17_num.calls t272 t279 _ A70.out).mono ?_); rintro e w' ⟨rfl, ⟨nd, rfl⟩⟩; (try first | exact ⟨rfl, _, World.drewN_drewN _ _ _⟩ | exact ⟨rfl, _, Eq.trans (World.drewN_drewN _ _ _) (congrArg (World.drewN _) (Nat.add_assoc _ _ _))⟩))))
                     go_meet
                     case rel => exact ⟨_, (true), (by first | rfl | (simp; done) | (simp [*]; done)), H', ⟨by have := HK1.out; have := HJ12.out; have := HJ21.out; have := HJ39.out; have := HJ51.out; have := HJ62.out; first | omega | exact Nat.le_refl _⟩, ⟨by (with_reducible repeat (first | apply Kd.R_alloc | apply Kd.R_drewN | apply Kd.R_drew)); exact HO_3.out⟩, ⟨by (with_reducible repeat (first | apply Kd.R_alloc | apply Kd.R_drewN | apply Kd.R_drew)); exact HO_12.out⟩, ⟨by (with_reducible repeat (first | apply Kd.R_alloc | apply Kd.R_drewN | apply Kd.R_drew)); exact HO_13.out⟩, ⟨by (with_reducible repeat (first | apply Kd.R_alloc | apply Kd.R_drewN | apply Kd.R_drew)); exact HO_16.out⟩, ⟨by (with_reducible repeat (first | refine blk_drewN ?_ _ | refine blk_drew ?_ | refine blk_alloc ?_ _)); exact BK249.out⟩, ⟨by (with_reducible repeat (first | refine blk_drewN ?_ _ | refine blk_drew ?_ | refine blk_alloc ?_ _)); exact BK256.out⟩, ⟨by repeat (first | (with_reducible first | exact HB.out | apply below_alloc | apply pw_below_drewN | apply below_drew1 | refine below_set ?_ GE249.out | refine below_set ?_ GE256.out) | exact HB.out)⟩⟩
                    ·rw [if_neg c72] at H
                     have c72b0 : (t271 != x17_62) = false := by simpa using c72
                     (try (have c72b1 : decide (t271 = x17_62) = true := by simpa using c72))
                     (try (have c72b2 : (t271 == x17_62) = true := by simpa using c72))
                     clear c72
                     replace H := Option.bind_eq_some_iff.mp H
                     obtain ⟨t280, A730, H⟩ := H
                     replace H : (if t280 = true then ((fairwayref0_EqGroups.f kj62 t265 x3_1).bind fun t281 => (fairwaylaw17_GroupCommits.j6 kj62 x3_1 x4_1 x9_62 t265 t268 x16_62 (!t281) l0_0 l0_1 l0_2)) else (fairwaylaw17_GroupCommits.j6 kj62 x3_1 x4_1 x9_62 t265 t268 x16_62 true l0_0 l0_1 l0_2)) = some r := H
                     have A73 := Aside0.mk A730
                     clear A730
                     by_cases c74 : t280 = true
                     ·subst c74
                      have H1 : ((fairwayref0_EqGroups.f kj62 t265 x3_1).bind fun t281 => (fairwaylaw17_GroupCommits.j6 kj62 x3_1 x4_1 x9_62 t265 t268 x16_62 (!t281) l0_0 l0_1 l0_2)) = some r := by rw [if_pos rfl] at H; exact H
                      clear H
                      have H := H1
                      clear H1
                      replace H := Option.bind_eq_some_iff.mp H
                      obtain ⟨t281, A750, H⟩ := H
                      replace H : (fairwaylaw17_GroupCommits.j6 kj62 x3_1 x4_1 x9_62 t265 t268 x16_62 (!t281) l0_0 l0_1 l0_2) = some r := H
                      have A75 := Aside0.mk A750
                      clear A750
                      have H' := Aside0.mk H
                      clear H
                      go_wp2_with (first | (go_at_call 11; (with_reducible refine (fairwaylaw17_num.calls t272 t279 _ A70.out).mono ?_); rintro e w' ⟨rfl, ⟨nd, rfl⟩⟩; (try first | exact ⟨rfl, _, World.drewN_drewN _ _ _⟩ | exact ⟨rfl, _, Eq.trans (World.drewN_drewN _ _ _) (congrArg (World.drewN _) (Nat.add_assoc _ _ _))⟩); obtain ⟨Ao76, co76, eo76⟩ := Kd.R_slice HO_13.out; subst eo76; obtain ⟨Ao77, co77, eo77⟩ := Kd.R_slice HO_16.out; subst eo77) | (go_at_call 16; (with_reducible refine (fairwayref0_EqGroups.calls kj62 _ _ t268 _ _ x16_62 true _ ?side1 ?side2 ?side3 ?side4 A73.out).mono ?_); (case side1 => repeat (first | exact (Kd.R_reads' HO_13.out).2.2 | (with_reducible refine Kd.C_alloc ?_ _) | (with_reducible refine Kd.C_drewN ?_ _) | (with_reducible refine Kd.C_drew ?_))); (case side2 => exact (Kd.R_reads' HO_13.out).2.1); (case side3 => repeat (first | exact (Kd.R_reads' HO_16.out).2.2 | (with_reducible refine Kd.C_alloc ?_ _) | (with_reducible refine Kd.C_drewN ?_ _) | (with_reducible refine Kd.C_drew ?_))); (case side4 => exact (Kd.R_reads' HO_16.out).2.1); rintro e w' ⟨rfl, ⟨nd, rfl⟩⟩; (try first | exact ⟨rfl, _, World.drewN_drewN _ _ _⟩ | exact ⟨rfl, _, Eq.trans (World.drewN_drewN _ _ _) (congrArg (World.drewN _) (Nat.add_assoc _ _ _))⟩)) | (go_at_call 16; (with_reducible refine (fairwayref0_EqGroups.calls kj62 _ _ t265 _ _ x3_1 t281 _ ?side1 ?side2 ?side3 ?side4 A75.out).mono ?_); (case side1 => repeat (first | exact (Kd.R_reads' HO_12.out).2.2 | (with_reducible refine Kd.C_alloc ?_ _) | (with_reducible refine Kd.C_drewN ?_ _) | (with_reducible refine Kd.C_drew ?_))); (case side2 => exact (Kd.R_reads' HO_12.out).2.1); (case side3 => repeat (first | exact (Kd.R_reads' HO_3.out).2.2 | (with_reducible refine Kd.C_alloc ?_ _) | (with_reducible refine Kd.C_drewN ?_ _) | (with_reducible refine Kd.C_drew ?_))); (case side4 => exact (Kd.R_reads' HO_3.out).2.1); rintro e w' ⟨rfl, ⟨nd, rfl⟩⟩; (try first | exact ⟨rfl, _, World.drewN_drewN _ _ _⟩ | exact ⟨rfl, _, Eq.trans (World.drewN_drewN _ _ _) (congrArg (World.drewN _) (Nat.add_assoc _ _ _))⟩)))
                      repeat (go_quiet (first | (go_at_call 11; (with_reducible refine (fairwaylaw17_num.calls t272 t279 _ A70.out).mono ?_); rintro e w' ⟨rfl, ⟨nd, rfl⟩⟩; (try first | exact ⟨rfl, _, World.drewN_drewN _ _ _⟩ | exact ⟨rfl, _, Eq.trans (World.drewN_drewN _ _ _) (congrArg (World.drewN _) (Nat.add_assoc _ _ _))⟩); obtain ⟨Ao76, co76, eo76⟩ := Kd.R_slice HO_13.out; subst eo76; obtain ⟨Ao77, co77, eo77⟩ := Kd.R_slice HO_16.out; subst eo77) | (go_at_call 16; (with_reducible refine (fairwayref0_EqGroups.calls kj62 _ _ t268 _ _ x16_62 true _ ?side1 ?side2 ?side3 ?side4 A73.out).mono ?_); (case side1 => repeat (first | exact (Kd.R_reads' HO_13.out).2.2 | (with_reducible refine Kd.C_alloc ?_ _) | (with_reducible refine Kd.C_drewN ?_ _) | (with_reducible refine Kd.C_drew ?_))); (case side2 => exact (Kd.R_reads' HO_13.out).2.1); (case side3 => repeat (first | exact (Kd.R_reads' HO_16.out).2.2 | (with_reducible refine Kd.C_alloc ?_ _) | (with_reducible refine Kd.C_drewN ?_ _) | (with_reducible refine Kd.C_drew ?_))); (case side4 => exact (Kd.R_reads' HO_16.out).2.1); rintro e w' ⟨rfl, ⟨nd, rfl⟩⟩; (try first | exact ⟨rfl, _, World.drewN_drewN _ _ _⟩ | exact ⟨rfl, _, Eq.trans (World.drewN_drewN _ _ _) (congrArg (World.drewN _) (Nat.add_assoc _ _ _))⟩)) | (go_at_call 16; (with_reducible refine (fairwayref0_EqGroups.calls kj62 _ _ t265 _ _ x3_1 t281 _ ?side1 ?side2 ?side3 ?side4 A75.out).mono ?_); (case side1 => repeat (first | exact (Kd.R_reads' HO_12.out).2.2 | (with_reducible refine Kd.C_alloc ?_ _) | (with_reducible refine Kd.C_drewN ?_ _) | (with_reducible refine Kd.C_drew ?_))); (case side2 => exact (Kd.R_reads' HO_12.out).2.1); (case side3 => repeat (first | exact (Kd.R_reads' HO_3.out).2.2 | (with_reducible refine Kd.C_alloc ?_ _) | (with_reducible refine Kd.C_drewN ?_ _) | (with_reducible refine Kd.C_drew ?_))); (case side4 => exact (Kd.R_reads' HO_3.out).2.1); rintro e w' ⟨rfl, ⟨nd, rfl⟩⟩; (try first | exact ⟨rfl, _, World.drewN_drewN _ _ _⟩ | exact ⟨rfl, _, Eq.trans (World.drewN_drewN _ _ _) (congrArg (World.drewN _) (Nat.add_assoc _ _ _))⟩))); try go_wp2_with (first | (go_at_call 11; (with_reducible refine (fairwaylaw17_num.calls t272 t279 _ A70.out).mono ?_); rintro e w' ⟨rfl, ⟨nd, rfl⟩⟩; (try first | exact ⟨rfl, _, World.drewN_drewN _ _ _⟩ | exact ⟨rfl, _, Eq.trans (World.drewN_drewN _ _ _) (congrArg (World.drewN _) (Nat.add_assoc _ _ _))⟩); obtain ⟨Ao76, co76, eo76⟩ := Kd.R_slice HO_13.out; subst eo76; obtain ⟨Ao77, co77, eo77⟩ := Kd.R_slice HO_16.out; subst eo77) | (go_at_call 16; (with_reducible refine (fairwayref0_EqGroups.calls kj62 _ _ t268 _ _ x16_62 true _ ?side1 ?side2 ?side3 ?side4 A73.out).mono ?_); (case side1 => repeat (first | exact (Kd.R_reads' HO_13.out).2.2 | (with_reducible refine Kd.C_alloc ?_ _) | (with_reducible refine Kd.C_drewN ?_ _) | (with_reducible refine Kd.C_drew ?_))); (case side2 => exact (Kd.R_reads' HO_13.out).2.1); (case side3 => repeat (first | exact (Kd.R_reads' HO_16.out).2.2 | (with_reducible refine Kd.C_alloc ?_ _) | (with_reducible refine Kd.C_drewN ?_ _) | (with_reducible refine Kd.C_drew ?_))); (case side4 => exact (Kd.R_reads' HO_16.out).2.1); rintro e w' ⟨rfl, ⟨nd, rfl⟩⟩; (try first | exact ⟨rfl, _, World.drewN_drewN _ _ _⟩ | exact ⟨rfl, _, Eq.trans (World.drewN_drewN _ _ _) (congrArg (World.drewN _) (Nat.add_assoc _ _ _))⟩)) | (go_at_call 16; (with_reducible refine (fairwayref0_EqGroups.calls kj62 _ _ t265 _ _ x3_1 t281 _ ?side1 ?side2 ?side3 ?side4 A75.out).mono ?_); (case side1 => repeat (first | exact (Kd.R_reads' HO_12.out).2.2 | (with_reducible refine Kd.C_alloc ?_ _) | (with_reducible refine Kd.C_drewN ?_ _) | (with_reducible refine Kd.C_drew ?_))); (case side2 => exact (Kd.R_reads' HO_12.out).2.1); (case side3 => repeat (first | exact (Kd.R_reads' HO_3.out).2.2 | (with_reducible refine Kd.C_alloc ?_ _) | (with_reducible refine Kd.C_drewN ?_ _) | (with_reducible refine Kd.C_drew ?_))); (case side4 => exact (Kd.R_reads' HO_3.out).2.1); rintro e w' ⟨rfl, ⟨nd, rfl⟩⟩; (try first | exact ⟨rfl, _, World.drewN_drewN _ _ _⟩ | exact ⟨rfl, _, Eq.trans (World.drewN_drewN _ _ _) (congrArg (World.drewN _) (Nat.add_assoc _ _ _))⟩))))
                      go_meet
                      case rel => exact ⟨_, (!t281), (by first | rfl | (simp; done) | (simp [*]; done)), H', ⟨by have := HK1.out; have := HJ12.out; have := HJ21.out; have := HJ39.out; have := HJ51.out; have := HJ62.out; first | omega | exact Nat.le_refl _⟩, ⟨by (with_reducible repeat (first | apply Kd.R_alloc | apply Kd.R_drewN | apply Kd.R_drew)); exact HO_3.out⟩, ⟨by (with_reducible repeat (first | apply Kd.R_alloc | apply Kd.R_drewN | apply Kd.R_drew)); exact HO_12.out⟩, ⟨by (with_reducible repeat (first | apply Kd.R_alloc | apply Kd.R_drewN | apply Kd.R_drew)); exact HO_13.out⟩, ⟨by (with_reducible repeat (first | apply Kd.R_alloc | apply Kd.R_drewN | apply Kd.R_drew)); exact HO_16.out⟩, ⟨by (with_reducible repeat (first | refine blk_drewN ?_ _ | refine blk_drew ?_ | refine blk_alloc ?_ _)); exact BK249.out⟩, ⟨by (with_reducible repeat (first | refine blk_drewN ?_ _ | refine blk_drew ?_ | refine blk_alloc ?_ _)); exact BK256.out⟩, ⟨by repeat (first | (with_reducible first | exact HB.out | apply below_alloc | apply pw_below_drewN | apply below_drew1 | refine below_set ?_ GE249.out | refine below_set ?_ GE256.out) | exact HB.out)⟩⟩
                     ·replace c74 := Bool.eq_false_iff.mpr c74
                      subst c74
                      have H1 : (fairwaylaw17_GroupCommits.j6 kj62 x3_1 x4_1 x9_62 t265 t268 x16_62 true l0_0 l0_1 l0_2) = some r := by rw [if_neg (show ¬ (false = true) by decide)] at H; exact H
                      clear H
                      have H := H1
                      clear H1
                      have H' := Aside0.mk H
                      clear H
                      go_wp2_with (first | (go_at_call 11; (with_reducible refine (fairwaylaw17_num.calls t272 t279 _ A70.out).mono ?_); rintro e w' ⟨rfl, ⟨nd, rfl⟩⟩; (try first | exact ⟨rfl, _, World.drewN_drewN _ _ _⟩ | exact ⟨rfl, _, Eq.trans (World.drewN_drewN _ _ _) (congrArg (World.drewN _) (Nat.add_assoc _ _ _))⟩); obtain ⟨Ao78, co78, eo78⟩ := Kd.R_slice HO_13.out; subst eo78; obtain ⟨Ao79, co79, eo79⟩ := Kd.R_slice HO_16.out; subst eo79) | (go_at_call 16; (with_reducible refine (fairwayref0_EqGroups.calls kj62 _ _ t268 _ _ x16_62 false _ ?side1 ?side2 ?side3 ?side4 A73.out).mono ?_); (case side1 => repeat (first | exact (Kd.R_reads' HO_13.out).2.2 | (with_reducible refine Kd.C_alloc ?_ _) | (with_reducible refine Kd.C_drewN ?_ _) | (with_reducible refine Kd.C_drew ?_))); (case side2 => exact (Kd.R_reads' HO_13.out).2.1); (case side3 => repeat (first | exact (Kd.R_reads' HO_16.out).2.2 | (with_reducible refine Kd.C_alloc ?_ _) | (with_reducible refine Kd.C_drewN ?_ _) | (with_reducible refine Kd.C_drew ?_))); (case side4 => exact (Kd.R_reads' HO_16.out).2.1); rintro e w' ⟨rfl, ⟨nd, rfl⟩⟩; (try first | exact ⟨rfl, _, World.drewN_drewN _ _ _⟩ | exact ⟨rfl, _, Eq.trans (World.drewN_drewN _ _ _) (congrArg (World.drewN _) (Nat.add_assoc _ _ _))⟩)))
                      repeat (go_quiet (first | (go_at_call 11; (with_reducible refine (fairwaylaw17_num.calls t272 t279 _ A70.out).mono ?_); rintro e w' ⟨rfl, ⟨nd, rfl⟩⟩; (try first | exact ⟨rfl, _, World.drewN_drewN _ _ _⟩ | exact ⟨rfl, _, Eq.trans (World.drewN_drewN _ _ _) (congrArg (World.drewN _) (Nat.add_assoc _ _ _))⟩); obtain ⟨Ao78, co78, eo78⟩ := Kd.R_slice HO_13.out; subst eo78; obtain ⟨Ao79, co79, eo79⟩ := Kd.R_slice HO_16.out; subst eo79) | (go_at_call 16; (with_reducible refine (fairwayref0_EqGroups.calls kj62 _ _ t268 _ _ x16_62 false _ ?side1 ?side2 ?side3 ?side4 A73.out).mono ?_); (case side1 => repeat (first | exact (Kd.R_reads' HO_13.out).2.2 | (with_reducible refine Kd.C_alloc ?_ _) | (with_reducible refine Kd.C_drewN ?_ _) | (with_reducible refine Kd.C_drew ?_))); (case side2 => exact (Kd.R_reads' HO_13.out).2.1); (case side3 => repeat (first | exact (Kd.R_reads' HO_16.out).2.2 | (with_reducible refine Kd.C_alloc ?_ _) | (with_reducible refine Kd.C_drewN ?_ _) | (with_reducible refine Kd.C_drew ?_))); (case side4 => exact (Kd.R_reads' HO_16.out).2.1); rintro e w' ⟨rfl, ⟨nd, rfl⟩⟩; (try first | exact ⟨rfl, _, World.drewN_drewN _ _ _⟩ | exact ⟨rfl, _, Eq.trans (World.drewN_drewN _ _ _) (congrArg (World.drewN _) (Nat.add_assoc _ _ _))⟩))); try go_wp2_with (first | (go_at_call 11; (with_reducible refine (fairwaylaw17_num.calls t272 t279 _ A70.out).mono ?_); rintro e w' ⟨rfl, ⟨nd, rfl⟩⟩; (try first | exact ⟨rfl, _, World.drewN_drewN _ _ _⟩ | exact ⟨rfl, _, Eq.trans (World.drewN_drewN _ _ _) (congrArg (World.drewN _) (Nat.add_assoc _ _ _))⟩); obtain ⟨Ao78, co78, eo78⟩ := Kd.R_slice HO_13.out; subst eo78; obtain ⟨Ao79, co79, eo79⟩ := Kd.R_slice HO_16.out; subst eo79) | (go_at_call 16; (with_reducible refine (fairwayref0_EqGroups.calls kj62 _ _ t268 _ _ x16_62 false _ ?side1 ?side2 ?side3 ?side4 A73.out).mono ?_); (case side1 => repeat (first | exact (Kd.R_reads' HO_13.out).2.2 | (with_reducible refine Kd.C_alloc ?_ _) | (with_reducible refine Kd.C_drewN ?_ _) | (with_reducible refine Kd.C_drew ?_))); (case side2 => exact (Kd.R_reads' HO_13.out).2.1); (case side3 => repeat (first | exact (Kd.R_reads' HO_16.out).2.2 | (with_reducible refine Kd.C_alloc ?_ _) | (with_reducible refine Kd.C_drewN ?_ _) | (with_reducible refine Kd.C_drew ?_))); (case side4 => exact (Kd.R_reads' HO_16.out).2.1); rintro e w' ⟨rfl, ⟨nd, rfl⟩⟩; (try first | exact ⟨rfl, _, World.drewN_drewN _ _ _⟩ | exact ⟨rfl, _, Eq.trans (World.drewN_drewN _ _ _) (congrArg (World.drewN _) (Nat.add_assoc _ _ _))⟩))))
                      go_meet
                      case rel => exact ⟨_, (true), (by first | rfl | (simp; done) | (simp [*]; done)), H', ⟨by have := HK1.out; have := HJ12.out; have := HJ21.out; have := HJ39.out; have := HJ51.out; have := HJ62.out; first | omega | exact Nat.le_refl _⟩, ⟨by (with_reducible repeat (first | apply Kd.R_alloc | apply Kd.R_drewN | apply Kd.R_drew)); exact HO_3.out⟩, ⟨by (with_reducible repeat (first | apply Kd.R_alloc | apply Kd.R_drewN | apply Kd.R_drew)); exact HO_12.out⟩, ⟨by (with_reducible repeat (first | apply Kd.R_alloc | apply Kd.R_drewN | apply Kd.R_drew)); exact HO_13.out⟩, ⟨by (with_reducible repeat (first | apply Kd.R_alloc | apply Kd.R_drewN | apply Kd.R_drew)); exact HO_16.out⟩, ⟨by (with_reducible repeat (first | refine blk_drewN ?_ _ | refine blk_drew ?_ | refine blk_alloc ?_ _)); exact BK249.out⟩, ⟨by (with_reducible repeat (first | refine blk_drewN ?_ _ | refine blk_drew ?_ | refine blk_alloc ?_ _)); exact BK256.out⟩, ⟨by repeat (first | (with_reducible first | exact HB.out | apply below_alloc | apply pw_below_drewN | apply below_drew1 | refine below_set ?_ GE249.out | refine below_set ?_ GE256.out) | exact HB.out)⟩⟩
                   ·rw [if_neg c71] at H
                    have c71b0 : (t279 == x9_62) = false := beq_eq_false_iff_ne.mpr c71
                    have c71b1 : (t279 != x9_62) = true := bne_iff_ne.mpr c71
                    (first | rw [c71b0] | (simp only [i64_w, i32_w]; rw [c71b0]) | skip)
                    have H' := Aside0.mk H
                    clear H
                    go_wp2_with (first | (go_at_call 11; (with_reducible refine (fairwaylaw17_num.calls t272 t279 _ A70.out).mono ?_); rintro e w' ⟨rfl, ⟨nd, rfl⟩⟩; (try first | exact ⟨rfl, _, World.drewN_drewN _ _ _⟩ | exact ⟨rfl, _, Eq.trans (World.drewN_drewN _ _ _) (congrArg (World.drewN _) (Nat.add_assoc _ _ _))⟩)))
                    repeat (go_quiet (first | (go_at_call 11; (with_reducible refine (fairwaylaw17_num.calls t272 t279 _ A70.out).mono ?_); rintro e w' ⟨rfl, ⟨nd, rfl⟩⟩; (try first | exact ⟨rfl, _, World.drewN_drewN _ _ _⟩ | exact ⟨rfl, _, Eq.trans (World.drewN_drewN _ _ _) (congrArg (World.drewN _) (Nat.add_assoc _ _ _))⟩))); try go_wp2_with (first | (go_at_call 11; (with_reducible refine (fairwaylaw17_num.calls t272 t279 _ A70.out).mono ?_); rintro e w' ⟨rfl, ⟨nd, rfl⟩⟩; (try first | exact ⟨rfl, _, World.drewN_drewN _ _ _⟩ | exact ⟨rfl, _, Eq.trans (World.drewN_drewN _ _ _) (congrArg (World.drewN _) (Nat.add_assoc _ _ _))⟩))))
                    go_meet
                    case rel => exact ⟨_, (true), (by first | rfl | (simp; done) | (simp [*]; done)), H', ⟨by have := HK1.out; have := HJ12.out; have := HJ21.out; have := HJ39.out; have := HJ51.out; have := HJ62.out; first | omega | exact Nat.le_refl _⟩, ⟨by (with_reducible repeat (first | apply Kd.R_alloc | apply Kd.R_drewN | apply Kd.R_drew)); exact HO_3.out⟩, ⟨by (with_reducible repeat (first | apply Kd.R_alloc | apply Kd.R_drewN | apply Kd.R_drew)); exact HO_12.out⟩, ⟨by (with_reducible repeat (first | apply Kd.R_alloc | apply Kd.R_drewN | apply Kd.R_drew)); exact HO_13.out⟩, ⟨by (with_reducible repeat (first | apply Kd.R_alloc | apply Kd.R_drewN | apply Kd.R_drew)); exact HO_16.out⟩, ⟨by (with_reducible repeat (first | refine blk_drewN ?_ _ | refine blk_drew ?_ | refine blk_alloc ?_ _)); exact BK249.out⟩, ⟨by (with_reducible repeat (first | refine blk_drewN ?_ _ | refine blk_drew ?_ | refine blk_alloc ?_ _)); exact BK256.out⟩, ⟨by repeat (first | (with_reducible first | exact HB.out | apply below_alloc | apply pw_below_drewN | apply below_drew1 | refine below_set ?_ GE249.out | refine below_set ?_ GE256.out) | exact HB.out)⟩⟩
                  case rest =>
                   clear HC69
                   try clear c1
                   try clear c2
                   try clear p2
                   try clear q2
                   try clear hx2
                   try clear c3
                   try clear c4
                   try clear c5
                   try clear c6
                   try clear c7
                   try clear c14
                   try clear c14b0
                   try clear c17
                   try clear c18
                   try clear c18b0
                   try clear c19
                   try clear c19b0
                   try clear c25
                   try clear p25
                   try clear q25
                   try clear hx25
                   try clear p26
                   try clear q26
                   try clear hx26
                   try clear c31
                   try clear c33
                   try clear c33b0
                   try clear c34
                   try clear c34b0
                   try clear c35
                   try clear c35b0
                   try clear c36
                   try clear c38
                   try clear c43
                   try clear c43b0
                   try clear c43b1
                   try clear c43b2
                   try clear c46
                   try clear c46b0
                   try clear c46b1
                   try clear c49
                   try clear c54
                   try clear c58
                   try clear c60
                   try clear c64
                   try clear c66
                   try clear c71
                   try clear c71b0
                   try clear c71b1
                   try clear c72
                   try clear c72b0
                   try clear c72b1
                   try clear c72b2
                   try clear c74
                   try clear hcz11_0
                   try clear hcz11_1
                   try clear hcz11_2
                   try clear hcz15_0
                   try clear hcz15_1
                   try clear hcz15_2
                   try clear hcz16_0
                   try clear hcz16_1
                   try clear hcz16_2
                   try clear hcz23_0
                   try clear hcz23_1
                   try clear hcz23_2
                   try clear hcz26_0
                   try clear hcz26_1
                   try clear hcz26_2
                   try clear hcz29_0
                   try clear hcz29_1
                   try clear hcz29_2
                   try clear hcz37_0
                   try clear hcz37_1
                   try clear hcz37_2
                   try clear hcz39_0
                   try clear hcz39_1
                   try clear hcz39_2
                   try clear hcz55_0
                   try clear hcz55_1
                   try clear hcz55_2
                   try clear hcz5_0
                   try clear hcz5_1
                   try clear hcz5_2
                   try clear hcz61_0
                   try clear hcz61_1
                   try clear hcz61_2
                   try clear hcz67_0
                   try clear hcz67_1
                   try clear hcz67_2
                   try clear hcz9_0
                   try clear hcz9_1
                   try clear hcz9_2
                   try clear hfz11_0
                   try clear hfz11_1
                   try clear hfz11_2
                   try clear hfz15_0
                   try clear hfz15_1
                   try clear hfz15_2
                   try clear hfz16_0
                   try clear hfz16_1
                   try clear hfz16_2
                   try clear hfz23_0
                   try clear hfz23_1
                   try clear hfz23_2
                   try clear hfz26_0
                   try clear hfz26_1
                   try clear hfz26_2
                   try clear hfz29_0
                   try clear hfz29_1
                   try clear hfz29_2
                   try clear hfz37_0
                   try clear hfz37_1
                   try clear hfz37_2
                   try clear hfz39_0
                   try clear hfz39_1
                   try clear hfz39_2
                   try clear hfz55_0
                   try clear hfz55_1
                   try clear hfz55_2
                   try clear hfz5_0
                   try clear hfz5_1
                   try clear hfz5_2
                   try clear hfz61_0
                   try clear hfz61_1
                   try clear hfz61_2
                   try clear hfz67_0
                   try clear hfz67_1
                   try clear hfz67_2
                   try clear hfz9_0
                   try clear hfz9_1
                   try clear hfz9_2
                   try clear hx255_0
                   try clear hx255_1
                   try clear hx255_2
                   try clear hx261_0
                   try clear hx261_1
                   try clear hx261_2
                   try clear p2
                   try clear p25
                   try clear p255
                   try clear p26
                   try clear p261
                   try clear q2
                   try clear q25
                   try clear q255
                   try clear q26
                   try clear q261
                   obtain ⟨kq, x123_68, rfl, HA, HJ68, HO_3, HO_12, HO_13, HO_16, BK249, BK256, HB⟩ := hcut
                   cases kq with
                   | zero => exact absurd HA.out (by simp [fairwaylaw17_GroupCommits.j6])
                   | succ kj68 =>
                    have H := HA.out
                    clear HA
                    simp only [fairwaylaw17_GroupCommits.j6] at H
                    by_cases c80 : x123_68 = true
                    ·subst c80
                     have H1 : (some false) = some r := by rw [if_pos rfl] at H; exact H
                     clear H
                     have H := H1
                     clear H1
                     obtain rfl := Option.some.inj H
                     go_wp2
                     repeat (go_quiet (fail); try go_wp2)
                     go_ret
                     exact ⟨by first | rfl | (simp [errW_none, errW_some] <;> rfl) | (simp [*, errW_none, errW_some] <;> rfl), by repeat (first | (with_reducible first | exact HB.out | apply below_alloc | apply pw_below_drewN | apply below_drew1 | refine below_set ?_ GE249.out | refine below_set ?_ GE256.out) | exact HB.out)⟩
                    ·replace c80 := Bool.eq_false_iff.mpr c80
                     subst c80
                     have H1 : (fairwaylaw17_GroupCommits.l1 kj68 x3_1 x4_1 x9_62 t265 t268 x16_62 0 l0_0 l0_1 l0_2) = some r := by rw [if_neg (show ¬ (false = true) by decide)] at H; exact H
                     clear H
                     have H := H1
                     clear H1
                     have H' := Aside0.mk H
                     clear H
                     go_wp2
                     repeat (go_quiet (fail); try go_wp2)
                     go_loopg [18] kj68 (fun kq v18 w' => ∃ (x13_8 : List (S29)) (x18_8 : Int) (x257002_8 : Int), v18 = .int .i64 x18_8 ∧ Aside0 (fairwaylaw17_GroupCommits.l1 kq x3_1 x4_1 x9_62 t265 x13_8 x16_62 x18_8 l0_0 l0_1 l0_2 = some r) ∧ Aside0 (kq ≤ kj68) ∧ Aside0 (Kd.R k29 29 w' w.heap.size (fun k_ => some k_ ≠ ((.slice Ao56 t265.length co56) : Value).ownBlock ∧ some k_ ≠ (v269 : Value).ownBlock ∧ some k_ ≠ (u16 : Value).ownBlock ∧ k_ ≠ gb256) (.slice Ao27 x3_1.length co27) x3_1) ∧ Aside0 (Kd.R k29 29 w' w.heap.size (fun k_ => some k_ ≠ ((.slice Ao27 x3_1.length co27) : Value).ownBlock ∧ some k_ ≠ (v269 : Value).ownBlock ∧ some k_ ≠ (u16 : Value).ownBlock ∧ k_ ≠ gb256) (.slice Ao56 t265.length co56) t265) ∧ Aside0 (Kd.R k29 29 w' w.heap.size (fun k_ => some k_ ≠ ((.slice Ao27 x3_1.length co27) : Value).ownBlock ∧ some k_ ≠ ((.slice Ao56 t265.length co56) : Value).ownBlock ∧ some k_ ≠ (u16 : Value).ownBlock ∧ k_ ≠ gb256) v269 x13_8) ∧ Aside0 (Kd.R k29 29 w' w.heap.size (fun k_ => some k_ ≠ ((.slice Ao27 x3_1.length co27) : Value).ownBlock ∧ some k_ ≠ ((.slice Ao56 t265.length co56) : Value).ownBlock ∧ some k_ ≠ (v269 : Value).ownBlock ∧ k_ ≠ gb256) u16 x16_62) ∧ Aside0 (w'.heap[gb249]? = some (.cells #[(.slice A0_0 l0_0.length c0_0), (.slice (some ad255) l0_1.length c0_1), (.slice A0_2 l0_2.length c0_2)] 25 (0, 0))) ∧ Aside0 (w'.heap[gb256]? = some (.cells #[.string ((rd_T29 l0_1 x4_1).f0), .string ((rd_T29 l0_1 x4_1).f1), .int .i64 x257002_8] 29 (0, 0))) ∧ Aside0 (Below w.heap.size w w'))
                     case atStart => exact ⟨(t268), (0), (((rd_T29 l0_1 x4_1).f2)), (by first | rfl | (simp; done) | (simp [*]; done)), H', ⟨Nat.le_refl _⟩, ⟨by (with_reducible repeat (first | apply Kd.R_alloc | apply Kd.R_drewN | apply Kd.R_drew)); exact HO_3.out⟩, ⟨by (with_reducible repeat (first | apply Kd.R_alloc | apply Kd.R_drewN | apply Kd.R_drew)); exact HO_12.out⟩, ⟨by (with_reducible repeat (first | apply Kd.R_alloc | apply Kd.R_drewN | apply Kd.R_drew)); exact HO_13.out⟩, ⟨by (with_reducible repeat (first | apply Kd.R_alloc | apply Kd.R_drewN | apply Kd.R_drew)); exact HO_16.out⟩, ⟨by (with_reducible repeat (first | refine blk_drewN ?_ _ | refine blk_drew ?_ | refine blk_alloc ?_ _)); exact BK249.out⟩, ⟨by (with_reducible repeat (first | refine blk_drewN ?_ _ | refine blk_drew ?_ | refine blk_alloc ?_ _)); exact BK256.out⟩, ⟨by repeat (first | (with_reducible first | exact HB.out | apply below_alloc | apply pw_below_drewN | apply below_drew1 | refine below_set ?_ GE249.out | refine below_set ?_ GE256.out) | exact HB.out)⟩⟩
                     case round =>
                      clear H'
                      try clear c1
                      try clear c2
                      try clear p2
                      try clear q2
                      try clear hx2
                      try clear c3
                      try clear c4
                      try clear c5
                      try clear c6
                      try clear c7
                      try clear c8
                      try clear c14
                      try clear c14b0
                      try clear c17
                      try clear c18
                      try clear c18b0
                      try clear c19
                      try clear c19b0
                      try clear c25
                      try clear p25
                      try clear q25
                      try clear hx25
                      try clear p26
                      try clear q26
                      try clear hx26
                      try clear c31
                      try clear c33
                      try clear c33b0
                      try clear c34
                      try clear c34b0
                      try clear c35
                      try clear c35b0
                      try clear c36
                      try clear c38
                      try clear c43
                      try clear c43b0
                      try clear c43b1
                      try clear c43b2
                      try clear c46
                      try clear c46b0
                      try clear c46b1
                      try clear c49
                      try clear c54
                      try clear c58
                      try clear c60
                      try clear c64
                      try clear c66
                      try clear c71
                      try clear c71b0
                      try clear c71b1
                      try clear c72
                      try clear c72b0
                      try clear c72b1
                      try clear c72b2
                      try clear c74
                      try clear c80
                      try clear hcz11_0
                      try clear hcz11_1
                      try clear hcz11_2
                      try clear hcz15_0
                      try clear hcz15_1
                      try clear hcz15_2
                      try clear hcz16_0
                      try clear hcz16_1
                      try clear hcz16_2
                      try clear hcz23_0
                      try clear hcz23_1
                      try clear hcz23_2
                      try clear hcz26_0
                      try clear hcz26_1
                      try clear hcz26_2
                      try clear hcz29_0
                      try clear hcz29_1
                      try clear hcz29_2
                      try clear hcz37_0
                      try clear hcz37_1
                      try clear hcz37_2
                      try clear hcz39_0
                      try clear hcz39_1
                      try clear hcz39_2
                      try clear hcz55_0
                      try clear hcz55_1
                      try clear hcz55_2
                      try clear hcz5_0
                      try clear hcz5_1
                      try clear hcz5_2
                      try clear hcz61_0
                      try clear hcz61_1
                      try clear hcz61_2
                      try clear hcz67_0
                      try clear hcz67_1
                      try clear hcz67_2
                      try clear hcz9_0
                      try clear hcz9_1
                      try clear hcz9_2
                      try clear hfz11_0
                      try clear hfz11_1
                      try clear hfz11_2
                      try clear hfz15_0
                      try clear hfz15_1
                      try clear hfz15_2
                      try clear hfz16_0
                      try clear hfz16_1
                      try clear hfz16_2
                      try clear hfz23_0
                      try clear hfz23_1
                      try clear hfz23_2
                      try clear hfz26_0
                      try clear hfz26_1
                      try clear hfz26_2
                      try clear hfz29_0
                      try clear hfz29_1
                      try clear hfz29_2
                      try clear hfz37_0
                      try clear hfz37_1
                      try clear hfz37_2
                      try clear hfz39_0
                      try clear hfz39_1
                      try clear hfz39_2
                      try clear hfz55_0
                      try clear hfz55_1
                      try clear hfz55_2
                      try clear hfz5_0
                      try clear hfz5_1
                      try clear hfz5_2
                      try clear hfz61_0
                      try clear hfz61_1
                      try clear hfz61_2
                      try clear hfz67_0
                      try clear hfz67_1
                      try clear hfz67_2
                      try clear hfz9_0
                      try clear hfz9_1
                      try clear hfz9_2
                      try clear hx255_0
                      try clear hx255_1
                      try clear hx255_2
                      try clear hx261_0
                      try clear hx261_1
                      try clear hx261_2
                      try clear p2
                      try clear p25
                      try clear p255
                      try clear p26
                      try clear p261
                      try clear q2
                      try clear q25
                      try clear q255
                      try clear q26
                      try clear q261
                      obtain ⟨x13_8, x18_8, x257002_8, rfl, HA, HK8, HO_3, HO_12, HO_13, HO_16, BK249, BK256, HB⟩ := hrel
                      cases gk with
                      | zero => exact absurd HA.out (by simp [fairwaylaw17_GroupCommits.l1])
                      | succ k8 =>
                       have H := HA.out
                       clear HA
                       simp only [fairwaylaw17_GroupCommits.l1] at H
                       by_cases c81 : x18_8 < (x13_8.length : Int)
                       ·rw [if_pos c81] at H
                        have c81b0 : decide (x18_8 < (x13_8.length : Int)) = true := decide_eq_true c81
                        clear c81
                        by_cases c82 : 0 ≤ x18_8
                        ·rw [if_pos c82] at H
                         have c82b0 : decide (0 ≤ x18_8) = true := decide_eq_true c82
                         clear c82
                         obtain ⟨y282, hy282⟩ : ∃ y_ : List (S29), y_ = (x13_8.set (x18_8 : Int).toNat (⟨(rd_T29 x13_8 x18_8).f0, (rd_T29 x13_8 x18_8).f1, (-5)⟩ : S29)) := ⟨_, rfl⟩
                         replace H : (fairwaylaw17_GroupCommits.l1 k8 x3_1 x4_1 x9_62 t265 y282 x16_62 (wrap64 (x18_8 + 1)) l0_0 l0_1 l0_2) = some r := by first | (rw [hy282]; with_reducible exact H) | (have H2_ := (Option.bind_some _ _).symm.trans H; rw [hy282]; with_reducible exact H2_) | (have H2_ := (Option.bind_some _ _).symm.trans H; with_reducible exact H2_) | with_reducible exact H | (rw [hy282]; exact H) | exact H
                         have Ny282 := Aside0.mk hy282
                         clear hy282
                         have H' := Aside0.mk H
                         clear H
                         obtain ⟨Ao84, co84, eo84⟩ := Kd.R_slice HO_13.out
                         subst eo84
                         have p83 : 0 ≤ (x18_8 : Int) := of_decide_eq_true (by first | (with_reducible assumption) | assumption)
                         have q83 : (x18_8 : Int) < ((x13_8.length : Int) : Int) := of_decide_eq_true (by first | (with_reducible assumption) | assumption)
                         obtain ⟨go83, co83, eo83, gb83, gl83, cl83, HG83⟩ := Kd.R_form HO_13.out (by omega)
                         (first | cases eo83 | (injection eo83 with ea_ en_ ec_; (first | subst ea_ | (injection ea_ with ea_; subst ea_)); subst ec_; clear en_))
                         have GB83 := Aside0.mk gb83
                         have GG83 := Aside0.mk HG83
                         clear gb83 gl83 HG83
                         obtain ⟨ce83, hcl83, hM83, hcc83, hfr83⟩ := Kd.R_elem HO_13.out z29 (x18_8 : Int) p83 q83
                         obtain rfl := k29_openM hM83
                         have hx83_0 : wr.cell? ⟨go83, (x18_8 : Int).toNat * 3, none⟩ = some (.string ((rd_T29 x13_8 x18_8).f0)) := hcc83 0 _ rfl
                         have hx83_1 : wr.cell? ⟨go83, (x18_8 : Int).toNat * 3 + 1, none⟩ = some (.string ((rd_T29 x13_8 x18_8).f1)) := hcc83 1 _ rfl
                         have hx83_2 : wr.cell? ⟨go83, (x18_8 : Int).toNat * 3 + 2, none⟩ = some (.int .i64 ((rd_T29 x13_8 x18_8).f2)) := hcc83 2 _ rfl
                         have hf83_0 : wr.frozen? ⟨go83, (x18_8 : Int).toNat * 3, none⟩ = false := hfr83 0
                         have hf83_1 : wr.frozen? ⟨go83, (x18_8 : Int).toNat * 3 + 1, none⟩ = false := hfr83 1
                         have hf83_2 : wr.frozen? ⟨go83, (x18_8 : Int).toNat * 3 + 2, none⟩ = false := hfr83 2
                         clear hcl83 hcc83 hfr83 hM83
                         replace p83 := eq_true p83
                         replace q83 := eq_true q83
                         have HX85 := Aside0.mk (show Kd.R k29 29 wr w.heap.size (fun k_ => some k_ ≠ (.slice Ao27 x3_1.length co27 : Value).ownBlock ∧ some k_ ≠ (.slice Ao56 t265.length co56 : Value).ownBlock ∧ some k_ ≠ (u16 : Value).ownBlock ∧ k_ ≠ gb256) (.slice (some ⟨go83, 0, none⟩) x13_8.length co84) x13_8 from (by (with_reducible repeat (first | apply Kd.R_alloc | apply Kd.R_drewN | apply Kd.R_drew)); exact HO_13.out))
                         obtain ⟨ce85, hcl85, hM85, hcc85, hfr85⟩ := Kd.R_elem HX85.out z29 (x18_8 : Int) (of_decide_eq_true (by first | (with_reducible assumption) | assumption)) (by have h_ : (x18_8 : Int) < ((x13_8.length : Int) : Int) := of_decide_eq_true (by first | (with_reducible assumption) | assumption); first | exact h_ | (have e_ := (Kd.R_reads' HO_13.out).1; omega) | simpa using h_)
                         obtain rfl := k29_openM hM85
                         have HP85 := Kd.R_seg HX85.out (x18_8 : Int) (of_decide_eq_true (by first | (with_reducible assumption) | assumption)) (by have h_ : (x18_8 : Int) < ((x13_8.length : Int) : Int) := of_decide_eq_true (by first | (with_reducible assumption) | assumption); first | exact h_ | (have e_ := (Kd.R_reads' HO_13.out).1; omega) | simpa using h_) (seg := [.int .i64 (-5)]) (j := 2) hcl85 hcc85 (show 3 ≤ 3 from by decide) (x' := (⟨(rd_T29 x13_8 x18_8).f0, (rd_T29 x13_8 x18_8).f1, (-5)⟩ : S29)) (k29_mkM _ _ _ (⟨(rd_T29 x13_8 x18_8).f0, (rd_T29 x13_8 x18_8).f1, (-5)⟩ : S29) ) (fun _ hk => hk)
                         have hx85_2 := hcc85 2 _ rfl
                         (try simp only [show (k29).sz = 3 from rfl, Nat.mul_one, Nat.add_zero] at hx85_2)
                         have hf85_2 := hfr85 2
                         (try simp only [show (k29).sz = 3 from rfl, Nat.mul_one, Nat.add_zero] at hf85_2)
                         clear hcl85 hcc85 hfr85 hM85
                         go_wp2_with (first | ((with_reducible refine gate_store (t := 3) (p := 133) rfl ?_); (try (rw [drewN_self wr]; generalize hq_ : World.drewN wr _ = wr; have n0_ := Aside0.mk (Kd.R_at hq_ HO_3.out); have n1_ := Aside0.mk (Kd.R_at hq_ HO_12.out); have n2_ := Aside0.mk (Kd.R_at hq_ HO_13.out); have n3_ := Aside0.mk (Kd.R_at hq_ HO_16.out); have n4_ := Aside0.mk (blk_at hq_ BK249.out); have n5_ := Aside0.mk (blk_at hq_ BK256.out); have n6_ := Aside0.mk (below_at hq_ HB.out); clear hq_ HO_3 HO_12 HO_13 HO_16 BK249 BK256 HB; have HO_3 := n0_; have HO_12 := n1_; have HO_13 := n2_; have HO_16 := n3_; have BK249 := n4_; have BK256 := n5_; have HB := n6_; clear n0_ n1_ n2_ n3_ n4_ n5_ n6_; (try (have HX85 := Aside0.mk (show Kd.R k29 29 wr w.heap.size (fun k_ => some k_ ≠ (.slice Ao27 x3_1.length co27 : Value).ownBlock ∧ some k_ ≠ (.slice Ao56 t265.length co56 : Value).ownBlock ∧ some k_ ≠ (u16 : Value).ownBlock ∧ k_ ≠ gb256) (.slice (some ⟨go83, 0, none⟩) x13_8.length co84) x13_8 from (by (with_reducible repeat (first | apply Kd.R_alloc | apply Kd.R_drewN | apply Kd.R_drew)); exact HO_13.out)))); (try (obtain ⟨ce85, hcl85, hM85, hcc85, hfr85⟩ := Kd.R_elem HX85.out z29 (x18_8 : Int) (of_decide_eq_true (by first | (with_reducible assumption) | assumption)) (by have h_ : (x18_8 : Int) < ((x13_8.length : Int) : Int) := of_decide_eq_true (by first | (with_reducible assumption) | assumption); first | exact h_ | (have e_ := (Kd.R_reads' HO_13.out).1; omega) | simpa using h_))); (try (obtain rfl := k29_openM hM85)); (try (have HP85 := Kd.R_seg HX85.out (x18_8 : Int) (of_decide_eq_true (by first | (with_reducible assumption) | assumption)) (by have h_ : (x18_8 : Int) < ((x13_8.length : Int) : Int) := of_decide_eq_true (by first | (with_reducible assumption) | assumption); first | exact h_ | (have e_ := (Kd.R_reads' HO_13.out).1; omega) | simpa using h_) (seg := [.int .i64 (-5)]) (j := 2) hcl85 hcc85 (show 3 ≤ 3 from by decide) (x' := (⟨(rd_T29 x13_8 x18_8).f0, (rd_T29 x13_8 x18_8).f1, (-5)⟩ : S29)) (k29_mkM _ _ _ (⟨(rd_T29 x13_8 x18_8).f0, (rd_T29 x13_8 x18_8).f1, (-5)⟩ : S29) ) (fun _ hk => hk))); (try (have hx85_2 := hcc85 2 _ rfl)); (try (try simp only [show (k29).sz = 3 from rfl, Nat.mul_one, Nat.add_zero] at hx85_2)); (try (have hf85_2 := hfr85 2)); (try (try simp only [show (k29).sz = 3 from rfl, Nat.mul_one, Nat.add_zero] at hf85_2)); (try (clear hcl85 hcc85 hfr85 hM85)))); refine store_event (t := 3) (p := 133) (v := ?vo_w86) (w1 := (wr.setCell ⟨go83, (x18_8 : Int).toNat * 3 + 2, none⟩ (.int .i64 (-5)))) ?hg ?ho ?hn ?hr ?_; (case ho => rfl); (case hg => rfl); (case hn => rfl); (case hr => first | (go_simp; done) | (go_simp; rfl)); intro w86 hw; have hg : wr.grownBy w86 (some go83) := (by rw [hw]; exact HP85.2); have hp_ : Kd.R k29 29 w86 w.heap.size (fun k_ => some k_ ≠ (.slice Ao27 x3_1.length co27 : Value).ownBlock ∧ some k_ ≠ (.slice Ao56 t265.length co56 : Value).ownBlock ∧ some k_ ≠ (u16 : Value).ownBlock ∧ k_ ≠ gb256) (.slice (some ⟨go83, 0, none⟩) x13_8.length co84) y282 := (by rw [hw, Ny282.out]; exact HP85.1); clear HP85; have n0_ := Aside0.mk (Kd.R_after (v := (.slice (some ⟨go83, 0, none⟩) x13_8.length co84)) (v1 := (.slice (some ⟨go83, 0, none⟩) x13_8.length co84)) (ok := (fun k_ => some k_ ≠ (.slice Ao56 t265.length co56 : Value).ownBlock ∧ some k_ ≠ (u16 : Value).ownBlock ∧ k_ ≠ gb256)) (by (with_reducible repeat (first | apply Kd.R_alloc | apply Kd.R_drewN | apply Kd.R_drew)); exact Kd.R_mono HO_3.out (fun _ hk => ⟨⟨hk.1, ⟨hk.2.2.1, hk.2.2.2⟩⟩, hk.2.1⟩)) hg (.inl rfl)); have n1_ := Aside0.mk (Kd.R_after (v := (.slice (some ⟨go83, 0, none⟩) x13_8.length co84)) (v1 := (.slice (some ⟨go83, 0, none⟩) x13_8.length co84)) (ok := (fun k_ => some k_ ≠ (.slice Ao27 x3_1.length co27 : Value).ownBlock ∧ some k_ ≠ (u16 : Value).ownBlock ∧ k_ ≠ gb256)) (by (with_reducible repeat (first | apply Kd.R_alloc | apply Kd.R_drewN | apply Kd.R_drew)); exact Kd.R_mono HO_12.out (fun _ hk => ⟨⟨hk.1, ⟨hk.2.2.1, hk.2.2.2⟩⟩, hk.2.1⟩)) hg (.inl rfl)); have n2_ := Aside0.mk (hp_); have n3_ := Aside0.mk (Kd.R_after (v := (.slice (some ⟨go83, 0, none⟩) x13_8.length co84)) (v1 := (.slice (some ⟨go83, 0, none⟩) x13_8.length co84)) (ok := (fun k_ => some k_ ≠ (.slice Ao27 x3_1.length co27 : Value).ownBlock ∧ some k_ ≠ (.slice Ao56 t265.length co56 : Value).ownBlock ∧ k_ ≠ gb256)) (by (with_reducible repeat (first | apply Kd.R_alloc | apply Kd.R_drewN | apply Kd.R_drew)); exact Kd.R_mono HO_16.out (fun _ hk => ⟨⟨hk.1, ⟨hk.2.1, hk.2.2.2⟩⟩, hk.2.2.1⟩)) hg (.inl rfl)); have n4_ := Aside0.mk (blk_grown (g := gb249) (o := .cells #[.slice A0_0 l0_0.length c0_0, .slice (some ad255) l0_1.length c0_1, .slice A0_2 l0_2.length c0_2] 25 (0, 0)) (by (with_reducible repeat (first | refine blk_drewN ?_ _ | refine blk_drew ?_ | refine blk_alloc ?_ _)); exact BK249.out) hg (Kd.R_ne HO_13.out BK249.out (by decide))); have n5_ := Aside0.mk (blk_grown (g := gb256) (o := .cells #[.string ((rd_T29 l0_1 x4_1).f0), .string ((rd_T29 l0_1 x4_1).f1), .int .i64 x257002_8] 29 (0, 0)) (by (with_reducible repeat (first | refine blk_drewN ?_ _ | refine blk_drew ?_ | refine blk_alloc ?_ _)); exact BK256.out) hg (Kd.R_away HO_13.out (fun _ hk => hk.2.2.2))); have n6_ := Aside0.mk ((by rw [hw]; exact below_set (HB.out) GB83.out : Below w.heap.size w w86)); clear HO_3; clear HO_12; clear HO_13; clear HO_16; clear BK249; clear BK256; clear HB; have HO_3 := n0_; have HO_12 := n1_; have HO_13 := n2_; have HO_16 := n3_; have BK249 := n4_; have BK256 := n5_; have HB := n6_; clear n0_ n1_ n2_ n3_ n4_ n5_ n6_; clear hg hw hp_))
                         repeat (go_quiet (first | ((with_reducible refine gate_store (t := 3) (p := 133) rfl ?_); (try (rw [drewN_self wr]; generalize hq_ : World.drewN wr _ = wr; have n0_ := Aside0.mk (Kd.R_at hq_ HO_3.out); have n1_ := Aside0.mk (Kd.R_at hq_ HO_12.out); have n2_ := Aside0.mk (Kd.R_at hq_ HO_13.out); have n3_ := Aside0.mk (Kd.R_at hq_ HO_16.out); have n4_ := Aside0.mk (blk_at hq_ BK249.out); have n5_ := Aside0.mk (blk_at hq_ BK256.out); have n6_ := Aside0.mk (below_at hq_ HB.out); clear hq_ HO_3 HO_12 HO_13 HO_16 BK249 BK256 HB; have HO_3 := n0_; have HO_12 := n1_; have HO_13 := n2_; have HO_16 := n3_; have BK249 := n4_; have BK256 := n5_; have HB := n6_; clear n0_ n1_ n2_ n3_ n4_ n5_ n6_; (try (have HX85 := Aside0.mk (show Kd.R k29 29 wr w.heap.size (fun k_ => some k_ ≠ (.slice Ao27 x3_1.length co27 : Value).ownBlock ∧ some k_ ≠ (.slice Ao56 t265.length co56 : Value).ownBlock ∧ some k_ ≠ (u16 : Value).ownBlock ∧ k_ ≠ gb256) (.slice (some ⟨go83, 0, none⟩) x13_8.length co84) x13_8 from (by (with_reducible repeat (first | apply Kd.R_alloc | apply Kd.R_drewN | apply Kd.R_drew)); exact HO_13.out)))); (try (obtain ⟨ce85, hcl85, hM85, hcc85, hfr85⟩ := Kd.R_elem HX85.out z29 (x18_8 : Int) (of_decide_eq_true (by first | (with_reducible assumption) | assumption)) (by have h_ : (x18_8 : Int) < ((x13_8.length : Int) : Int) := of_decide_eq_true (by first | (with_reducible assumption) | assumption); first | exact h_ | (have e_ := (Kd.R_reads' HO_13.out).1; omega) | simpa using h_))); (try (obtain rfl := k29_openM hM85)); (try (have HP85 := Kd.R_seg HX85.out (x18_8 : Int) (of_decide_eq_true (by first | (with_reducible assumption) | assumption)) (by have h_ : (x18_8 : Int) < ((x13_8.length : Int) : Int) := of_decide_eq_true (by first | (with_reducible assumption) | assumption); first | exact h_ | (have e_ := (Kd.R_reads' HO_13.out).1; omega) | simpa using h_) (seg := [.int .i64 (-5)]) (j := 2) hcl85 hcc85 (show 3 ≤ 3 from by decide) (x' := (⟨(rd_T29 x13_8 x18_8).f0, (rd_T29 x13_8 x18_8).f1, (-5)⟩ : S29)) (k29_mkM _ _ _ (⟨(rd_T29 x13_8 x18_8).f0, (rd_T29 x13_8 x18_8).f1, (-5)⟩ : S29) ) (fun _ hk => hk))); (try (have hx85_2 := hcc85 2 _ rfl)); (try (try simp only [show (k29).sz = 3 from rfl, Nat.mul_one, Nat.add_zero] at hx85_2)); (try (have hf85_2 := hfr85 2)); (try (try simp only [show (k29).sz = 3 from rfl, Nat.mul_one, Nat.add_zero] at hf85_2)); (try (clear hcl85 hcc85 hfr85 hM85)))); refine store_event (t := 3) (p := 133) (v := ?vo_w86) (w1 := (wr.setCell ⟨go83, (x18_8 : Int).toNat * 3 + 2, none⟩ (.int .i64 (-5)))) ?hg ?ho ?hn ?hr ?_; (case ho => rfl); (case hg => rfl); (case hn => rfl); (case hr => first | (go_simp; done) | (go_simp; rfl)); intro w86 hw; have hg : wr.grownBy w86 (some go83) := (by rw [hw]; exact HP85.2); have hp_ : Kd.R k29 29 w86 w.heap.size (fun k_ => some k_ ≠ (.slice Ao27 x3_1.length co27 : Value).ownBlock ∧ some k_ ≠ (.slice Ao56 t265.length co56 : Value).ownBlock ∧ some k_ ≠ (u16 : Value).ownBlock ∧ k_ ≠ gb256) (.slice (some ⟨go83, 0, none⟩) x13_8.length co84) y282 := (by rw [hw, Ny282.out]; exact HP85.1); clear HP85; have n0_ := Aside0.mk (Kd.R_after (v := (.slice (some ⟨go83, 0, none⟩) x13_8.length co84)) (v1 := (.slice (some ⟨go83, 0, none⟩) x13_8.length co84)) (ok := (fun k_ => some k_ ≠ (.slice Ao56 t265.length co56 : Value).ownBlock ∧ some k_ ≠ (u16 : Value).ownBlock ∧ k_ ≠ gb256)) (by (with_reducible repeat (first | apply Kd.R_alloc | apply Kd.R_drewN | apply Kd.R_drew)); exact Kd.R_mono HO_3.out (fun _ hk => ⟨⟨hk.1, ⟨hk.2.2.1, hk.2.2.2⟩⟩, hk.2.1⟩)) hg (.inl rfl)); have n1_ := Aside0.mk (Kd.R_after (v := (.slice (some ⟨go83, 0, none⟩) x13_8.length co84)) (v1 := (.slice (some ⟨go83, 0, none⟩) x13_8.length co84)) (ok := (fun k_ => some k_ ≠ (.slice Ao27 x3_1.length co27 : Value).ownBlock ∧ some k_ ≠ (u16 : Value).ownBlock ∧ k_ ≠ gb256)) (by (with_reducible repeat (first | apply Kd.R_alloc | apply Kd.R_drewN | apply Kd.R_drew)); exact Kd.R_mono HO_12.out (fun _ hk => ⟨⟨hk.1, ⟨hk.2.2.1, hk.2.2.2⟩⟩, hk.2.1⟩)) hg (.inl rfl)); have n2_ := Aside0.mk (hp_); have n3_ := Aside0.mk (Kd.R_after (v := (.slice (some ⟨go83, 0, none⟩) x13_8.length co84)) (v1 := (.slice (some ⟨go83, 0, none⟩) x13_8.length co84)) (ok := (fun k_ => some k_ ≠ (.slice Ao27 x3_1.length co27 : Value).ownBlock ∧ some k_ ≠ (.slice Ao56 t265.length co56 : Value).ownBlock ∧ k_ ≠ gb256)) (by (with_reducible repeat (first | apply Kd.R_alloc | apply Kd.R_drewN | apply Kd.R_drew)); exact Kd.R_mono HO_16.out (fun _ hk => ⟨⟨hk.1, ⟨hk.2.1, hk.2.2.2⟩⟩, hk.2.2.1⟩)) hg (.inl rfl)); have n4_ := Aside0.mk (blk_grown (g := gb249) (o := .cells #[.slice A0_0 l0_0.length c0_0, .slice (some ad255) l0_1.length c0_1, .slice A0_2 l0_2.length c0_2] 25 (0, 0)) (by (with_reducible repeat (first | refine blk_drewN ?_ _ | refine blk_drew ?_ | refine blk_alloc ?_ _)); exact BK249.out) hg (Kd.R_ne HO_13.out BK249.out (by decide))); have n5_ := Aside0.mk (blk_grown (g := gb256) (o := .cells #[.string ((rd_T29 l0_1 x4_1).f0), .string ((rd_T29 l0_1 x4_1).f1), .int .i64 x257002_8] 29 (0, 0)) (by (with_reducible repeat (first | refine blk_drewN ?_ _ | refine blk_drew ?_ | refine blk_alloc ?_ _)); exact BK256.out) hg (Kd.R_away HO_13.out (fun _ hk => hk.2.2.2))); have n6_ := Aside0.mk ((by rw [hw]; exact below_set (HB.out) GB83.out : Below w.heap.size w w86)); clear HO_3; clear HO_12; clear HO_13; clear HO_16; clear BK249; clear BK256; clear HB; have HO_3 := n0_; have HO_12 := n1_; have HO_13 := n2_; have HO_16 := n3_; have BK249 := n4_; have BK256 := n5_; have HB := n6_; clear n0_ n1_ n2_ n3_ n4_ n5_ n6_; clear hg hw hp_)); try go_wp2_with (first | ((with_reducible refine gate_store (t := 3) (p := 133) rfl ?_); (try (rw [drewN_self wr]; generalize hq_ : World.drewN wr _ = wr; have n0_ := Aside0.mk (Kd.R_at hq_ HO_3.out); have n1_ := Aside0.mk (Kd.R_at hq_ HO_12.out); have n2_ := Aside0.mk (Kd.R_at hq_ HO_13.out); have n3_ := Aside0.mk (Kd.R_at hq_ HO_16.out); have n4_ := Aside0.mk (blk_at hq_ BK249.out); have n5_ := Aside0.mk (blk_at hq_ BK256.out); have n6_ := Aside0.mk (below_at hq_ HB.out); clear hq_ HO_3 HO_12 HO_13 HO_16 BK249 BK256 HB; have HO_3 := n0_; have HO_12 := n1_; have HO_13 := n2_; have HO_16 := n3_; have BK249 := n4_; have BK256 := n5_; have HB := n6_; clear n0_ n1_ n2_ n3_ n4_ n5_ n6_; (try (have HX85 := Aside0.mk (show Kd.R k29 29 wr w.heap.size (fun k_ => some k_ ≠ (.slice Ao27 x3_1.length co27 : Value).ownBlock ∧ some k_ ≠ (.slice Ao56 t265.length co56 : Value).ownBlock ∧ some k_ ≠ (u16 : Value).ownBlock ∧ k_ ≠ gb256) (.slice (some ⟨go83, 0, none⟩) x13_8.length co84) x13_8 from (by (with_reducible repeat (first | apply Kd.R_alloc | apply Kd.R_drewN | apply Kd.R_drew)); exact HO_13.out)))); (try (obtain ⟨ce85, hcl85, hM85, hcc85, hfr85⟩ := Kd.R_elem HX85.out z29 (x18_8 : Int) (of_decide_eq_true (by first | (with_reducible assumption) | assumption)) (by have h_ : (x18_8 : Int) < ((x13_8.length : Int) : Int) := of_decide_eq_true (by first | (with_reducible assumption) | assumption); first | exact h_ | (have e_ := (Kd.R_reads' HO_13.out).1; omega) | simpa using h_))); (try (obtain rfl := k29_openM hM85)); (try (have HP85 := Kd.R_seg HX85.out (x18_8 : Int) (of_decide_eq_true (by first | (with_reducible assumption) | assumption)) (by have h_ : (x18_8 : Int) < ((x13_8.length : Int) : Int) := of_decide_eq_true (by first | (with_reducible assumption) | assumption); first | exact h_ | (have e_ := (Kd.R_reads' HO_13.out).1; omega) | simpa using h_) (seg := [.int .i64 (-5)]) (j := 2) hcl85 hcc85 (show 3 ≤ 3 from by decide) (x' := (⟨(rd_T29 x13_8 x18_8).f0, (rd_T29 x13_8 x18_8).f1, (-5)⟩ : S29)) (k29_mkM _ _ _ (⟨(rd_T29 x13_8 x18_8).f0, (rd_T29 x13_8 x18_8).f1, (-5)⟩ : S29) ) (fun _ hk => hk))); (try (have hx85_2 := hcc85 2 _ rfl)); (try (try simp only [show (k29).sz = 3 from rfl, Nat.mul_one, Nat.add_zero] at hx85_2)); (try (have hf85_2 := hfr85 2)); (try (try simp only [show (k29).sz = 3 from rfl, Nat.mul_one, Nat.add_zero] at hf85_2)); (try (clear hcl85 hcc85 hfr85 hM85)))); refine store_event (t := 3) (p := 133) (v := ?vo_w86) (w1 := (wr.setCell ⟨go83, (x18_8 : Int).toNat * 3 + 2, none⟩ (.int .i64 (-5)))) ?hg ?ho ?hn ?hr ?_; (case ho => rfl); (case hg => rfl); (case hn => rfl); (case hr => first | (go_simp; done) | (go_simp; rfl)); intro w86 hw; have hg : wr.grownBy w86 (some go83) := (by rw [hw]; exact HP85.2); have hp_ : Kd.R k29 29 w86 w.heap.size (fun k_ => some k_ ≠ (.slice Ao27 x3_1.length co27 : Value).ownBlock ∧ some k_ ≠ (.slice Ao56 t265.length co56 : Value).ownBlock ∧ some k_ ≠ (u16 : Value).ownBlock ∧ k_ ≠ gb256) (.slice (some ⟨go83, 0, none⟩) x13_8.length co84) y282 := (by rw [hw, Ny282.out]; exact HP85.1); clear HP85; have n0_ := Aside0.mk (Kd.R_after (v := (.slice (some ⟨go83, 0, none⟩) x13_8.length co84)) (v1 := (.slice (some ⟨go83, 0, none⟩) x13_8.length co84)) (ok := (fun k_ => some k_ ≠ (.slice Ao56 t265.length co56 : Value).ownBlock ∧ some k_ ≠ (u16 : Value).ownBlock ∧ k_ ≠ gb256)) (by (with_reducible repeat (first | apply Kd.R_alloc | apply Kd.R_drewN | apply Kd.R_drew)); exact Kd.R_mono HO_3.out (fun _ hk => ⟨⟨hk.1, ⟨hk.2.2.1, hk.2.2.2⟩⟩, hk.2.1⟩)) hg (.inl rfl)); have n1_ := Aside0.mk (Kd.R_after (v := (.slice (some ⟨go83, 0, none⟩) x13_8.length co84)) (v1 := (.slice (some ⟨go83, 0, none⟩) x13_8.length co84)) (ok := (fun k_ => some k_ ≠ (.slice Ao27 x3_1.length co27 : Value).ownBlock ∧ some k_ ≠ (u16 : Value).ownBlock ∧ k_ ≠ gb256)) (by (with_reducible repeat (first | apply Kd.R_alloc | apply Kd.R_drewN | apply Kd.R_drew)); exact Kd.R_mono HO_12.out (fun _ hk => ⟨⟨hk.1, ⟨hk.2.2.1, hk.2.2.2⟩⟩, hk.2.1⟩)) hg (.inl rfl)); have n2_ := Aside0.mk (hp_); have n3_ := Aside0.mk (Kd.R_after (v := (.slice (some ⟨go83, 0, none⟩) x13_8.length co84)) (v1 := (.slice (some ⟨go83, 0, none⟩) x13_8.length co84)) (ok := (fun k_ => some k_ ≠ (.slice Ao27 x3_1.length co27 : Value).ownBlock ∧ some k_ ≠ (.slice Ao56 t265.length co56 : Value).ownBlock ∧ k_ ≠ gb256)) (by (with_reducible repeat (first | apply Kd.R_alloc | apply Kd.R_drewN | apply Kd.R_drew)); exact Kd.R_mono HO_16.out (fun _ hk => ⟨⟨hk.1, ⟨hk.2.1, hk.2.2.2⟩⟩, hk.2.2.1⟩)) hg (.inl rfl)); have n4_ := Aside0.mk (blk_grown (g := gb249) (o := .cells #[.slice A0_0 l0_0.length c0_0, .slice (some ad255) l0_1.length c0_1, .slice A0_2 l0_2.length c0_2] 25 (0, 0)) (by (with_reducible repeat (first | refine blk_drewN ?_ _ | refine blk_drew ?_ | refine blk_alloc ?_ _)); exact BK249.out) hg (Kd.R_ne HO_13.out BK249.out (by decide))); have n5_ := Aside0.mk (blk_grown (g := gb256) (o := .cells #[.string ((rd_T29 l0_1 x4_1).f0), .string ((rd_T29 l0_1 x4_1).f1), .int .i64 x257002_8] 29 (0, 0)) (by (with_reducible repeat (first | refine blk_drewN ?_ _ | refine blk_drew ?_ | refine blk_alloc ?_ _)); exact BK256.out) hg (Kd.R_away HO_13.out (fun _ hk => hk.2.2.2))); have n6_ := Aside0.mk ((by rw [hw]; exact below_set (HB.out) GB83.out : Below w.heap.size w w86)); clear HO_3; clear HO_12; clear HO_13; clear HO_16; clear BK249; clear BK256; clear HB; have HO_3 := n0_; have HO_12 := n1_; have HO_13 := n2_; have HO_16 := n3_; have BK249 := n4_; have BK256 := n5_; have HB := n6_; clear n0_ n1_ n2_ n3_ n4_ n5_ n6_; clear hg hw hp_)))
                         go_roundg k8
                         case measure => have := HK1.out; have := HJ12.out; have := HJ21.out; have := HJ39.out; have := HJ51.out; have := HJ62.out; have := HJ68.out; have := HK8.out; omega
                         case rel => exact ⟨(y282), (wrap64 (x18_8 + 1)), (x257002_8), (by first | rfl | (simp; done) | (simp [*]; done)), H', ⟨by have := HK1.out; have := HJ12.out; have := HJ21.out; have := HJ39.out; have := HJ51.out; have := HJ62.out; have := HJ68.out; have := HK8.out; omega⟩, ⟨by (with_reducible repeat (first | apply Kd.R_alloc | apply Kd.R_drewN | apply Kd.R_drew)); exact Kd.R_mono HO_3.out (fun _ hk => ⟨hk.1.1, ⟨hk.2, ⟨hk.1.2.1, hk.1.2.2⟩⟩⟩)⟩, ⟨by (with_reducible repeat (first | apply Kd.R_alloc | apply Kd.R_drewN | apply Kd.R_drew)); exact Kd.R_mono HO_12.out (fun _ hk => ⟨hk.1.1, ⟨hk.2, ⟨hk.1.2.1, hk.1.2.2⟩⟩⟩)⟩, ⟨by (with_reducible repeat (first | apply Kd.R_alloc | apply Kd.R_drewN | apply Kd.R_drew)); exact HO_13.out⟩, ⟨by (with_reducible repeat (first | apply Kd.R_alloc | apply Kd.R_drewN | apply Kd.R_drew)); exact Kd.R_mono HO_16.out (fun _ hk => ⟨hk.1.1, ⟨hk.1.2.1, ⟨hk.2, hk.1.2.2⟩⟩⟩)⟩, ⟨by (with_reducible repeat (first | refine blk_drewN ?_ _ | refine blk_drew ?_ | refine blk_alloc ?_ _)); exact BK249.out⟩, ⟨by (with_reducible repeat (first | refine blk_drewN ?_ _ | refine blk_drew ?_ | refine blk_alloc ?_ _)); exact BK256.out⟩, ⟨by repeat (first | (with_reducible first | exact HB.out | apply below_alloc | apply pw_below_drewN | apply below_drew1 | refine below_set ?_ GE249.out | refine below_set ?_ GE256.out) | exact HB.out)⟩⟩
                        ·rw [if_neg c82] at H
                         exact absurd H (by simp)
                       ·rw [if_neg c81] at H
                        have c81b0 : decide (x18_8 < (x13_8.length : Int)) = false := decide_eq_false c81
                        clear c81
                        replace H := Option.bind_eq_some_iff.mp H
                        obtain ⟨t283, A870, H⟩ := H
                        replace H : (if t283 = true then (if x9_62 = 0 then ((fairwayref0_CopyGroups.f k8 x16_62).bind fun t284 => (fairwaylaw17_GroupCommits.l0 k8 t284 (wrap64 (x4_1 + 1)) l0_0 l0_1 l0_2)) else (fairwaylaw17_GroupCommits.l0 k8 x3_1 (wrap64 (x4_1 + 1)) l0_0 l0_1 l0_2)) else (some false)) = some r := H
                        have A87 := Aside0.mk A870
                        clear A870
                        by_cases c88 : t283 = true
                        ·subst c88
                         have H1 : (if x9_62 = 0 then ((fairwayref0_CopyGroups.f k8 x16_62).bind fun t284 => (fairwaylaw17_GroupCommits.l0 k8 t284 (wrap64 (x4_1 + 1)) l0_0 l0_1 l0_2)) else (fairwaylaw17_GroupCommits.l0 k8 x3_1 (wrap64 (x4_1 + 1)) l0_0 l0_1 l0_2)) = some r := by rw [if_pos rfl] at H; exact H
                         clear H
                         have H := H1
                         clear H1
                         by_cases c89 : x9_62 = 0
                         ·rw [if_pos c89] at H
                          have c89b0 : (x9_62 == 0) = true := beq_iff_eq.mpr c89
                          have c89b1 : (x9_62 != 0) = false := bne_eq_false_iff_eq.mpr c89
                          clear c89
                          replace H := Option.bind_eq_some_iff.mp H
                          obtain ⟨t284, A900, H⟩ := H
                          replace H : (fairwaylaw17_GroupCommits.l0 k8 t284 (wrap64 (x4_1 + 1)) l0_0 l0_1 l0_2) = some r := H
                          have A90 := Aside0.mk A900
                          clear A900
                          have H' := Aside0.mk H
                          clear H
                          obtain ⟨Ao91, co91, eo91⟩ := Kd.R_slice HO_13.out
                          subst eo91
                          go_wp2_with (first | (go_at_call 16; (with_reducible refine (fairwayref0_EqGroups.calls k8 _ _ t265 _ _ x3_1 true _ ?side1 ?side2 ?side3 ?side4 A87.out).mono ?_); (case side1 => repeat (first | exact (Kd.R_reads' HO_12.out).2.2 | (with_reducible refine Kd.C_alloc ?_ _) | (with_reducible refine Kd.C_drewN ?_ _) | (with_reducible refine Kd.C_drew ?_))); (case side2 => exact (Kd.R_reads' HO_12.out).2.1); (case side3 => repeat (first | exact (Kd.R_reads' HO_3.out).2.2 | (with_reducible refine Kd.C_alloc ?_ _) | (with_reducible refine Kd.C_drewN ?_ _) | (with_reducible refine Kd.C_drew ?_))); (case side4 => exact (Kd.R_reads' HO_3.out).2.1); rintro e w' ⟨rfl, ⟨nd, rfl⟩⟩; (try first | exact ⟨rfl, _, World.drewN_drewN _ _ _⟩ | exact ⟨rfl, _, Eq.trans (World.drewN_drewN _ _ _) (congrArg (World.drewN _) (Nat.add_assoc _ _ _))⟩); obtain ⟨Ao92, co92, eo92⟩ := Kd.R_slice HO_16.out; subst eo92) | (go_at_call 7; (with_reducible refine (fairwayref0_CopyGroups.calls k8 _ _ x16_62 t284 _ ?side1 ?side2 A90.out).mono ?_); (case side1 => repeat (first | exact (Kd.R_reads' HO_16.out).2.2 | (with_reducible refine Kd.C_alloc ?_ _) | (with_reducible refine Kd.C_drewN ?_ _) | (with_reducible refine Kd.C_drew ?_))); (case side2 => exact (Kd.R_reads' HO_16.out).2.1); rintro e w93 ⟨v285, rfl, ho0, hb⟩; have n0_ := Aside0.mk (Kd.R_elder' (by (with_reducible repeat (first | apply Kd.R_alloc | apply Kd.R_drewN | apply Kd.R_drew)); exact HO_3.out) (Kd.R_base ho0) hb); have n1_ := Aside0.mk (Kd.R_elder' (by (with_reducible repeat (first | apply Kd.R_alloc | apply Kd.R_drewN | apply Kd.R_drew)); exact HO_12.out) (Kd.R_base ho0) hb); have n2_ := Aside0.mk (Kd.R_elder' (by (with_reducible repeat (first | apply Kd.R_alloc | apply Kd.R_drewN | apply Kd.R_drew)); exact HO_13.out) (Kd.R_base ho0) hb); have n3_ := Aside0.mk (Kd.R_elder' (by (with_reducible repeat (first | apply Kd.R_alloc | apply Kd.R_drewN | apply Kd.R_drew)); exact HO_16.out) (Kd.R_base ho0) hb); have n4_ := Aside0.mk (Kd.R_lower (Kd.R_newB (Kd.R_new' (Kd.R_new' (Kd.R_new' (Kd.R_new' ho0 (Kd.R_lt (by (with_reducible repeat (first | apply Kd.R_alloc | apply Kd.R_drewN | apply Kd.R_drew)); exact HO_3.out))) (Kd.R_lt (by (with_reducible repeat (first | apply Kd.R_alloc | apply Kd.R_drewN | apply Kd.R_drew)); exact HO_12.out))) (Kd.R_lt (by (with_reducible repeat (first | apply Kd.R_alloc | apply Kd.R_drewN | apply Kd.R_drew)); exact HO_13.out))) (Kd.R_lt (by (with_reducible repeat (first | apply Kd.R_alloc | apply Kd.R_drewN | apply Kd.R_drew)); exact HO_16.out))) (g := gb256) (o := .cells #[.string ((rd_T29 l0_1 x4_1).f0), .string ((rd_T29 l0_1 x4_1).f1), .int .i64 x257002_8] 29 (0, 0)) (by (with_reducible repeat (first | refine blk_drewN ?_ _ | refine blk_drew ?_ | refine blk_alloc ?_ _)); exact BK256.out)) (below_size (by repeat (first | (with_reducible first | exact HB.out | apply below_alloc | apply pw_below_drewN | apply below_drew1 | refine below_set ?_ GE249.out | refine below_set ?_ GE256.out) | exact HB.out)))); have n5_ := Aside0.mk (blk_below (g := gb249) (o := .cells #[.slice A0_0 l0_0.length c0_0, .slice (some ad255) l0_1.length c0_1, .slice A0_2 l0_2.length c0_2] 25 (0, 0)) (by (with_reducible repeat (first | refine blk_drewN ?_ _ | refine blk_drew ?_ | refine blk_alloc ?_ _)); exact BK249.out) hb); have n6_ := Aside0.mk (blk_below (g := gb256) (o := .cells #[.string ((rd_T29 l0_1 x4_1).f0), .string ((rd_T29 l0_1 x4_1).f1), .int .i64 x257002_8] 29 (0, 0)) (by (with_reducible repeat (first | refine blk_drewN ?_ _ | refine blk_drew ?_ | refine blk_alloc ?_ _)); exact BK256.out) hb); have n7_ := Aside0.mk (below_step (by repeat (first | (with_reducible first | exact HB.out | apply below_alloc | apply pw_below_drewN | apply below_drew1 | refine below_set ?_ GE249.out | refine below_set ?_ GE256.out) | exact HB.out)) hb); clear HO_3; clear HO_12; clear HO_13; clear HO_16; clear BK249; clear BK256; clear HB; have HO_3 := n0_; have HO_12 := n1_; have HO_13 := n2_; have HO_16 := n3_; have HO286 := n4_; have BK249 := n5_; have BK256 := n6_; have HB := n7_; clear n0_ n1_ n2_ n3_ n4_ n5_ n6_ n7_; (try clear hb); (try clear hb2); (try clear hk); (try clear hi); (try clear ho0)))
                          repeat (go_quiet (first | (go_at_call 16; (with_reducible refine (fairwayref0_EqGroups.calls k8 _ _ t265 _ _ x3_1 true _ ?side1 ?side2 ?side3 ?side4 A87.out).mono ?_); (case side1 => repeat (first | exact (Kd.R_reads' HO_12.out).2.2 | (with_reducible refine Kd.C_alloc ?_ _) | (with_reducible refine Kd.C_drewN ?_ _) | (with_reducible refine Kd.C_drew ?_))); (case side2 => exact (Kd.R_reads' HO_12.out).2.1); (case side3 => repeat (first | exact (Kd.R_reads' HO_3.out).2.2 | (with_reducible refine Kd.C_alloc ?_ _) | (with_reducible refine Kd.C_drewN ?_ _) | (with_reducible refine Kd.C_drew ?_))); (case side4 => exact (Kd.R_reads' HO_3.out).2.1); rintro e w' ⟨rfl, ⟨nd, rfl⟩⟩; (try first | exact ⟨rfl, _, World.drewN_drewN _ _ _⟩ | exact ⟨rfl, _, Eq.trans (World.drewN_drewN _ _ _) (congrArg (World.drewN _) (Nat.add_assoc _ _ _))⟩); obtain ⟨Ao92, co92, eo92⟩ := Kd.R_slice HO_16.out; subst eo92) | (go_at_call 7; (with_reducible refine (fairwayref0_CopyGroups.calls k8 _ _ x16_62 t284 _ ?side1 ?side2 A90.out).mono ?_); (case side1 => repeat (first | exact (Kd.R_reads' HO_16.out).2.2 | (with_reducible refine Kd.C_alloc ?_ _) | (with_reducible refine Kd.C_drewN ?_ _) | (with_reducible refine Kd.C_drew ?_))); (case side2 => exact (Kd.R_reads' HO_16.out).2.1); rintro e w93 ⟨v285, rfl, ho0, hb⟩; have n0_ := Aside0.mk (Kd.R_elder' (by (with_reducible repeat (first | apply Kd.R_alloc | apply Kd.R_drewN | apply Kd.R_drew)); exact HO_3.out) (Kd.R_base ho0) hb); have n1_ := Aside0.mk (Kd.R_elder' (by (with_reducible repeat (first | apply Kd.R_alloc | apply Kd.R_drewN | apply Kd.R_drew)); exact HO_12.out) (Kd.R_base ho0) hb); have n2_ := Aside0.mk (Kd.R_elder' (by (with_reducible repeat (first | apply Kd.R_alloc | apply Kd.R_drewN | apply Kd.R_drew)); exact HO_13.out) (Kd.R_base ho0) hb); have n3_ := Aside0.mk (Kd.R_elder' (by (with_reducible repeat (first | apply Kd.R_alloc | apply Kd.R_drewN | apply Kd.R_drew)); exact HO_16.out) (Kd.R_base ho0) hb); have n4_ := Aside0.mk (Kd.R_lower (Kd.R_newB (Kd.R_new' (Kd.R_new' (Kd.R_new' (Kd.R_new' ho0 (Kd.R_lt (by (with_reducible repeat (first | apply Kd.R_alloc | apply Kd.R_drewN | apply Kd.R_drew)); exact HO_3.out))) (Kd.R_lt (by (with_reducible repeat (first | apply Kd.R_alloc | apply Kd.R_drewN | apply Kd.R_drew)); exact HO_12.out))) (Kd.R_lt (by (with_reducible repeat (first | apply Kd.R_alloc | apply Kd.R_drewN | apply Kd.R_drew)); exact HO_13.out))) (Kd.R_lt (by (with_reducible repeat (first | apply Kd.R_alloc | apply Kd.R_drewN | apply Kd.R_drew)); exact HO_16.out))) (g := gb256) (o := .cells #[.string ((rd_T29 l0_1 x4_1).f0), .string ((rd_T29 l0_1 x4_1).f1), .int .i64 x257002_8] 29 (0, 0)) (by (with_reducible repeat (first | refine blk_drewN ?_ _ | refine blk_drew ?_ | refine blk_alloc ?_ _)); exact BK256.out)) (below_size (by repeat (first | (with_reducible first | exact HB.out | apply below_alloc | apply pw_below_drewN | apply below_drew1 | refine below_set ?_ GE249.out | refine below_set ?_ GE256.out) | exact HB.out)))); have n5_ := Aside0.mk (blk_below (g := gb249) (o := .cells #[.slice A0_0 l0_0.length c0_0, .slice (some ad255) l0_1.length c0_1, .slice A0_2 l0_2.length c0_2] 25 (0, 0)) (by (with_reducible repeat (first | refine blk_drewN ?_ _ | refine blk_drew ?_ | refine blk_alloc ?_ _)); exact BK249.out) hb); have n6_ := Aside0.mk (blk_below (g := gb256) (o := .cells #[.string ((rd_T29 l0_1 x4_1).f0), .string ((rd_T29 l0_1 x4_1).f1), .int .i64 x257002_8] 29 (0, 0)) (by (with_reducible repeat (first | refine blk_drewN ?_ _ | refine blk_drew ?_ | refine blk_alloc ?_ _)); exact BK256.out) hb); have n7_ := Aside0.mk (below_step (by repeat (first | (with_reducible first | exact HB.out | apply below_alloc | apply pw_below_drewN | apply below_drew1 | refine below_set ?_ GE249.out | refine below_set ?_ GE256.out) | exact HB.out)) hb); clear HO_3; clear HO_12; clear HO_13; clear HO_16; clear BK249; clear BK256; clear HB; have HO_3 := n0_; have HO_12 := n1_; have HO_13 := n2_; have HO_16 := n3_; have HO286 := n4_; have BK249 := n5_; have BK256 := n6_; have HB := n7_; clear n0_ n1_ n2_ n3_ n4_ n5_ n6_ n7_; (try clear hb); (try clear hb2); (try clear hk); (try clear hi); (try clear ho0))); try go_wp2_with (first | (go_at_call 16; (with_reducible refine (fairwayref0_EqGroups.calls k8 _ _ t265 _ _ x3_1 true _ ?side1 ?side2 ?side3 ?side4 A87.out).mono ?_); (case side1 => repeat (first | exact (Kd.R_reads' HO_12.out).2.2 | (with_reducible refine Kd.C_alloc ?_ _) | (with_reducible refine Kd.C_drewN ?_ _) | (with_reducible refine Kd.C_drew ?_))); (case side2 => exact (Kd.R_reads' HO_12.out).2.1); (case side3 => repeat (first | exact (Kd.R_reads' HO_3.out).2.2 | (with_reducible refine Kd.C_alloc ?_ _) | (with_reducible refine Kd.C_drewN ?_ _) | (with_reducible refine Kd.C_drew ?_))); (case side4 => exact (Kd.R_reads' HO_3.out).2.1); rintro e w' ⟨rfl, ⟨nd, rfl⟩⟩; (try first | exact ⟨rfl, _, World.drewN_drewN _ _ _⟩ | exact ⟨rfl, _, Eq.trans (World.drewN_drewN _ _ _) (congrArg (World.drewN _) (Nat.add_assoc _ _ _))⟩); obtain ⟨Ao92, co92, eo92⟩ := Kd.R_slice HO_16.out; subst eo92) | (go_at_call 7; (with_reducible refine (fairwayref0_CopyGroups.calls k8 _ _ x16_62 t284 _ ?side1 ?side2 A90.out).mono ?_); (case side1 => repeat (first | exact (Kd.R_reads' HO_16.out).2.2 | (with_reducible refine Kd.C_alloc ?_ _) | (with_reducible refine Kd.C_drewN ?_ _) | (with_reducible refine Kd.C_drew ?_))); (case side2 => exact (Kd.R_reads' HO_16.out).2.1); rintro e w93 ⟨v285, rfl, ho0, hb⟩; have n0_ := Aside0.mk (Kd.R_elder' (by (with_reducible repeat (first | apply Kd.R_alloc | apply Kd.R_drewN | apply Kd.R_drew)); exact HO_3.out) (Kd.R_base ho0) hb); have n1_ := Aside0.mk (Kd.R_elder' (by (with_reducible repeat (first | apply Kd.R_alloc | apply Kd.R_drewN | apply Kd.R_drew)); exact HO_12.out) (Kd.R_base ho0) hb); have n2_ := Aside0.mk (Kd.R_elder' (by (with_reducible repeat (first | apply Kd.R_alloc | apply Kd.R_drewN | apply Kd.R_drew)); exact HO_13.out) (Kd.R_base ho0) hb); have n3_ := Aside0.mk (Kd.R_elder' (by (with_reducible repeat (first | apply Kd.R_alloc | apply Kd.R_drewN | apply Kd.R_drew)); exact HO_16.out) (Kd.R_base ho0) hb); have n4_ := Aside0.mk (Kd.R_lower (Kd.R_newB (Kd.R_new' (Kd.R_new' (Kd.R_new' (Kd.R_new' ho0 (Kd.R_lt (by (with_reducible repeat (first | apply Kd.R_alloc | apply Kd.R_drewN | apply Kd.R_drew)); exact HO_3.out))) (Kd.R_lt (by (with_reducible repeat (first | apply Kd.R_alloc | apply Kd.R_drewN | apply Kd.R_drew)); exact HO_12.out))) (Kd.R_lt (by (with_reducible repeat (first | apply Kd.R_alloc | apply Kd.R_drewN | apply Kd.R_drew)); exact HO_13.out))) (Kd.R_lt (by (with_reducible repeat (first | apply Kd.R_alloc | apply Kd.R_drewN | apply Kd.R_drew)); exact HO_16.out))) (g := gb256) (o := .cells #[.string ((rd_T29 l0_1 x4_1).f0), .string ((rd_T29 l0_1 x4_1).f1), .int .i64 x257002_8] 29 (0, 0)) (by (with_reducible repeat (first | refine blk_drewN ?_ _ | refine blk_drew ?_ | refine blk_alloc ?_ _)); exact BK256.out)) (below_size (by repeat (first | (with_reducible first | exact HB.out | apply below_alloc | apply pw_below_drewN | apply below_drew1 | refine below_set ?_ GE249.out | refine below_set ?_ GE256.out) | exact HB.out)))); have n5_ := Aside0.mk (blk_below (g := gb249) (o := .cells #[.slice A0_0 l0_0.length c0_0, .slice (some ad255) l0_1.length c0_1, .slice A0_2 l0_2.length c0_2] 25 (0, 0)) (by (with_reducible repeat (first | refine blk_drewN ?_ _ | refine blk_drew ?_ | refine blk_alloc ?_ _)); exact BK249.out) hb); have n6_ := Aside0.mk (blk_below (g := gb256) (o := .cells #[.string ((rd_T29 l0_1 x4_1).f0), .string ((rd_T29 l0_1 x4_1).f1), .int .i64 x257002_8] 29 (0, 0)) (by (with_reducible repeat (first | refine blk_drewN ?_ _ | refine blk_drew ?_ | refine blk_alloc ?_ _)); exact BK256.out) hb); have n7_ := Aside0.mk (below_step (by repeat (first | (with_reducible first | exact HB.out | apply below_alloc | apply pw_below_drewN | apply below_drew1 | refine below_set ?_ GE249.out | refine below_set ?_ GE256.out) | exact HB.out)) hb); clear HO_3; clear HO_12; clear HO_13; clear HO_16; clear BK249; clear BK256; clear HB; have HO_3 := n0_; have HO_12 := n1_; have HO_13 := n2_; have HO_16 := n3_; have HO286 := n4_; have BK249 := n5_; have BK256 := n6_; have HB := n7_; clear n0_ n1_ n2_ n3_ n4_ n5_ n6_ n7_; (try clear hb); (try clear hb2); (try clear hk); (try clear hi); (try clear ho0))))
                          go_roundg k8
                          case measure => have := HK1.out; have := HJ12.out; have := HJ21.out; have := HJ39.out; have := HJ51.out; have := HJ62.out; have := HJ68.out; have := HK8.out; omega
                          case rel => exact ⟨(t284), (wrap64 (x4_1 + 1)), (by first | rfl | (simp; done) | (simp [*]; done)), H', ⟨by have := HK1.out; have := HJ12.out; have := HJ21.out; have := HJ39.out; have := HJ51.out; have := HJ62.out; have := HJ68.out; have := HK8.out; omega⟩, ⟨by (with_reducible repeat (first | apply Kd.R_alloc | apply Kd.R_drewN | apply Kd.R_drew)); exact Kd.R_mono HO286.out (fun _ hk => trivial)⟩, ⟨by (with_reducible repeat (first | refine blk_drewN ?_ _ | refine blk_drew ?_ | refine blk_alloc ?_ _)); exact BK249.out⟩, ⟨by repeat (first | (with_reducible first | exact HB.out | apply below_alloc | apply pw_below_drewN | apply below_drew1 | refine below_set ?_ GE249.out | refine below_set ?_ GE256.out) | exact HB.out)⟩⟩
                         ·rw [if_neg c89] at H
                          have c89b0 : (x9_62 == 0) = false := beq_eq_false_iff_ne.mpr c89
                          have c89b1 : (x9_62 != 0) = true := bne_iff_ne.mpr c89
                          have H' := Aside0.mk H
                          clear H
                          obtain ⟨Ao94, co94, eo94⟩ := Kd.R_slice HO_13.out
                          subst eo94
                          go_wp2_with (first | (go_at_call 16; (with_reducible refine (fairwayref0_EqGroups.calls k8 _ _ t265 _ _ x3_1 true _ ?side1 ?side2 ?side3 ?side4 A87.out).mono ?_); (case side1 => repeat (first | exact (Kd.R_reads' HO_12.out).2.2 | (with_reducible refine Kd.C_alloc ?_ _) | (with_reducible refine Kd.C_drewN ?_ _) | (with_reducible refine Kd.C_drew ?_))); (case side2 => exact (Kd.R_reads' HO_12.out).2.1); (case side3 => repeat (first | exact (Kd.R_reads' HO_3.out).2.2 | (with_reducible refine Kd.C_alloc ?_ _) | (with_reducible refine Kd.C_drewN ?_ _) | (with_reducible refine Kd.C_drew ?_))); (case side4 => exact (Kd.R_reads' HO_3.out).2.1); rintro e w' ⟨rfl, ⟨nd, rfl⟩⟩; (try first | exact ⟨rfl, _, World.drewN_drewN _ _ _⟩ | exact ⟨rfl, _, Eq.trans (World.drewN_drewN _ _ _) (congrArg (World.drewN _) (Nat.add_assoc _ _ _))⟩)))
                          repeat (go_quiet (first | (go_at_call 16; (with_reducible refine (fairwayref0_EqGroups.calls k8 _ _ t265 _ _ x3_1 true _ ?side1 ?side2 ?side3 ?side4 A87.out).mono ?_); (case side1 => repeat (first | exact (Kd.R_reads' HO_12.out).2.2 | (with_reducible refine Kd.C_alloc ?_ _) | (with_reducible refine Kd.C_drewN ?_ _) | (with_reducible refine Kd.C_drew ?_))); (case side2 => exact (Kd.R_reads' HO_12.out).2.1); (case side3 => repeat (first | exact (Kd.R_reads' HO_3.out).2.2 | (with_reducible refine Kd.C_alloc ?_ _) | (with_reducible refine Kd.C_drewN ?_ _) | (with_reducible refine Kd.C_drew ?_))); (case side4 => exact (Kd.R_reads' HO_3.out).2.1); rintro e w' ⟨rfl, ⟨nd, rfl⟩⟩; (try first | exact ⟨rfl, _, World.drewN_drewN _ _ _⟩ | exact ⟨rfl, _, Eq.trans (World.drewN_drewN _ _ _) (congrArg (World.drewN _) (Nat.add_assoc _ _ _))⟩))); try go_wp2_with (first | (go_at_call 16; (with_reducible refine (fairwayref0_EqGroups.calls k8 _ _ t265 _ _ x3_1 true _ ?side1 ?side2 ?side3 ?side4 A87.out).mono ?_); (case side1 => repeat (first | exact (Kd.R_reads' HO_12.out).2.2 | (with_reducible refine Kd.C_alloc ?_ _) | (with_reducible refine Kd.C_drewN ?_ _) | (with_reducible refine Kd.C_drew ?_))); (case side2 => exact (Kd.R_reads' HO_12.out).2.1); (case side3 => repeat (first | exact (Kd.R_reads' HO_3.out).2.2 | (with_reducible refine Kd.C_alloc ?_ _) | (with_reducible refine Kd.C_drewN ?_ _) | (with_reducible refine Kd.C_drew ?_))); (case side4 => exact (Kd.R_reads' HO_3.out).2.1); rintro e w' ⟨rfl, ⟨nd, rfl⟩⟩; (try first | exact ⟨rfl, _, World.drewN_drewN _ _ _⟩ | exact ⟨rfl, _, Eq.trans (World.drewN_drewN _ _ _) (congrArg (World.drewN _) (Nat.add_assoc _ _ _))⟩))))
                          go_roundg k8
                          case measure => have := HK1.out; have := HJ12.out; have := HJ21.out; have := HJ39.out; have := HJ51.out; have := HJ62.out; have := HJ68.out; have := HK8.out; omega
                          case rel => exact ⟨(x3_1), (wrap64 (x4_1 + 1)), (by first | rfl | (simp; done) | (simp [*]; done)), H', ⟨by have := HK1.out; have := HJ12.out; have := HJ21.out; have := HJ39.out; have := HJ51.out; have := HJ62.out; have := HJ68.out; have := HK8.out; omega⟩, ⟨by (with_reducible repeat (first | apply Kd.R_alloc | apply Kd.R_drewN | apply Kd.R_drew)); exact Kd.R_mono HO_3.out (fun _ hk => trivial)⟩, ⟨by (with_reducible repeat (first | refine blk_drewN ?_ _ | refine blk_drew ?_ | refine blk_alloc ?_ _)); exact BK249.out⟩, ⟨by repeat (first | (with_reducible first | exact HB.out | apply below_alloc | apply pw_below_drewN | apply below_drew1 | refine below_set ?_ GE249.out | refine below_set ?_ GE256.out) | exact HB.out)⟩⟩
                        ·replace c88 := Bool.eq_false_iff.mpr c88
                         subst c88
                         have H1 : (some false) = some r := by rw [if_neg (show ¬ (false = true) by decide)] at H; exact H
                         clear H
                         have H := H1
                         clear H1
                         obtain rfl := Option.some.inj H
                         obtain ⟨Ao95, co95, eo95⟩ := Kd.R_slice HO_13.out
                         subst eo95
                         go_wp2_with (first | (go_at_call 16; (with_reducible refine (fairwayref0_EqGroups.calls k8 _ _ t265 _ _ x3_1 false _ ?side1 ?side2 ?side3 ?side4 A87.out).mono ?_); (case side1 => repeat (first | exact (Kd.R_reads' HO_12.out).2.2 | (with_reducible refine Kd.C_alloc ?_ _) | (with_reducible refine Kd.C_drewN ?_ _) | (with_reducible refine Kd.C_drew ?_))); (case side2 => exact (Kd.R_reads' HO_12.out).2.1); (case side3 => repeat (first | exact (Kd.R_reads' HO_3.out).2.2 | (with_reducible refine Kd.C_alloc ?_ _) | (with_reducible refine Kd.C_drewN ?_ _) | (with_reducible refine Kd.C_drew ?_))); (case side4 => exact (Kd.R_reads' HO_3.out).2.1); rintro e w' ⟨rfl, ⟨nd, rfl⟩⟩; (try first | exact ⟨rfl, _, World.drewN_drewN _ _ _⟩ | exact ⟨rfl, _, Eq.trans (World.drewN_drewN _ _ _) (congrArg (World.drewN _) (Nat.add_assoc _ _ _))⟩)))
                         repeat (go_quiet (first | (go_at_call 16; (with_reducible refine (fairwayref0_EqGroups.calls k8 _ _ t265 _ _ x3_1 false _ ?side1 ?side2 ?side3 ?side4 A87.out).mono ?_); (case side1 => repeat (first | exact (Kd.R_reads' HO_12.out).2.2 | (with_reducible refine Kd.C_alloc ?_ _) | (with_reducible refine Kd.C_drewN ?_ _) | (with_reducible refine Kd.C_drew ?_))); (case side2 => exact (Kd.R_reads' HO_12.out).2.1); (case side3 => repeat (first | exact (Kd.R_reads' HO_3.out).2.2 | (with_reducible refine Kd.C_alloc ?_ _) | (with_reducible refine Kd.C_drewN ?_ _) | (with_reducible refine Kd.C_drew ?_))); (case side4 => exact (Kd.R_reads' HO_3.out).2.1); rintro e w' ⟨rfl, ⟨nd, rfl⟩⟩; (try first | exact ⟨rfl, _, World.drewN_drewN _ _ _⟩ | exact ⟨rfl, _, Eq.trans (World.drewN_drewN _ _ _) (congrArg (World.drewN _) (Nat.add_assoc _ _ _))⟩))); try go_wp2_with (first | (go_at_call 16; (with_reducible refine (fairwayref0_EqGroups.calls k8 _ _ t265 _ _ x3_1 false _ ?side1 ?side2 ?side3 ?side4 A87.out).mono ?_); (case side1 => repeat (first | exact (Kd.R_reads' HO_12.out).2.2 | (with_reducible refine Kd.C_alloc ?_ _) | (with_reducible refine Kd.C_drewN ?_ _) | (with_reducible refine Kd.C_drew ?_))); (case side2 => exact (Kd.R_reads' HO_12.out).2.1); (case side3 => repeat (first | exact (Kd.R_reads' HO_3.out).2.2 | (with_reducible refine Kd.C_alloc ?_ _) | (with_reducible refine Kd.C_drewN ?_ _) | (with_reducible refine Kd.C_drew ?_))); (case side4 => exact (Kd.R_reads' HO_3.out).2.1); rintro e w' ⟨rfl, ⟨nd, rfl⟩⟩; (try first | exact ⟨rfl, _, World.drewN_drewN _ _ _⟩ | exact ⟨rfl, _, Eq.trans (World.drewN_drewN _ _ _) (congrArg (World.drewN _) (Nat.add_assoc _ _ _))⟩))))
                         go_ret
                         exact ⟨by first | rfl | (simp [errW_none, errW_some] <;> rfl) | (simp [*, errW_none, errW_some] <;> rfl), by repeat (first | (with_reducible first | exact HB.out | apply below_alloc | apply pw_below_drewN | apply below_drew1 | refine below_set ?_ GE249.out | refine below_set ?_ GE256.out) | exact HB.out)⟩
        ·rw [if_neg c19] at H
         exact absurd H (by simp)
       ·rw [if_neg c18] at H
        exact absurd H (by simp)
      ·replace c17 := Bool.eq_false_iff.mpr c17
       subst c17
       have H1 : ((fairwaylaw17_wakes.f kj12).bind fun t254 => (some t254)) = some r := by rw [if_neg (show ¬ (false = true) by decide)] at H; exact H
       clear H
       have H := H1
       clear H1
       replace H := Option.bind_eq_some_iff.mp H
       obtain ⟨t254, A960, H⟩ := H
       replace H : (some t254) = some r := H
       have A96 := Aside0.mk A960
       clear A960
       obtain rfl := Option.some.inj H
       go_wp2_with (first | (go_at_call 17; (with_reducible refine (fairwaylaw17_wakes.calls kj12  t254 _ A96.out ?side1).mono ?_); (case side1 => exact Tabs_below HT.out (by repeat (first | (with_reducible first | exact HB.out | apply below_alloc | apply pw_below_drewN | apply below_drew1 | refine below_set ?_ GE249.out) | exact HB.out))); rintro e w97 ⟨rfl, hb⟩; have n0_ := Aside0.mk (Kd.R_below (by (with_reducible repeat (first | apply Kd.R_alloc | apply Kd.R_drewN | apply Kd.R_drew)); exact HO_3.out) hb); have n1_ := Aside0.mk (blk_below (g := gb249) (o := .cells #[.slice A0_0 l0_0.length c0_0, .slice A0_1 l0_1.length c0_1, .slice A0_2 l0_2.length c0_2] 25 (0, 0)) (by (with_reducible repeat (first | refine blk_drewN ?_ _ | refine blk_drew ?_ | refine blk_alloc ?_ _)); exact BK249.out) hb); have n2_ := Aside0.mk (below_step (by repeat (first | (with_reducible first | exact HB.out | apply below_alloc | apply pw_below_drewN | apply below_drew1 | refine below_set ?_ GE249.out) | exact HB.out)) hb); clear HO_3; clear BK249; clear HB; have HO_3 := n0_; have BK249 := n1_; have HB := n2_; clear n0_ n1_ n2_; (try clear hb); (try clear hb2); (try clear hk); (try clear hi)))
       repeat (go_quiet (first | (go_at_call 17; (with_reducible refine (fairwaylaw17_wakes.calls kj12  t254 _ A96.out ?side1).mono ?_); (case side1 => exact Tabs_below HT.out (by repeat (first | (with_reducible first | exact HB.out | apply below_alloc | apply pw_below_drewN | apply below_drew1 | refine below_set ?_ GE249.out) | exact HB.out))); rintro e w97 ⟨rfl, hb⟩; have n0_ := Aside0.mk (Kd.R_below (by (with_reducible repeat (first | apply Kd.R_alloc | apply Kd.R_drewN | apply Kd.R_drew)); exact HO_3.out) hb); have n1_ := Aside0.mk (blk_below (g := gb249) (o := .cells #[.slice A0_0 l0_0.length c0_0, .slice A0_1 l0_1.length c0_1, .slice A0_2 l0_2.length c0_2] 25 (0, 0)) (by (with_reducible repeat (first | refine blk_drewN ?_ _ | refine blk_drew ?_ | refine blk_alloc ?_ _)); exact BK249.out) hb); have n2_ := Aside0.mk (below_step (by repeat (first | (with_reducible first | exact HB.out | apply below_alloc | apply pw_below_drewN | apply below_drew1 | refine below_set ?_ GE249.out) | exact HB.out)) hb); clear HO_3; clear BK249; clear HB; have HO_3 := n0_; have BK249 := n1_; have HB := n2_; clear n0_ n1_ n2_; (try clear hb); (try clear hb2); (try clear hk); (try clear hi))); try go_wp2_with (first | (go_at_call 17; (with_reducible refine (fairwaylaw17_wakes.calls kj12  t254 _ A96.out ?side1).mono ?_); (case side1 => exact Tabs_below HT.out (by repeat (first | (with_reducible first | exact HB.out | apply below_alloc | apply pw_below_drewN | apply below_drew1 | refine below_set ?_ GE249.out) | exact HB.out))); rintro e w97 ⟨rfl, hb⟩; have n0_ := Aside0.mk (Kd.R_below (by (with_reducible repeat (first | apply Kd.R_alloc | apply Kd.R_drewN | apply Kd.R_drew)); exact HO_3.out) hb); have n1_ := Aside0.mk (blk_below (g := gb249) (o := .cells #[.slice A0_0 l0_0.length c0_0, .slice A0_1 l0_1.length c0_1, .slice A0_2 l0_2.length c0_2] 25 (0, 0)) (by (with_reducible repeat (first | refine blk_drewN ?_ _ | refine blk_drew ?_ | refine blk_alloc ?_ _)); exact BK249.out) hb); have n2_ := Aside0.mk (below_step (by repeat (first | (with_reducible first | exact HB.out | apply below_alloc | apply pw_below_drewN | apply below_drew1 | refine below_set ?_ GE249.out) | exact HB.out)) hb); clear HO_3; clear BK249; clear HB; have HO_3 := n0_; have BK249 := n1_; have HB := n2_; clear n0_ n1_ n2_; (try clear hb); (try clear hb2); (try clear hk); (try clear hi))))
       go_ret
       exact ⟨by first | rfl | (simp [errW_none, errW_some] <;> rfl) | (simp [*, errW_none, errW_some] <;> rfl), by repeat (first | (with_reducible first | exact HB.out | apply below_alloc | apply pw_below_drewN | apply below_drew1 | refine below_set ?_ GE249.out) | exact HB.out)⟩

end Go.Proofs.YtoflajekfpggbaaDoor.P
