/- By hand: the disk: what the closed laws use; wakes. -/
import Derived.Test.YtknljmljlgcfbaaDisk9
import Derived.Test.YtknljmljlgcfbaaP1
namespace Go.Proofs.Ytknljmljlgcfbaa.P
open Go.RowKit Go.Proofs.YtknljmljlgcfbaaW.PrintWords Go.Proofs.YtknljmljlgcfbaaW.PrintLast Go.Proofs.YtknljmljlgcfbaaW.PrintMore
open Go.Proofs.Ytknljmljlgcfbaa
set_option linter.unusedSimpArgs false
set_option linter.unusedVariables false
theorem disk_New.empty (w : World) : Calls Try.prog 11 #[.slice none 0 0, .slice none 0 0] w fun e w' => ∃ d m, w.heap.size ≤ d ∧ w.heap.size ≤ m ∧ e = .returned (.tuple #[.pointer (some ⟨d, 0, none⟩), .int .i64 0]) ∧ DiskAt w' d m [] 0 false ∧ Below w.heap.size w w' := by
  refine (disk_New.calls none 0 [] none 0 [] w (Kd.C_nil _ _) (Nat.le_refl _) (Kd.C_nil _ _) (Nat.le_refl _)).mono ?_
  rintro e w' ⟨⟨d, m, h1, h2, h3, h4⟩, h5⟩
  exact ⟨d, m, h1, h2, h3, h4, h5⟩
theorem disk_Append.to (w : World) (d m : Nat) (F F' : List DFile) (left left' : Int) (off off' : Bool) (n s : ByteArray) (e' : Int) (h : DiskAt w d m F left off) (hr : appR F left off n s = (F', e')) (hL : cntL left = left') (hO : cntO left off = off') (hl : left ≤ 9223372036854775807) (hu : usedD F ≤ 4611686018427387904) (hz : (txtD F n).size ≤ 4000000000000000000) (hfl : F.length ≤ 4000000000000000000) (hsz : s.size ≤ 4000000000000000000) :
    Calls Try.prog 15 #[.pointer (some ⟨d, 0, none⟩), .string n, .string s] w fun e w' => e = .returned (.int .i64 e') ∧ DiskAt w' d m F' left' off' ∧ Fr w w' (DM d m) := by
  have := disk_Append.calls w d m F left off n s h hl hu hz hfl hsz
  rw [hr, hL, hO] at this
  exact this
theorem disk_Sync.to (w : World) (d m : Nat) (F F' : List DFile) (left left' : Int) (off off' : Bool) (n : ByteArray) (e' : Int) (h : DiskAt w d m F left off) (hr : syncR F left off n = (F', e')) (hL : cntL left = left') (hO : cntO left off = off') (hl : left ≤ 9223372036854775807) :
    Calls Try.prog 17 #[.pointer (some ⟨d, 0, none⟩), .string n] w fun e w' => e = .returned (.int .i64 e') ∧ DiskAt w' d m F' left' off' ∧ Fr w w' (DM d m) := by
  have := disk_Sync.calls w d m F left off n h hl
  rw [hr, hL, hO] at this
  exact this
theorem disk_Del.to (w : World) (d m : Nat) (F F' : List DFile) (left left' : Int) (off off' : Bool) (n : ByteArray) (e' : Int) (h : DiskAt w d m F left off) (hr : delR F left off n = (F', e')) (hL : cntL left = left') (hO : cntO left off = off') (hl : left ≤ 9223372036854775807) :
    Calls Try.prog 22 #[.pointer (some ⟨d, 0, none⟩), .string n] w fun e w' => e = .returned (.int .i64 e') ∧ DiskAt w' d m F' left' off' ∧ Fr w w' (DM d m) := by
  have := disk_Del.calls w d m F left off n h hl
  rw [hr, hL, hO] at this
  exact this
theorem disk_Rename.to (w : World) (d m : Nat) (F F' : List DFile) (left left' : Int) (off off' : Bool) (n t : ByteArray) (e' : Int) (h : DiskAt w d m F left off) (hr : renR F left off n t = (F', e')) (hL : cntL left = left') (hO : cntO left off = off') (hl : left ≤ 9223372036854775807) :
    Calls Try.prog 18 #[.pointer (some ⟨d, 0, none⟩), .string n, .string t] w fun e w' => e = .returned (.int .i64 e') ∧ DiskAt w' d m F' left' off' ∧ Fr w w' (DM d m) := by
  have := disk_Rename.calls w d m F left off n t h hl
  rw [hr, hL, hO] at this
  exact this
/-- Rising names out of one name, out of two. -/
theorem NamesOf.one {f : DFile} {xs : List ByteArray} (h : NamesOf [f] xs) : xs = [f.name] := List.perm_singleton.1 h.perm
/-- The same strings, by the page's own eye. -/
theorem eqs_refl : ∀ (l : List ByteArray), l.length ≤ 64 → fairwayref0_EqStrings.f 100 l l = some true := by
  have loop : ∀ (l : List ByteArray), l.length ≤ 64 → ∀ (m i k : Nat), i + m = l.length → m + 1 ≤ k → fairwayref0_EqStrings.l0 k l l (i : Int) = some true := by
    intro l hl m
    induction m with
    | zero =>
      intro i k h hk
      obtain ⟨k, rfl⟩ : ∃ q, k = q + 1 := ⟨k - 1, by omega⟩
      rw [fairwayref0_EqStrings.l0, if_neg (by omega)]
    | succ m ih =>
      intro i k h hk
      obtain ⟨k, rfl⟩ : ∃ q, k = q + 1 := ⟨k - 1, by omega⟩
      have e1 : wrap64 ((i : Int) + 1) = ((i + 1 : Nat) : Int) := by unfold wrap64; omega
      rw [fairwayref0_EqStrings.l0, if_pos (by omega), if_pos (by omega), if_pos (by omega), e1]
      simp only [if_true]
      exact ih (i + 1) k (by omega) (by omega)
  intro l hl
  unfold fairwayref0_EqStrings.f
  rw [if_pos rfl]
  exact loop l hl l.length 0 100 (by omega) (by omega)
theorem eqs_calls (A0 : Option Addr) (c0 : Nat) (l : List ByteArray) (A1 : Option Addr) (c1 : Nat) (w : World) (hr0 : Kd.C Kd.string w A0 l.length l) (hc0 : l.length ≤ c0) (hr1 : Kd.C Kd.string w A1 l.length l) (hc1 : l.length ≤ c1) (h : l.length ≤ 64) :
    Calls Try.prog 20 #[.slice A0 l.length c0, .slice A1 l.length c1] w fun e w' => e = .returned (.bool true) ∧ Drawn0 w w' := fairwayref0_EqStrings.calls 100 A0 c0 l A1 c1 l true w hr0 hc0 hr1 hc1 (eqs_refl l h)
theorem lit_C {w : World} {g : Nat} {s : ByteArray} (h : w.heap[g]? = some (.cells #[.string s] 9 (0, 0))) : Kd.C Kd.string w (some ⟨g, 0, none⟩) 1 [s] :=
  ⟨rfl, by decide, fun _ => ⟨_, rfl, fun j p hj => by
    obtain rfl : j = 0 := by
      have := (List.getElem?_eq_some_iff.1 hj).1
      simpa using this
    obtain rfl : s = p := by simpa using hj
    refine ⟨[.string s], rfl, rfl, fun q u hu => ?_⟩
    obtain rfl : q = 0 := by
      have := (List.getElem?_eq_some_iff.1 hu).1
      simpa using this
    obtain rfl : Value.string s = u := by simpa using hu
    rw [add_at, cell_of_row w _ _ _ 9 (0, 0) h]
    rfl⟩⟩
theorem alloc_at {w : World} {o : Obj} {n : Nat} (h : w.heap.size = n) : (w.alloc o).heap[n]? = some o := by subst h; exact heap_alloc_new w o
theorem eqs_one (A0 : Option Addr) (c0 : Nat) (s : ByteArray) (hc0 : 1 ≤ c0) : ∀ (w : World) (g : Nat), Kd.C Kd.string w A0 1 [s] → Kd.C Kd.string w (some ⟨g, 0, none⟩) 1 [s] → Calls Try.prog 20 #[.slice A0 1 c0, .slice (some ⟨g, 0, none⟩) 1 1] w fun e w' => e = .returned (.bool true) ∧ Drawn0 w w' :=
  fun w g h1 h2 => eqs_calls A0 c0 [s] _ 1 w h1 hc0 h2 (Nat.le_refl _) (by simp)
set_option maxRecDepth 100000 in
set_option maxHeartbeats 4000000 in
theorem disk_wakes.calls (w : World) : Calls Try.prog 16 #[] w fun e w' => e = .returned (.bool true) ∧ Below w.heap.size w w' := by
  have a1 : appR [] 0 false ⟨#[97]⟩ ⟨#[98, 99]⟩ = ([⟨⟨#[97]⟩, ⟨#[98, 99]⟩, 0⟩], 0) := by kernel_rfl
  have a2 : syncR [⟨⟨#[97]⟩, ⟨#[98, 99]⟩, 0⟩] 0 false ⟨#[97]⟩ = ([⟨⟨#[97]⟩, ⟨#[98, 99]⟩, 2⟩], 0) := by kernel_rfl
  have hok : OkD [⟨⟨#[97]⟩, ⟨#[98, 99]⟩, 2⟩] := ⟨by simp, by intro f hf; simp at hf; subst hf; decide, by intro f hf; simp at hf; subst hf; decide, by decide, by decide⟩
  have A1 := Aside0.mk a1
  have A2 := Aside0.mk a2
  have OK := Aside0.mk hok
  clear a1 a2 hok
  go_enter Try.func16, Try.ntmps16
  go_wp2_with (first
    | (go_at_call 11; (with_reducible refine (disk_New.empty _).mono ?_); rintro _ w1 ⟨d, m, h1, h2, rfl, h4, h5⟩; have HD1 := Aside0.mk h4; have HB1 := Aside0.mk h5; have H1 := Aside0.mk h1; have H2 := Aside0.mk h2; clear h1 h2 h4 h5)
    | (go_at_call 15; go_loud ((refine (disk_Append.to _ d m _ _ 0 0 false false _ _ 0 (HD1.out.drewN _) A1.out rfl rfl (by decide) (by decide) (by decide) (by decide) (by decide)).mono ?_); rintro _ w2 ⟨rfl, hd, hf⟩; have HD2 := Aside0.mk hd; have HB2 := Aside0.mk (Fr.below (pw_below_drewN HB1.out _) hf (pw_below_drewN HB1.out _).size (fun k hk => by rcases hk with rfl | rfl; exact H1.out; exact H2.out)); clear hd hf))
    | (go_at_call 17; go_loud ((refine (disk_Sync.to _ d m _ _ 0 0 false false _ 0 HD2.out A2.out rfl rfl (by decide)).mono ?_); rintro _ w3 ⟨rfl, hd, hf⟩; have HD3 := Aside0.mk hd; have HB3 := Aside0.mk (Fr.below HB2.out hf HB2.out.size (fun k hk => by rcases hk with rfl | rfl; exact H1.out; exact H2.out)); clear hd hf))
    | (go_at_call 19; go_loud ((refine (disk_Crash.calls _ d m _ 0 false none 0 [] HD3.out OK.out (Kd.C_nil _ _) (Nat.le_refl _)).mono ?_); rintro _ w4 ⟨v, u, xs, rfl, hn, hr2, hd, hf⟩; obtain rfl := hn.one; have hcr : crTs [⟨⟨#[97]⟩, ⟨#[98, 99]⟩, 2⟩] [] [⟨#[97]⟩] 0 = [⟨#[98, 99]⟩] := (by kernel_rfl); rw [hcr] at hr2; have HR := Aside0.mk hr2; have HB4 := Aside0.mk (Fr.below HB3.out hf HB3.out.size (fun k hk => by rw [hk]; exact H1.out)); obtain ⟨Av, cv, ev, hcv, hCv⟩ := Kd.R_reads hr2.one; obtain ⟨Au, cu, eu, hcu, hCu⟩ := Kd.R_reads hr2.two; subst ev; subst eu; have HCLE : Aside0 (1 ≤ cv ∧ 1 ≤ cu) := ⟨⟨hcv, hcu⟩⟩; have HEA := Aside0.mk (eqs_one Av cv ⟨#[97]⟩ hcv); have HEB := Aside0.mk (eqs_one Au cu ⟨#[98, 99]⟩ hcu); have HCV := Aside0.mk hCv; have HCU := Aside0.mk hCu; clear hn hr2 hd hf hcr hCv hCu))
    | (go_at_call 20; ((with_reducible refine (HEA.out _ _ ?s1 ?s3).mono ?_)); go_loud (case s1 => (repeat (first | (with_reducible refine Kd.C_alloc ?_ _) | (with_reducible refine Kd.C_drewN ?_ _))); exact HCV.out); go_loud (case s3 => exact lit_C (heap_alloc_new _ _)); rintro _ _ ⟨rfl, ⟨nd2, rfl⟩⟩)
    | (go_at_call 20; ((with_reducible refine (HEB.out _ _ ?s1 ?s3).mono ?_)); go_loud (case s1 => (repeat (first | (with_reducible refine Kd.C_alloc ?_ _) | (with_reducible refine Kd.C_drewN ?_ _))); exact HCU.out); go_loud (case s3 => exact lit_C (alloc_at (by exact size_alloc' (w4.drewN _) _))); rintro _ _ ⟨rfl, ⟨nd2, rfl⟩⟩)
    | (go_at_call 12; (with_reducible refine (fairwaylaw9_num.calls _ _ _ rfl).mono ?_); rintro _ _ ⟨rfl, ⟨nd, rfl⟩⟩))
  go_ret
  exact ⟨rfl, by (repeat (first | (with_reducible apply pw_below_drewN) | (with_reducible apply below_alloc))); exact HB4.out⟩
end Go.Proofs.Ytknljmljlgcfbaa.P
