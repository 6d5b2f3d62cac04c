/- By hand, in the printed form: slices.Clone at a flat struct. -/
import Derived.Test.YtoflajekfpggbaaDoorP0
import Derived.Test.YtoflajekfpggbaaDoorRaw
import Derived.Lib.SliceRun
namespace Go.Proofs.YtoflajekfpggbaaDoor.P
open Go.RowKit Go.Proofs.YtoflajekfpggbaaDoorW.PrintWords Go.Proofs.YtoflajekfpggbaaDoorW.PrintLast Go.Proofs.YtoflajekfpggbaaDoorW.PrintMore
open Go.Proofs.YtoflajekfpggbaaDoor
set_option linter.unusedSimpArgs false
set_option linter.unusedVariables false
def api_Group_31.f (l : List S29) : Option (List S29) := if l.length * 40 ≤ 140737488355328 then some l else none
set_option maxRecDepth 100000 in
set_option maxHeartbeats 2000000 in
theorem api_Group_31.calls (A0 : Option Addr) (c0 : Nat) (l0 : List S29) (r : List S29) (w : World) (hr0 : Kd.C k29 w A0 l0.length l0) (hc0 : l0.length ≤ c0) (h : api_Group_31.f l0 = some r) :
    Calls Tryd.prog 31 #[.slice A0 l0.length c0] w fun e w' => ∃ v0_ : Value, e = .returned (v0_) ∧ Kd.R k29 29 w' w.heap.size (fun _ => True) v0_ r ∧ Below w.heap.size w w' := by
  unfold api_Group_31.f at h
  split at h
  · rename_i hz
    obtain rfl := Option.some.inj h
    clear h
    have HR := Aside0.mk hr0
    have HZ := Aside0.mk hz
    cases A0 with
    | none =>
      have h0 : l0 = [] := by
        rcases Nat.eq_zero_or_pos l0.length with h0 | h0
        · exact List.eq_nil_of_length_eq_zero h0
        · obtain ⟨ad, e, _⟩ := hr0.2.2 h0
          cases e
      subst h0
      clear hr0 hz
      have hnil : ∀ W : World, (binOp .eql 22 (.slice none 0 c0) (.slice none 0 0)).run Tryd.prog W = .ok (.bool true) W := fun W => Lib.run_eql_slice_nil W 22 29 none _ _ 0 0 Tryd.underlying22
      go_enter Tryd.func31, Tryd.ntmps31
      go_wp2
      go_ret
      exact ⟨_, rfl, Kd.R_nil _ _ _ _ _, Below.refl _ _⟩
    | some ad =>
      clear hr0 hz
      have hnil : ∀ W : World, (binOp .eql 22 (.slice (some ad) l0.length c0) (.slice none 0 0)).run Tryd.prog W = .ok (.bool false) W := fun W => Lib.run_eql_slice_nil W 22 29 (some ad) _ _ 0 0 Tryd.underlying22
      go_enter Tryd.func31, Tryd.ntmps31
      have HE : Kd.R k29 29 (w.alloc (.cells #[] 29)) w.heap.size (fun _ => True) (.slice (some ⟨w.heap.size, 0, none⟩) ([] : List S29).length 0) [] :=
        Raw.R_close (w := w) (cur := []) (Raw.blk_new w 29 []) (Nat.le_refl _) trivial (by simp) (by decide) (by simp) (Reps.none _ _) (fun k _ hk hlt => heap_alloc_old w _ hlt)
      have hs0 : 0 < k29.sz := Nat.succ_pos _
      have hb0 : 0 < 40 := Nat.succ_pos _
      have HOE := Aside0.mk HE
      have HRA := Aside0.mk (Kd.C_below HR.out (below_alloc (Below.refl _ w) (.cells #[] 29)))
      clear HE HR
      go_wp2_with (first | ((with_reducible refine gate_builtin (b := .append) (xs := #[.tmp 5, .tmp 6]) rfl ?_); at_builtin; go_loud (refine Kd.R_append_rows k29 (Rr := k29.K (w.alloc (.cells #[] 29))) (w0 := w) w.heap.size rfl (.tmp 5) (.tmp 6) 22 29 _ 40 rfl Tryd.underlying22 info29 rfl hs0 hb0 _ [] l0 (some ad) l0.length c0 (fun _ => True) (fun _ => False) rfl rfl ?aO ?aR ?aK (fun _ hk => hk.elim) (fun _ _ => trivial) ?aB ?aS ?aL ?_); (go_loud (case aO => exact HOE.out)); (go_loud (case aR => exact HRA.out)); (go_loud (case aK => exact fun x cs hx => k29_open hx ▸ k29_mkM _ _ _ _)); (go_loud (case aB => exact below_alloc (Below.refl _ w) _)); (go_loud (case aS => exact (below_alloc (Below.refl _ w) (.cells #[] 29)).size)); (go_loud (case aL => have := HZ.out; simpa using this)); go_loud (intro v1 w1 ho hb1 hg hat); have HO1 := Aside0.mk ho; have HB1 := Aside0.mk hb1; clear ho hb1 hg hat))
      go_ret
      exact ⟨_, rfl, by simpa using HO1.out, HB1.out⟩
  · cases h
end Go.Proofs.YtoflajekfpggbaaDoor.P
