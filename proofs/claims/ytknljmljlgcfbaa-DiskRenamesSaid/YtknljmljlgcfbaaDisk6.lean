/- By hand: the disk: Append, Off. -/
import Derived.Test.YtknljmljlgcfbaaDisk5
namespace Go.Proofs.Ytknljmljlgcfbaa.P
open Go.RowKit Go.Proofs.YtknljmljlgcfbaaW.PrintWords Go.Proofs.YtknljmljlgcfbaaW.PrintLast Go.Proofs.YtknljmljlgcfbaaW.PrintMore
open Go.Proofs.Ytknljmljlgcfbaa
attribute [local go_sem] max2_int min2_int max_two min_two max_three min_three max_four min_four
set_option linter.unusedSimpArgs false
set_option linter.unusedVariables false
def txtD (F : List DFile) (n : ByteArray) : ByteArray := match lkD F n with | none => ⟨#[]⟩ | some f => f.text
def safD (F : List DFile) (n : ByteArray) : Int := match lkD F n with | none => 0 | some f => f.safe
def isD (F : List DFile) (n : ByteArray) : Bool := (lkD F n).isSome
theorem lookD_any {w : World} {m : Nat} {F : List DFile} (h : SMap w m (encF F)) (n : ByteArray) :
    (Instr.lookup 46 (.map (some m)) (.string n) true).run Try.prog w = .ok (.tuple #[.agg #[.string (txtD F n), .int .i64 (safD F n)], .bool (isD F n)]) w := by
  have := lookD h n
  rw [this]
  unfold txtD safD isD
  cases lkD F n <;> rfl
def fullD (F : List DFile) (n s : ByteArray) : Bool := decide (65536 - ((txtD F n).size : Int) < s.size) || (decide (1048576 - usedD F < s.size) || (!isD F n && decide (64 ≤ F.length)))
def appR (F : List DFile) (left : Int) (off : Bool) (n s : ByteArray) : List DFile × Int :=
  if cntO left off = true then (F, 10) else if namedD n = false then (F, 1) else if fullD F n s = true then (F, 5) else (putD F ⟨n, txtD F n ++ s, safD F n⟩, 0)
set_option maxRecDepth 100000 in
set_option maxHeartbeats 4000000 in
theorem disk_Append.calls (w : World) (d m : Nat) (F : List DFile) (left : Int) (off : Bool) (n s : ByteArray) (h : DiskAt w d m F left off) (hl : left ≤ 9223372036854775807) (hu : usedD F ≤ 4611686018427387904) (hz : (txtD F n).size ≤ 4000000000000000000) (hfl : F.length ≤ 4000000000000000000) (hsz : s.size ≤ 4000000000000000000) :
    Calls Try.prog 15 #[.pointer (some ⟨d, 0, none⟩), .string n, .string s] w fun e w' => e = .returned (.int .i64 (appR F left off n s).2) ∧ DiskAt w' d m (appR F left off n s).1 (cntL left) (cntO left off) ∧ Fr w w' (DM d m) := by
  have HD := Aside0.mk h
  have HL := Aside0.mk hl
  have HU := Aside0.mk hu
  have hu0 := usedD_nonneg F
  clear h hl
  unfold appR
  cases h0 : cntO left off with
  | true =>
    have H0 := Aside0.mk h0
    clear h0
    go_enter Try.func15, Try.ntmps15
    go_wp2_with (go_at_call 28; (with_reducible refine (disk_counts.gone _ d m left off HD.out.cells HL.out H0.out).mono ?_); rintro _ w1 ⟨rfl, hb1, hf1⟩; go_loud (have HD1 := Aside0.mk (HD.out.counted hb1 hf1); have HF1 := Aside0.mk hf1; have k0 : w1.cell? ⟨d, 0, none⟩ = some (.map (some m)) := (blk_cell HD1.out.cells 0).trans rfl; have hlk := lookD_any HD1.out.map n; clear hb1 hf1))
    go_ret
    exact ⟨rfl, HD1.out, HF1.out.mono (fun _ hk => .inl hk)⟩
  | false =>
    have H0 := Aside0.mk h0
    clear h0
    cases hnm : namedD n with
    | false =>
      simp only [if_true, Bool.false_eq_true, if_false]
      have HNM := Aside0.mk hnm
      clear hnm
      go_enter Try.func15, Try.ntmps15
      go_wp2_with (first | (go_at_call 28; (with_reducible refine (disk_counts.here _ d m left off HD.out.cells HL.out H0.out).mono ?_); rintro _ w1 ⟨rfl, hb1, hf1⟩; go_loud (have HD1 := Aside0.mk (HD.out.counted hb1 hf1); have HF1 := Aside0.mk hf1; have k0 : w1.cell? ⟨d, 0, none⟩ = some (.map (some m)) := (blk_cell HD1.out.cells 0).trans rfl; have hlk := lookD_any HD1.out.map n; clear hb1 hf1)) | (go_at_call 24; go_loud ((with_reducible refine (disk_named.is _ _ HNM.out _).mono ?_); rintro _ w2 ⟨rfl, hb⟩; have HD2 := Aside0.mk ((HD1.out.alloc _).below hb); have HF2 := Aside0.mk ((HF1.out.alloc _).trans (Fr.of_below hb (fun _ => False)) (fun _ hk => hk.elim)); have HG2 := Aside0.mk (FBlk.below (heap_alloc_new w1 _) hb); have g2 : w2.cell? ⟨d, 0, none⟩ = some (.map (some m)) := (blk_cell HD2.out.cells 0).trans rfl; have x2 : w2.cell? ⟨w1.heap.size, 0, none⟩ = some (.string (txtD F n)) := (blk_cell HG2.out 0).trans rfl; have x3 : w2.cell? ⟨w1.heap.size, 1, none⟩ = some (.int .i64 (safD F n)) := (blk_cell HG2.out 1).trans rfl; have hl2 : ∀ ty, (Builtin.len_ #[46] ty #[.map (some m)]).run Try.prog w2 = .ok (goInt F.length) w2 := fun ty => (by have := SMap.len (P := Try.prog) Try.underlying46 HD2.out.map ty; rwa [encF, List.length_map] at this); clear hb)) | (go_at_call 25; (with_reducible refine (disk_used.calls _ d m F _ _ HD2.out HU.out).mono ?_); rintro _ w3 ⟨rfl, hb⟩; have HD3 := Aside0.mk (HD2.out.below hb); have HF3 := Aside0.mk (HF2.out.trans (Fr.of_below hb (fun _ => False)) (fun _ hk => hk.elim)); have HG3 := Aside0.mk (FBlk.below HG2.out hb); have g3 : w3.cell? ⟨d, 0, none⟩ = some (.map (some m)) := (blk_cell HD3.out.cells 0).trans rfl; have x4 : w3.cell? ⟨w1.heap.size, 0, none⟩ = some (.string (txtD F n)) := (blk_cell HG3.out 0).trans rfl; have x5 : w3.cell? ⟨w1.heap.size, 1, none⟩ = some (.int .i64 (safD F n)) := (blk_cell HG3.out 1).trans rfl; have hl3 : ∀ ty, (Builtin.len_ #[46] ty #[.map (some m)]).run Try.prog w3 = .ok (goInt F.length) w3 := fun ty => (by have := SMap.len (P := Try.prog) Try.underlying46 HD3.out.map ty; rwa [encF, List.length_map] at this); clear hb))
      go_ret
      exact ⟨rfl, HD2.out, HF2.out.mono (fun _ hk => .inl hk)⟩
    | true =>
      simp only [Bool.true_eq_false, Bool.false_eq_true, if_false]
      have HNM := Aside0.mk hnm
      clear hnm
      have q1 : IntKind.i64.wrap (65536 - ((txtD F n).size : Int)) = 65536 - ((txtD F n).size : Int) := by rw [IntKind.wrap_i64]; omega
      have q2 : IntKind.i64.wrap (1048576 - usedD F) = 1048576 - usedD F := by rw [IntKind.wrap_i64]; omega
      have hcat : (9223372036854775807 < (txtD F n).size + s.size) = False := eq_false (by omega)
      clear hu hz hu0
      cases c1 : decide (65536 - ((txtD F n).size : Int) < (s.size : Int)) with
      | true =>
        have hfu : fullD F n s = true := by unfold fullD; rw [c1]; rfl
        simp only [hfu, if_true]
        go_enter Try.func15, Try.ntmps15
        go_wp2_with (first | (go_at_call 28; (with_reducible refine (disk_counts.here _ d m left off HD.out.cells HL.out H0.out).mono ?_); rintro _ w1 ⟨rfl, hb1, hf1⟩; go_loud (have HD1 := Aside0.mk (HD.out.counted hb1 hf1); have HF1 := Aside0.mk hf1; have k0 : w1.cell? ⟨d, 0, none⟩ = some (.map (some m)) := (blk_cell HD1.out.cells 0).trans rfl; have hlk := lookD_any HD1.out.map n; clear hb1 hf1)) | (go_at_call 24; go_loud ((with_reducible refine (disk_named.is _ _ HNM.out _).mono ?_); rintro _ w2 ⟨rfl, hb⟩; have HD2 := Aside0.mk ((HD1.out.alloc _).below hb); have HF2 := Aside0.mk ((HF1.out.alloc _).trans (Fr.of_below hb (fun _ => False)) (fun _ hk => hk.elim)); have HG2 := Aside0.mk (FBlk.below (heap_alloc_new w1 _) hb); have g2 : w2.cell? ⟨d, 0, none⟩ = some (.map (some m)) := (blk_cell HD2.out.cells 0).trans rfl; have x2 : w2.cell? ⟨w1.heap.size, 0, none⟩ = some (.string (txtD F n)) := (blk_cell HG2.out 0).trans rfl; have x3 : w2.cell? ⟨w1.heap.size, 1, none⟩ = some (.int .i64 (safD F n)) := (blk_cell HG2.out 1).trans rfl; have hl2 : ∀ ty, (Builtin.len_ #[46] ty #[.map (some m)]).run Try.prog w2 = .ok (goInt F.length) w2 := fun ty => (by have := SMap.len (P := Try.prog) Try.underlying46 HD2.out.map ty; rwa [encF, List.length_map] at this); clear hb)) | (go_at_call 25; (with_reducible refine (disk_used.calls _ d m F _ _ HD2.out HU.out).mono ?_); rintro _ w3 ⟨rfl, hb⟩; have HD3 := Aside0.mk (HD2.out.below hb); have HF3 := Aside0.mk (HF2.out.trans (Fr.of_below hb (fun _ => False)) (fun _ hk => hk.elim)); have HG3 := Aside0.mk (FBlk.below HG2.out hb); have g3 : w3.cell? ⟨d, 0, none⟩ = some (.map (some m)) := (blk_cell HD3.out.cells 0).trans rfl; have x4 : w3.cell? ⟨w1.heap.size, 0, none⟩ = some (.string (txtD F n)) := (blk_cell HG3.out 0).trans rfl; have x5 : w3.cell? ⟨w1.heap.size, 1, none⟩ = some (.int .i64 (safD F n)) := (blk_cell HG3.out 1).trans rfl; have hl3 : ∀ ty, (Builtin.len_ #[46] ty #[.map (some m)]).run Try.prog w3 = .ok (goInt F.length) w3 := fun ty => (by have := SMap.len (P := Try.prog) Try.underlying46 HD3.out.map ty; rwa [encF, List.length_map] at this); clear hb))
        go_ret
        exact ⟨rfl, HD2.out, HF2.out.mono (fun _ hk => .inl hk)⟩
      | false =>
        cases c2 : decide (1048576 - usedD F < (s.size : Int)) with
        | true =>
          have hfu : fullD F n s = true := by unfold fullD; rw [c1, c2]; rfl
          simp only [hfu, if_true]
          go_enter Try.func15, Try.ntmps15
          go_wp2_with (first | (go_at_call 28; (with_reducible refine (disk_counts.here _ d m left off HD.out.cells HL.out H0.out).mono ?_); rintro _ w1 ⟨rfl, hb1, hf1⟩; go_loud (have HD1 := Aside0.mk (HD.out.counted hb1 hf1); have HF1 := Aside0.mk hf1; have k0 : w1.cell? ⟨d, 0, none⟩ = some (.map (some m)) := (blk_cell HD1.out.cells 0).trans rfl; have hlk := lookD_any HD1.out.map n; clear hb1 hf1)) | (go_at_call 24; go_loud ((with_reducible refine (disk_named.is _ _ HNM.out _).mono ?_); rintro _ w2 ⟨rfl, hb⟩; have HD2 := Aside0.mk ((HD1.out.alloc _).below hb); have HF2 := Aside0.mk ((HF1.out.alloc _).trans (Fr.of_below hb (fun _ => False)) (fun _ hk => hk.elim)); have HG2 := Aside0.mk (FBlk.below (heap_alloc_new w1 _) hb); have g2 : w2.cell? ⟨d, 0, none⟩ = some (.map (some m)) := (blk_cell HD2.out.cells 0).trans rfl; have x2 : w2.cell? ⟨w1.heap.size, 0, none⟩ = some (.string (txtD F n)) := (blk_cell HG2.out 0).trans rfl; have x3 : w2.cell? ⟨w1.heap.size, 1, none⟩ = some (.int .i64 (safD F n)) := (blk_cell HG2.out 1).trans rfl; have hl2 : ∀ ty, (Builtin.len_ #[46] ty #[.map (some m)]).run Try.prog w2 = .ok (goInt F.length) w2 := fun ty => (by have := SMap.len (P := Try.prog) Try.underlying46 HD2.out.map ty; rwa [encF, List.length_map] at this); clear hb)) | (go_at_call 25; (with_reducible refine (disk_used.calls _ d m F _ _ HD2.out HU.out).mono ?_); rintro _ w3 ⟨rfl, hb⟩; have HD3 := Aside0.mk (HD2.out.below hb); have HF3 := Aside0.mk (HF2.out.trans (Fr.of_below hb (fun _ => False)) (fun _ hk => hk.elim)); have HG3 := Aside0.mk (FBlk.below HG2.out hb); have g3 : w3.cell? ⟨d, 0, none⟩ = some (.map (some m)) := (blk_cell HD3.out.cells 0).trans rfl; have x4 : w3.cell? ⟨w1.heap.size, 0, none⟩ = some (.string (txtD F n)) := (blk_cell HG3.out 0).trans rfl; have x5 : w3.cell? ⟨w1.heap.size, 1, none⟩ = some (.int .i64 (safD F n)) := (blk_cell HG3.out 1).trans rfl; have hl3 : ∀ ty, (Builtin.len_ #[46] ty #[.map (some m)]).run Try.prog w3 = .ok (goInt F.length) w3 := fun ty => (by have := SMap.len (P := Try.prog) Try.underlying46 HD3.out.map ty; rwa [encF, List.length_map] at this); clear hb))
          go_ret
          exact ⟨rfl, HD3.out, HF3.out.mono (fun _ hk => .inl hk)⟩
        | false =>
          cases hb : isD F n with
          | true =>
            have hfu : fullD F n s = false := by unfold fullD; rw [c1, c2, hb]; rfl
            simp only [hfu, Bool.false_eq_true, if_false]
            have HBB := Aside0.mk hb
            go_enter Try.func15, Try.ntmps15
            go_wp2_with (first | (go_at_call 28; (with_reducible refine (disk_counts.here _ d m left off HD.out.cells HL.out H0.out).mono ?_); rintro _ w1 ⟨rfl, hb1, hf1⟩; go_loud (have HD1 := Aside0.mk (HD.out.counted hb1 hf1); have HF1 := Aside0.mk hf1; have k0 : w1.cell? ⟨d, 0, none⟩ = some (.map (some m)) := (blk_cell HD1.out.cells 0).trans rfl; have hlk := lookD_any HD1.out.map n; clear hb1 hf1)) | (go_at_call 24; go_loud ((with_reducible refine (disk_named.is _ _ HNM.out _).mono ?_); rintro _ w2 ⟨rfl, hb⟩; have HD2 := Aside0.mk ((HD1.out.alloc _).below hb); have HF2 := Aside0.mk ((HF1.out.alloc _).trans (Fr.of_below hb (fun _ => False)) (fun _ hk => hk.elim)); have HG2 := Aside0.mk (FBlk.below (heap_alloc_new w1 _) hb); have g2 : w2.cell? ⟨d, 0, none⟩ = some (.map (some m)) := (blk_cell HD2.out.cells 0).trans rfl; have x2 : w2.cell? ⟨w1.heap.size, 0, none⟩ = some (.string (txtD F n)) := (blk_cell HG2.out 0).trans rfl; have x3 : w2.cell? ⟨w1.heap.size, 1, none⟩ = some (.int .i64 (safD F n)) := (blk_cell HG2.out 1).trans rfl; have hl2 : ∀ ty, (Builtin.len_ #[46] ty #[.map (some m)]).run Try.prog w2 = .ok (goInt F.length) w2 := fun ty => (by have := SMap.len (P := Try.prog) Try.underlying46 HD2.out.map ty; rwa [encF, List.length_map] at this); clear hb)) | (go_at_call 25; (with_reducible refine (disk_used.calls _ d m F _ _ HD2.out HU.out).mono ?_); rintro _ w3 ⟨rfl, hb⟩; have HD3 := Aside0.mk (HD2.out.below hb); have HF3 := Aside0.mk (HF2.out.trans (Fr.of_below hb (fun _ => False)) (fun _ hk => hk.elim)); have HG3 := Aside0.mk (FBlk.below HG2.out hb); have g3 : w3.cell? ⟨d, 0, none⟩ = some (.map (some m)) := (blk_cell HD3.out.cells 0).trans rfl; have x4 : w3.cell? ⟨w1.heap.size, 0, none⟩ = some (.string (txtD F n)) := (blk_cell HG3.out 0).trans rfl; have x5 : w3.cell? ⟨w1.heap.size, 1, none⟩ = some (.int .i64 (safD F n)) := (blk_cell HG3.out 1).trans rfl; have hl3 : ∀ ty, (Builtin.len_ #[46] ty #[.map (some m)]).run Try.prog w3 = .ok (goInt F.length) w3 := fun ty => (by have := SMap.len (P := Try.prog) Try.underlying46 HD3.out.map ty; rwa [encF, List.length_map] at this); clear hb))
            obtain ⟨w4, hup, hd4, hf4⟩ := updD HD3.out.drew n (txtD F n ++ s) (safD F n)
            have HD4 := Aside0.mk hd4
            have HF4 := Aside0.mk ((HF3.out.drew.mono (S' := DM d m) (fun _ hk => .inl hk)).trans hf4 (fun _ hk => .inl (.inr hk)))
            clear hd4 hf4
            go_still_tail 12, (by kernel_rfl)
            change wpList _ _ _ _ _ w3.drew
            go_wp2
            go_ret
            exact ⟨rfl, HD4.out, HF4.out⟩
          | false =>
            cases c3 : decide (64 ≤ (F.length : Int)) with
            | true =>
              have c4 : decide (64 ≤ F.length) = true := by simp at c3 ⊢; omega
              have hfu : fullD F n s = true := by unfold fullD; rw [c1, c2, hb, c4]; rfl
              simp only [hfu, if_true]
              go_enter Try.func15, Try.ntmps15
              go_wp2_with (first | (go_at_call 28; (with_reducible refine (disk_counts.here _ d m left off HD.out.cells HL.out H0.out).mono ?_); rintro _ w1 ⟨rfl, hb1, hf1⟩; go_loud (have HD1 := Aside0.mk (HD.out.counted hb1 hf1); have HF1 := Aside0.mk hf1; have k0 : w1.cell? ⟨d, 0, none⟩ = some (.map (some m)) := (blk_cell HD1.out.cells 0).trans rfl; have hlk := lookD_any HD1.out.map n; clear hb1 hf1)) | (go_at_call 24; go_loud ((with_reducible refine (disk_named.is _ _ HNM.out _).mono ?_); rintro _ w2 ⟨rfl, hb⟩; have HD2 := Aside0.mk ((HD1.out.alloc _).below hb); have HF2 := Aside0.mk ((HF1.out.alloc _).trans (Fr.of_below hb (fun _ => False)) (fun _ hk => hk.elim)); have HG2 := Aside0.mk (FBlk.below (heap_alloc_new w1 _) hb); have g2 : w2.cell? ⟨d, 0, none⟩ = some (.map (some m)) := (blk_cell HD2.out.cells 0).trans rfl; have x2 : w2.cell? ⟨w1.heap.size, 0, none⟩ = some (.string (txtD F n)) := (blk_cell HG2.out 0).trans rfl; have x3 : w2.cell? ⟨w1.heap.size, 1, none⟩ = some (.int .i64 (safD F n)) := (blk_cell HG2.out 1).trans rfl; have hl2 : ∀ ty, (Builtin.len_ #[46] ty #[.map (some m)]).run Try.prog w2 = .ok (goInt F.length) w2 := fun ty => (by have := SMap.len (P := Try.prog) Try.underlying46 HD2.out.map ty; rwa [encF, List.length_map] at this); clear hb)) | (go_at_call 25; (with_reducible refine (disk_used.calls _ d m F _ _ HD2.out HU.out).mono ?_); rintro _ w3 ⟨rfl, hb⟩; have HD3 := Aside0.mk (HD2.out.below hb); have HF3 := Aside0.mk (HF2.out.trans (Fr.of_below hb (fun _ => False)) (fun _ hk => hk.elim)); have HG3 := Aside0.mk (FBlk.below HG2.out hb); have g3 : w3.cell? ⟨d, 0, none⟩ = some (.map (some m)) := (blk_cell HD3.out.cells 0).trans rfl; have x4 : w3.cell? ⟨w1.heap.size, 0, none⟩ = some (.string (txtD F n)) := (blk_cell HG3.out 0).trans rfl; have x5 : w3.cell? ⟨w1.heap.size, 1, none⟩ = some (.int .i64 (safD F n)) := (blk_cell HG3.out 1).trans rfl; have hl3 : ∀ ty, (Builtin.len_ #[46] ty #[.map (some m)]).run Try.prog w3 = .ok (goInt F.length) w3 := fun ty => (by have := SMap.len (P := Try.prog) Try.underlying46 HD3.out.map ty; rwa [encF, List.length_map] at this); clear hb))
              go_ret
              exact ⟨rfl, HD3.out, HF3.out.mono (fun _ hk => .inl hk)⟩
            | false =>
              have c4 : decide (64 ≤ F.length) = false := by simp at c3 ⊢; omega
              have hfu : fullD F n s = false := by unfold fullD; rw [c1, c2, hb, c4]; rfl
              simp only [hfu, Bool.false_eq_true, if_false]
              go_enter Try.func15, Try.ntmps15
              go_wp2_with (first | (go_at_call 28; (with_reducible refine (disk_counts.here _ d m left off HD.out.cells HL.out H0.out).mono ?_); rintro _ w1 ⟨rfl, hb1, hf1⟩; go_loud (have HD1 := Aside0.mk (HD.out.counted hb1 hf1); have HF1 := Aside0.mk hf1; have k0 : w1.cell? ⟨d, 0, none⟩ = some (.map (some m)) := (blk_cell HD1.out.cells 0).trans rfl; have hlk := lookD_any HD1.out.map n; clear hb1 hf1)) | (go_at_call 24; go_loud ((with_reducible refine (disk_named.is _ _ HNM.out _).mono ?_); rintro _ w2 ⟨rfl, hb⟩; have HD2 := Aside0.mk ((HD1.out.alloc _).below hb); have HF2 := Aside0.mk ((HF1.out.alloc _).trans (Fr.of_below hb (fun _ => False)) (fun _ hk => hk.elim)); have HG2 := Aside0.mk (FBlk.below (heap_alloc_new w1 _) hb); have g2 : w2.cell? ⟨d, 0, none⟩ = some (.map (some m)) := (blk_cell HD2.out.cells 0).trans rfl; have x2 : w2.cell? ⟨w1.heap.size, 0, none⟩ = some (.string (txtD F n)) := (blk_cell HG2.out 0).trans rfl; have x3 : w2.cell? ⟨w1.heap.size, 1, none⟩ = some (.int .i64 (safD F n)) := (blk_cell HG2.out 1).trans rfl; have hl2 : ∀ ty, (Builtin.len_ #[46] ty #[.map (some m)]).run Try.prog w2 = .ok (goInt F.length) w2 := fun ty => (by have := SMap.len (P := Try.prog) Try.underlying46 HD2.out.map ty; rwa [encF, List.length_map] at this); clear hb)) | (go_at_call 25; (with_reducible refine (disk_used.calls _ d m F _ _ HD2.out HU.out).mono ?_); rintro _ w3 ⟨rfl, hb⟩; have HD3 := Aside0.mk (HD2.out.below hb); have HF3 := Aside0.mk (HF2.out.trans (Fr.of_below hb (fun _ => False)) (fun _ hk => hk.elim)); have HG3 := Aside0.mk (FBlk.below HG2.out hb); have g3 : w3.cell? ⟨d, 0, none⟩ = some (.map (some m)) := (blk_cell HD3.out.cells 0).trans rfl; have x4 : w3.cell? ⟨w1.heap.size, 0, none⟩ = some (.string (txtD F n)) := (blk_cell HG3.out 0).trans rfl; have x5 : w3.cell? ⟨w1.heap.size, 1, none⟩ = some (.int .i64 (safD F n)) := (blk_cell HG3.out 1).trans rfl; have hl3 : ∀ ty, (Builtin.len_ #[46] ty #[.map (some m)]).run Try.prog w3 = .ok (goInt F.length) w3 := fun ty => (by have := SMap.len (P := Try.prog) Try.underlying46 HD3.out.map ty; rwa [encF, List.length_map] at this); clear hb))
              obtain ⟨w4, hup, hd4, hf4⟩ := updD HD3.out.drew n (txtD F n ++ s) (safD F n)
              have HD4 := Aside0.mk hd4
              have HF4 := Aside0.mk ((HF3.out.drew.mono (S' := DM d m) (fun _ hk => .inl hk)).trans hf4 (fun _ hk => .inl (.inr hk)))
              clear hd4 hf4
              go_still_tail 12, (by kernel_rfl)
              change wpList _ _ _ _ _ w3.drew
              go_wp2
              go_ret
              exact ⟨rfl, HD4.out, HF4.out⟩
set_option maxRecDepth 100000 in
set_option maxHeartbeats 2000000 in
theorem disk_Off.calls (w : World) (d m : Nat) (F : List DFile) (left : Int) (off : Bool) (n : Int) (h : DiskAt w d m F left off) :
    Calls Try.prog 13 #[.pointer (some ⟨d, 0, none⟩), .int .i64 n] w fun e w' => e = .returned (.tuple #[]) ∧ DiskAt w' d m F (if 0 < n then n else 0) (off || decide (n < 1)) ∧ Fr w w' (fun k => k = d) := by
  have HD := Aside0.mk h
  have g0 : w.cell? ⟨d, 0, none⟩ = some (.map (some m)) := (blk_cell h.cells 0).trans rfl
  have g1 : w.cell? ⟨d, 1, none⟩ = some (.int .i64 left) := (blk_cell h.cells 1).trans rfl
  have g2 : w.cell? ⟨d, 2, none⟩ = some (.bool off) := (blk_cell h.cells 2).trans rfl
  have z1 : w.frozen? ⟨d, 1, none⟩ = false := blk_frozen h.cells 1
  have z2 : w.frozen? ⟨d, 2, none⟩ = false := blk_frozen h.cells 2
  have hh : ∀ b : Bool, DBlk (w.setCell ⟨d, 2, none⟩ (.bool b)) d m left b := fun b => by simpa using blk_set h.cells 2 (.bool b)
  have hh2 : ∀ (b : Bool) (x : Int), DBlk ((w.setCell ⟨d, 2, none⟩ (.bool b)).setCell ⟨d, 1, none⟩ (.int .i64 x)) d m x b := fun b x => by simpa using blk_set (hh b) 1 (.int .i64 x)
  have dd : ∀ (b : Bool) (x : Int), DiskAt ((w.setCell ⟨d, 2, none⟩ (.bool b)).setCell ⟨d, 1, none⟩ (.int .i64 x)) d m F x b := fun b x => ⟨hh2 b x, (h.map.setCell _ _).setCell _ _⟩
  have ff : ∀ (u v : Value), Fr w ((w.setCell ⟨d, 2, none⟩ u).setCell ⟨d, 1, none⟩ v) (fun k => k = d) := fun u v => Fr.setCell (S := fun k => k = d) (p := ⟨d, 1, none⟩) (Fr.setCell (S := fun k => k = d) (p := ⟨d, 2, none⟩) (Fr.refl w _) (.inl rfl) _) (.inl rfl) _
  have DD := Aside0.mk dd
  have FF := Aside0.mk ff
  clear h hh hh2 dd ff
  by_cases hn : n < 1
  · have k1 : decide (n < 1) = true := decide_eq_true hn
    rw [k1]
    have p1 : ¬ 0 < n := by omega
    have p2 : n ≤ 0 := by omega
    have e1 : (if 0 < n then n else 0) = 0 := if_neg p1
    rw [e1]
    cases off with
    | true =>
      go_enter Try.func13, Try.ntmps13
      go_wp2
      all_goals first | omega | ((first | go_end0 | ((try simp only [Exit.inBlock, Exit.then]); refine bodyPost_ret (results_none rfl _ _ _) rfl ?_)); first | exact ⟨rfl, DD.out _ _, FF.out _ _⟩ | (rw [show n = 0 by omega]; exact ⟨rfl, DD.out _ _, FF.out _ _⟩))
    | false =>
      go_enter Try.func13, Try.ntmps13
      go_wp2
      all_goals first | omega | ((first | go_end0 | ((try simp only [Exit.inBlock, Exit.then]); refine bodyPost_ret (results_none rfl _ _ _) rfl ?_)); first | exact ⟨rfl, DD.out _ _, FF.out _ _⟩ | (rw [show n = 0 by omega]; exact ⟨rfl, DD.out _ _, FF.out _ _⟩))
  · have k1 : decide (n < 1) = false := decide_eq_false hn
    rw [k1]
    have p1 : 0 < n := by omega
    have e1 : (if 0 < n then n else 0) = n := if_pos p1
    rw [e1]
    cases off with
    | true =>
      go_enter Try.func13, Try.ntmps13
      go_wp2
      all_goals first | omega | ((first | go_end0 | ((try simp only [Exit.inBlock, Exit.then]); refine bodyPost_ret (results_none rfl _ _ _) rfl ?_)); first | exact ⟨rfl, DD.out _ _, FF.out _ _⟩ | (rw [show n = 0 by omega]; exact ⟨rfl, DD.out _ _, FF.out _ _⟩))
    | false =>
      go_enter Try.func13, Try.ntmps13
      go_wp2
      all_goals first | omega | ((first | go_end0 | ((try simp only [Exit.inBlock, Exit.then]); refine bodyPost_ret (results_none rfl _ _ _) rfl ?_)); first | exact ⟨rfl, DD.out _ _, FF.out _ _⟩ | (rw [show n = 0 by omega]; exact ⟨rfl, DD.out _ _, FF.out _ _⟩))
end Go.Proofs.Ytknljmljlgcfbaa.P
