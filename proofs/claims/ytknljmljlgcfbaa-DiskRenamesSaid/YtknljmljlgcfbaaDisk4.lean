/- By hand: the disk: Read, Size, Sync, Del, Off. -/
import Derived.Test.YtknljmljlgcfbaaDisk3
namespace Go.Proofs.Ytknljmljlgcfbaa.P
open Go.RowKit Go.Proofs.YtknljmljlgcfbaaW.PrintWords Go.Proofs.YtknljmljlgcfbaaW.PrintLast Go.Proofs.YtknljmljlgcfbaaW.PrintMore
open Go.Proofs.Ytknljmljlgcfbaa
set_option linter.unusedSimpArgs false
set_option linter.unusedVariables false
theorem DiskAt.updated {W W2 : World} {d m : Nat} {F : List DFile} {left : Int} {off : Bool} (h : DiskAt W d m F left off) (g : DFile) (hm : SMap W2 m (putF (encF F) g.name (FileV g.text g.safe))) (hf : Fr W W2 (fun k => k = m)) : DiskAt W2 d m (putD F g) left off :=
  ⟨hf.block h.cells h.ne, by rw [← put_enc]; exact hm⟩
theorem DiskAt.deleted {W W2 : World} {d m : Nat} {F : List DFile} {left : Int} {off : Bool} (h : DiskAt W d m F left off) (n : ByteArray) (hm : SMap W2 m (delF (encF F) n)) (hf : Fr W W2 (fun k => k = m)) : DiskAt W2 d m (delD F n) left off :=
  ⟨hf.block h.cells h.ne, by rw [← del_enc]; exact hm⟩
abbrev DM (d m : Nat) : Nat → Prop := fun k => k = d ∨ k = m
theorem updD {W : World} {d m : Nat} {F : List DFile} {left : Int} {off : Bool} (h : DiskAt W d m F left off) (n t : ByteArray) (s : Int) :
    ∃ W2, (Instr.mapUpdate 46 (.map (some m)) (.string n) (.agg #[.string t, .int .i64 s])).run Try.prog W = .ok () W2 ∧ DiskAt W2 d m (putD F ⟨n, t, s⟩) left off ∧ Fr W W2 (fun k => k = m) := by
  obtain ⟨W2, hr, hm, hf, _⟩ := SMap.update (P := Try.prog) Try.underlying46 Try.underlying9 h.map n (FileV t s)
  exact ⟨W2, hr, h.updated ⟨n, t, s⟩ hm hf, hf⟩
theorem delDk {W : World} {d m : Nat} {F : List DFile} {left : Int} {off : Bool} (h : DiskAt W d m F left off) (n : ByteArray) :
    ∃ W2, (∀ ty, (Builtin.delete_ #[46, 9] ty #[.map (some m), .string n]).run Try.prog W = .ok (.tuple #[]) W2) ∧ DiskAt W2 d m (delD F n) left off ∧ Fr W W2 (fun k => k = m) := by
  obtain ⟨W2, hr, hm, hf, _⟩ := SMap.delete (P := Try.prog) Try.underlying46 Try.underlying9 h.map n 0
  exact ⟨W2, fun ty => hr, h.deleted n hm hf, hf⟩
theorem wpList_del {P : Program} {w : World} {ops : Array Oper} {rest : List Oper} {o : Oper} {a : Act} {Q : Exit → Act → World → Prop} (hgd : o.guard = none) (x y : Operand) (t t' : TypeId)
    (ho : o.op = .call { callee := .builtin .delete, args := #[x, y], argTypes := #[t, t'] }) (v u : Value) (hx : a.eval x = v) (hy : a.eval y = u) {v' : Value} {w' : World}
    (hr : (Builtin.delete_ #[t, t'] o.type #[v, u]).run P w = .ok v' w') (h : wpList P ops Q rest (a.put o.dst v') w') : wpList P ops Q (o :: rest) a w := by
  refine wpList_plain hgd fun K hK => ?_
  unfold Oper.wp execOp
  simp only [ho, resolve, invoke, builtin, Sem.run_bind, Sem.run_pure, Result.andThen_ok, List.map_toArray, List.map_cons, List.map_nil, hx, hy, hr]
  exact hK _ _ h
/-! reading -/
def readR (F : List DFile) (off : Bool) (n : ByteArray) : ByteArray × Int := if off = true then (⟨#[]⟩, 10) else match lkD F n with | none => (⟨#[]⟩, 3) | some f => (f.text, 0)
set_option maxRecDepth 100000 in
set_option maxHeartbeats 2000000 in
theorem disk_Read.calls (w : World) (d m : Nat) (F : List DFile) (left : Int) (off : Bool) (n : ByteArray) (h : DiskAt w d m F left off) :
    Calls Try.prog 30 #[.pointer (some ⟨d, 0, none⟩), .string n] w fun e w' => e = .returned (.tuple #[.string (readR F off n).1, .int .i64 (readR F off n).2]) ∧ Below w.heap.size w w' := by
  have g0 : w.cell? ⟨d, 0, none⟩ = some (.map (some m)) := (blk_cell h.cells 0).trans rfl
  have g2 : w.cell? ⟨d, 2, none⟩ = some (.bool off) := (blk_cell h.cells 2).trans rfl
  unfold readR
  cases off with
  | true =>
    clear h
    go_enter Try.func30, Try.ntmps30
    go_wp2
    go_ret2
    exact ⟨rfl, Below.refl _ _⟩
  | false =>
    cases hn : lkD F n with
    | none =>
      have hlk := lookD_none h.map hn
      clear h hn
      go_enter Try.func30, Try.ntmps30
      go_wp2
      go_ret2
      exact ⟨rfl, below_alloc (Below.refl _ _) _⟩
    | some f =>
      have hlk := lookD_some h.map hn
      clear h hn
      go_enter Try.func30, Try.ntmps30
      go_wp2
      go_ret2
      exact ⟨rfl, below_alloc (Below.refl _ _) _⟩
set_option maxRecDepth 100000 in
set_option maxHeartbeats 2000000 in
theorem disk_Size.calls (w : World) (d m : Nat) (F : List DFile) (left : Int) (off : Bool) (n : ByteArray) (h : DiskAt w d m F left off) :
    Calls Try.prog 21 #[.pointer (some ⟨d, 0, none⟩), .string n] w fun e w' => e = .returned (.tuple #[.int .i64 ((readR F off n).1.size : Int), .int .i64 (readR F off n).2]) ∧ Below w.heap.size w w' := by
  have HC := Aside0.mk (disk_Read.calls w d m F left off n h)
  clear h
  generalize readR F off n = r at *
  go_enter Try.func21, Try.ntmps21
  go_wp2_with (go_at_call 30; (with_reducible refine HC.out.mono ?_); rintro _ w1 ⟨rfl, hb1⟩; have HB1 := Aside0.mk hb1; clear hb1)
  go_ret2
  exact ⟨rfl, HB1.out⟩
def syncR (F : List DFile) (left : Int) (off : Bool) (n : ByteArray) : List DFile × Int := if cntO left off = true then (F, 10) else match lkD F n with | none => (F, 3) | some f => (putD F ⟨n, f.text, f.text.size⟩, 0)
set_option maxRecDepth 100000 in
set_option maxHeartbeats 2000000 in
theorem disk_Sync.calls (w : World) (d m : Nat) (F : List DFile) (left : Int) (off : Bool) (n : ByteArray) (h : DiskAt w d m F left off) (hl : left ≤ 9223372036854775807) :
    Calls Try.prog 17 #[.pointer (some ⟨d, 0, none⟩), .string n] w fun e w' => e = .returned (.int .i64 (syncR F left off n).2) ∧ DiskAt w' d m (syncR F left off n).1 (cntL left) (cntO left off) ∧ Fr w w' (DM d m) := by
  have HD := Aside0.mk h
  have HL := Aside0.mk hl
  clear h hl
  unfold syncR
  cases h0 : cntO left off with
  | true =>
    have H0 := Aside0.mk h0
    clear h0
    go_enter Try.func17, Try.ntmps17
    go_wp2_with (go_at_call 29; (with_reducible refine (disk_there.gone _ d m F left off n HD.out HL.out H0.out).mono ?_); rintro _ w1 ⟨rfl, hd1, hf1⟩; have HD1 := Aside0.mk hd1; have HF1 := Aside0.mk hf1; clear hd1 hf1)
    go_ret
    exact ⟨rfl, HD1.out.alloc _, (HF1.out.alloc _).mono (fun _ hk => .inl hk)⟩
  | false =>
    have H0 := Aside0.mk h0
    clear h0
    cases hn : lkD F n with
    | none =>
      have HN := Aside0.mk hn
      clear hn
      go_enter Try.func17, Try.ntmps17
      go_wp2_with (go_at_call 29; (with_reducible refine (disk_there.lacks _ d m F left off n HD.out HL.out H0.out HN.out).mono ?_); rintro _ w1 ⟨rfl, hd1, hf1⟩; have HD1 := Aside0.mk hd1; have HF1 := Aside0.mk hf1; clear hd1 hf1)
      go_ret
      exact ⟨rfl, HD1.out.alloc _, (HF1.out.alloc _).mono (fun _ hk => .inl hk)⟩
    | some f =>
      have HN := Aside0.mk hn
      clear hn
      go_enter Try.func17, Try.ntmps17
      go_wp2_with (go_at_call 29; (with_reducible refine (disk_there.found _ d m F left off n HD.out HL.out f H0.out HN.out).mono ?_); rintro _ w1 ⟨rfl, hd1, hf1⟩; have HD1 := Aside0.mk hd1; have HF1 := Aside0.mk hf1; clear hd1 hf1)
      have HG2 : Aside0 (FBlk (w1.alloc (.cells #[.string f.text, .int .i64 f.safe] 50)) w1.heap.size f.text f.safe) := ⟨heap_alloc_new w1 _⟩
      have HD2 := Aside0.mk (HD1.out.alloc (.cells #[.string f.text, .int .i64 f.safe] 50))
      have HF2 := Aside0.mk (HF1.out.alloc (.cells #[.string f.text, .int .i64 f.safe] 50))
      generalize w1.alloc (.cells #[.string f.text, .int .i64 f.safe] 50) = W at *
      have g0 : W.cell? ⟨d, 0, none⟩ = some (.map (some m)) := (blk_cell HD2.out.cells 0).trans rfl
      have x0 : W.cell? ⟨w1.heap.size, 0, none⟩ = some (.string f.text) := (blk_cell HG2.out 0).trans rfl
      have x1 : W.cell? ⟨w1.heap.size, 1, none⟩ = some (.int .i64 f.safe) := (blk_cell HG2.out 1).trans rfl
      obtain ⟨w2, hup, hd2, hf2⟩ := updD HD2.out.drew n f.text f.text.size
      have HD3 := Aside0.mk hd2
      have HF3 := Aside0.mk ((HF2.out.drew.mono (S' := DM d m) (fun _ hk => .inl hk)).trans hf2 (fun _ hk => .inl (.inr hk)))
      clear hd2 hf2
      go_still_tail 11, (by kernel_rfl)
      change wpList _ _ _ _ _ W.drew
      go_wp2
      go_ret
      exact ⟨rfl, HD3.out, HF3.out⟩
def delR (F : List DFile) (left : Int) (off : Bool) (n : ByteArray) : List DFile × Int := if cntO left off = true then (F, 10) else match lkD F n with | none => (F, 3) | some f => (delD F n, 0)
set_option maxRecDepth 100000 in
set_option maxHeartbeats 2000000 in
theorem disk_Del.calls (w : World) (d m : Nat) (F : List DFile) (left : Int) (off : Bool) (n : ByteArray) (h : DiskAt w d m F left off) (hl : left ≤ 9223372036854775807) :
    Calls Try.prog 22 #[.pointer (some ⟨d, 0, none⟩), .string n] w fun e w' => e = .returned (.int .i64 (delR F left off n).2) ∧ DiskAt w' d m (delR F left off n).1 (cntL left) (cntO left off) ∧ Fr w w' (DM d m) := by
  have HD := Aside0.mk h
  have HL := Aside0.mk hl
  clear h hl
  unfold delR
  cases h0 : cntO left off with
  | true =>
    have H0 := Aside0.mk h0
    clear h0
    go_enter Try.func22, Try.ntmps22
    go_wp2_with (go_at_call 29; (with_reducible refine (disk_there.gone _ d m F left off n HD.out HL.out H0.out).mono ?_); rintro _ w1 ⟨rfl, hd1, hf1⟩; have HD1 := Aside0.mk hd1; have HF1 := Aside0.mk hf1; clear hd1 hf1)
    go_ret
    exact ⟨rfl, HD1.out.alloc _, (HF1.out.alloc _).mono (fun _ hk => .inl hk)⟩
  | false =>
    have H0 := Aside0.mk h0
    clear h0
    cases hn : lkD F n with
    | none =>
      have HN := Aside0.mk hn
      clear hn
      go_enter Try.func22, Try.ntmps22
      go_wp2_with (go_at_call 29; (with_reducible refine (disk_there.lacks _ d m F left off n HD.out HL.out H0.out HN.out).mono ?_); rintro _ w1 ⟨rfl, hd1, hf1⟩; have HD1 := Aside0.mk hd1; have HF1 := Aside0.mk hf1; clear hd1 hf1)
      go_ret
      exact ⟨rfl, HD1.out.alloc _, (HF1.out.alloc _).mono (fun _ hk => .inl hk)⟩
    | some f =>
      have HN := Aside0.mk hn
      clear hn
      go_enter Try.func22, Try.ntmps22
      go_wp2_with (first | (go_at_call 29; (with_reducible refine (disk_there.found _ d m F left off n HD.out HL.out f H0.out HN.out).mono ?_); rintro _ w1 ⟨rfl, hd1, hf1⟩; have HD1 := Aside0.mk hd1; have HF1 := Aside0.mk hf1; have g0 : ∀ o, (w1.alloc o).cell? ⟨d, 0, none⟩ = some (.map (some m)) := fun o => (blk_cell (HD1.out.alloc o).cells 0).trans rfl; obtain ⟨w2, hup, hd2, hf2⟩ := delDk (HD1.out.alloc (.cells #[.string f.text, .int .i64 f.safe] 50)) n; have HD3 := Aside0.mk hd2; have HF3 := Aside0.mk (((HF1.out.alloc (.cells #[.string f.text, .int .i64 f.safe] 50)).mono (S' := DM d m) (fun _ hk => .inl hk)).trans hf2 (fun _ hk => .inl (.inr hk))); clear hd2 hf2; clear hd1 hf1) | ((with_reducible refine gate_builtin (b := .delete) (xs := #[.tmp 19, .tmp 20]) rfl ?_); go_loud (refine wpList_del rfl (.tmp 19) (.tmp 20) _ _ rfl _ _ rfl rfl (hup _) ?_)))
      go_ret
      exact ⟨rfl, HD3.out, HF3.out⟩
end Go.Proofs.Ytknljmljlgcfbaa.P
