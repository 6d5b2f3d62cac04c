/- By hand: the disk: a file that must be there; reads. -/
import Derived.Test.YtknljmljlgcfbaaDisk2
namespace Go.Proofs.Ytknljmljlgcfbaa.P
open Go.RowKit Go.Proofs.YtknljmljlgcfbaaW.PrintWords Go.Proofs.YtknljmljlgcfbaaW.PrintLast Go.Proofs.YtknljmljlgcfbaaW.PrintMore
open Go.Proofs.Ytknljmljlgcfbaa
set_option linter.unusedSimpArgs false
set_option linter.unusedVariables false
def lkD : List DFile → ByteArray → Option DFile
  | [], _ => none
  | f :: F, n => if f.name = n then some f else lkD F n
def putD : List DFile → DFile → List DFile
  | [], g => [g]
  | f :: F, g => if f.name = g.name then g :: F else f :: putD F g
def delD : List DFile → ByteArray → List DFile
  | [], _ => []
  | f :: F, n => if f.name = n then F else f :: delD F n
theorem lk_enc (n : ByteArray) : ∀ F, lk (encF F) n = (lkD F n).map (fun f => FileV f.text f.safe)
  | [] => rfl
  | f :: F => by
    have ih := lk_enc n F
    unfold lk encF at ih ⊢
    simp only [List.map_cons, ixF, lkD]
    by_cases e : f.name = n
    · rw [if_pos e, if_pos e]; rfl
    · rw [if_neg e, if_neg e, ← ih, Option.map_map]; rfl
theorem put_enc (g : DFile) : ∀ F, putF (encF F) g.name (FileV g.text g.safe) = encF (putD F g)
  | [] => rfl
  | f :: F => by
    have ih := put_enc g F
    unfold putF encF at ih ⊢
    simp only [List.map_cons, ixF, putD]
    by_cases e : f.name = g.name
    · rw [if_pos e, if_pos e]; rfl
    · rw [if_neg e, if_neg e, List.map_cons]
      rw [← ih]
      cases ixF (F.map fun p => (p.name, FileV p.text p.safe)) g.name with
      | none => rfl
      | some q => rfl
theorem del_enc (n : ByteArray) : ∀ F, delF (encF F) n = encF (delD F n)
  | [] => rfl
  | f :: F => by
    have ih := del_enc n F
    unfold delF encF at ih ⊢
    simp only [List.map_cons, ixF, delD]
    by_cases e : f.name = n
    · rw [if_pos e, if_pos e]; rfl
    · rw [if_neg e, if_neg e, List.map_cons]
      rw [← ih]
      cases ixF (F.map fun p => (p.name, FileV p.text p.safe)) n with
      | none => rfl
      | some q => rfl
def zFile : Value := .agg #[.string ⟨#[]⟩, .int .i64 0]
theorem zeroF (w : World) : (zeroValue 50).run Try.prog w = .ok zFile w := by kernel_rfl
theorem lookD {w : World} {m : Nat} {F : List DFile} (h : SMap w m (encF F)) (n : ByteArray) :
    (Instr.lookup 46 (.map (some m)) (.string n) true).run Try.prog w = .ok (.tuple #[((lkD F n).map (fun f => FileV f.text f.safe)).getD zFile, .bool ((lkD F n).map (fun f => FileV f.text f.safe)).isSome]) w := by
  have := SMap.lookup (P := Try.prog) Try.underlying46 Try.underlying9 zeroF h n
  rw [lk_enc] at this
  exact this
theorem lookD_none {w : World} {m : Nat} {F : List DFile} (h : SMap w m (encF F)) {n : ByteArray} (hn : lkD F n = none) :
    (Instr.lookup 46 (.map (some m)) (.string n) true).run Try.prog w = .ok (.tuple #[.agg #[.string ⟨#[]⟩, .int .i64 0], .bool false]) w := by
  have := lookD h n
  rw [hn] at this
  exact this
theorem lookD_some {w : World} {m : Nat} {F : List DFile} (h : SMap w m (encF F)) {n : ByteArray} {f : DFile} (hn : lkD F n = some f) :
    (Instr.lookup 46 (.map (some m)) (.string n) true).run Try.prog w = .ok (.tuple #[.agg #[.string f.text, .int .i64 f.safe], .bool true]) w := by
  have := lookD h n
  rw [hn] at this
  exact this
theorem disk_counts.gone (w : World) (d m : Nat) (left : Int) (off : Bool) (h : DBlk w d m left off) (hl : left ≤ 9223372036854775807) (h0 : cntO left off = true) :
    Calls Try.prog 28 #[.pointer (some ⟨d, 0, none⟩)] w fun e w' => e = .returned (.int .i64 10) ∧ DBlk w' d m (cntL left) true ∧ Fr w w' (fun k => k = d) := by
  have := disk_counts.calls w d m left off h hl
  unfold cntE at this
  rw [h0] at this
  exact this
theorem disk_counts.here (w : World) (d m : Nat) (left : Int) (off : Bool) (h : DBlk w d m left off) (hl : left ≤ 9223372036854775807) (h0 : cntO left off = false) :
    Calls Try.prog 28 #[.pointer (some ⟨d, 0, none⟩)] w fun e w' => e = .returned (.int .i64 0) ∧ DBlk w' d m (cntL left) false ∧ Fr w w' (fun k => k = d) := by
  have := disk_counts.calls w d m left off h hl
  unfold cntE at this
  rw [h0] at this
  exact this
theorem alloc_fr {w w2 : World} {o : Obj} {S : Nat → Prop} (h : Fr (w.alloc o) w2 S) : Fr w w2 S := ((Fr.refl w S).alloc o).trans h (fun k hk => .inl hk)
theorem DiskAt.alloc {w : World} {d m : Nat} {F : List DFile} {left : Int} {off : Bool} (h : DiskAt w d m F left off) (o : Obj) : DiskAt (w.alloc o) d m F left off := ⟨blk_alloc h.cells o, h.map.alloc o⟩
theorem DiskAt.drew {w : World} {d m : Nat} {F : List DFile} {left : Int} {off : Bool} (h : DiskAt w d m F left off) : DiskAt w.drew d m F left off := ⟨h.cells, h.map⟩
theorem DiskAt.drewN {w : World} {d m : Nat} {F : List DFile} {left : Int} {off : Bool} (h : DiskAt w d m F left off) (n : Nat) : DiskAt (w.drewN n) d m F left off := ⟨h.cells, h.map⟩
theorem DiskAt.set {w : World} {d m : Nat} {F : List DFile} {left : Int} {off : Bool} (h : DiskAt w d m F left off) {p : Addr} (hp : d ≠ p.block) (v : Value) : DiskAt (w.setCell p v) d m F left off := ⟨blk_far h.cells hp v, h.map.setCell p v⟩
theorem DiskAt.lt {w : World} {d m : Nat} {F : List DFile} {left : Int} {off : Bool} (h : DiskAt w d m F left off) : d < w.heap.size ∧ m < w.heap.size := ⟨blk_lt h.cells, h.map.lt⟩
theorem DiskAt.counted {w w1 : World} {d m : Nat} {F : List DFile} {left left' : Int} {off off' : Bool} (h : DiskAt w d m F left off) (hb : DBlk w1 d m left' off') (hf : Fr w w1 (fun k => k = d)) : DiskAt w1 d m F left' off' := ⟨hb, h.map.fr hf (fun e => h.ne e.symm)⟩
/-- A local variable of a file's type. -/
abbrev FBlk (w : World) (g : Nat) (t : ByteArray) (s : Int) : Prop := w.heap[g]? = some (.cells #[.string t, .int .i64 s] 50 (0, 0))
theorem FBlk.put {w : World} {g : Nat} {t t' : ByteArray} {s s' : Int} (h : FBlk w g t s) : FBlk ((w.setCell ⟨g, 0, none⟩ (.string t')).setCell ⟨g, 1, none⟩ (.int .i64 s')) g t' s' := by
  have h1 : (w.setCell ⟨g, 0, none⟩ (.string t')).heap[g]? = some (.cells #[.string t', .int .i64 s] 50 (0, 0)) := by simpa using blk_set h 0 (.string t')
  simpa using blk_set h1 1 (.int .i64 s')
theorem fr_put {w w1 : World} {S : Nat → Prop} (h : Fr w w1 S) (g : Nat) (hg : S g ∨ w.heap.size ≤ g) (a b : Value) : Fr w ((w1.setCell ⟨g, 0, none⟩ a).setCell ⟨g, 1, none⟩ b) S :=
  Fr.setCell (p := ⟨g, 1, none⟩) (Fr.setCell (p := ⟨g, 0, none⟩) h hg a) hg b
theorem DiskAt.put {w : World} {d m : Nat} {F : List DFile} {left : Int} {off : Bool} (h : DiskAt w d m F left off) {g : Nat} (hg : d ≠ g) (a b : Value) : DiskAt ((w.setCell ⟨g, 0, none⟩ a).setCell ⟨g, 1, none⟩ b) d m F left off :=
  (h.set (p := ⟨g, 0, none⟩) hg a).set (p := ⟨g, 1, none⟩) hg b
set_option maxRecDepth 100000 in
set_option maxHeartbeats 2000000 in
theorem disk_there.gone (w : World) (d m : Nat) (F : List DFile) (left : Int) (off : Bool) (n : ByteArray) (h : DiskAt w d m F left off) (hl : left ≤ 9223372036854775807) (h0 : cntO left off = true) :
    Calls Try.prog 29 #[.pointer (some ⟨d, 0, none⟩), .string n] w fun e w' => e = .returned (.tuple #[.agg #[.string ⟨#[]⟩, .int .i64 0], .int .i64 10]) ∧ DiskAt w' d m F (cntL left) true ∧ Fr w w' (fun k => k = d) := by
  have HD := Aside0.mk h
  have HL := Aside0.mk hl
  have H0 := Aside0.mk h0
  clear h hl h0
  go_enter Try.func29, Try.ntmps29
  go_wp2_with (go_at_call 28; (with_reducible refine (disk_counts.gone _ d m left off ?s1 HL.out H0.out).mono ?_); (case s1 => exact blk_alloc HD.out.cells _); rintro _ w1 ⟨rfl, hb1, hf1⟩; go_loud (have HD1 := Aside0.mk ((HD.out.alloc _).counted hb1 hf1); have HF1 := Aside0.mk (alloc_fr hf1); have HG1 : Aside0 (FBlk w1 w.heap.size ⟨#[]⟩ 0) := ⟨hf1.block (heap_alloc_new w _) (fun e => by have := HD.out.lt.1; omega)⟩; have x0 : w1.cell? ⟨w.heap.size, 0, none⟩ = some (.string ⟨#[]⟩) := (blk_cell HG1.out 0).trans rfl; have x1 : w1.cell? ⟨w.heap.size, 1, none⟩ = some (.int .i64 0) := (blk_cell HG1.out 1).trans rfl; have y0 : w1.frozen? ⟨w.heap.size, 0, none⟩ = false := blk_frozen HG1.out 0; have y1 : w1.frozen? ⟨w.heap.size, 1, none⟩ = false := blk_frozen HG1.out 1; have x2 : ∀ o, (w1.alloc o).cell? ⟨w.heap.size, 0, none⟩ = some (.string ⟨#[]⟩) := fun o => (blk_cell (blk_alloc HG1.out o) 0).trans rfl; have x3 : ∀ o, (w1.alloc o).cell? ⟨w.heap.size, 1, none⟩ = some (.int .i64 0) := fun o => (blk_cell (blk_alloc HG1.out o) 1).trans rfl; have y2 : ∀ o, (w1.alloc o).frozen? ⟨w.heap.size, 0, none⟩ = false := fun o => blk_frozen (blk_alloc HG1.out o) 0; have y3 : ∀ o, (w1.alloc o).frozen? ⟨w.heap.size, 1, none⟩ = false := fun o => blk_frozen (blk_alloc HG1.out o) 1; have k0 : w1.cell? ⟨d, 0, none⟩ = some (.map (some m)) := (blk_cell HD1.out.cells 0).trans rfl;  clear hb1 hf1))
  have hdg : d ≠ w.heap.size := by have := HD.out.lt.1; omega
  refine bodyPost_ret (results_ct rfl _ _ w.heap.size 50 #[.string ⟨#[]⟩, .int .i64 0] (0, 0) _ rfl ?_ Try.underlying50 rfl (by kernel_rfl)) rfl ?_
  · exact HG1.out.put
  · exact ⟨rfl, HD1.out.put hdg _ _, fr_put HF1.out _ (.inr (Nat.le_refl _)) _ _⟩
set_option maxRecDepth 100000 in
set_option maxHeartbeats 2000000 in
theorem disk_there.lacks (w : World) (d m : Nat) (F : List DFile) (left : Int) (off : Bool) (n : ByteArray) (h : DiskAt w d m F left off) (hl : left ≤ 9223372036854775807) (h0 : cntO left off = false) (hn : lkD F n = none) :
    Calls Try.prog 29 #[.pointer (some ⟨d, 0, none⟩), .string n] w fun e w' => e = .returned (.tuple #[.agg #[.string ⟨#[]⟩, .int .i64 0], .int .i64 3]) ∧ DiskAt w' d m F (cntL left) false ∧ Fr w w' (fun k => k = d) := by
  have HD := Aside0.mk h
  have HL := Aside0.mk hl
  have H0 := Aside0.mk h0
  have HN := Aside0.mk hn
  clear h hl h0
  go_enter Try.func29, Try.ntmps29
  go_wp2_with (go_at_call 28; (with_reducible refine (disk_counts.here _ d m left off ?s1 HL.out H0.out).mono ?_); (case s1 => exact blk_alloc HD.out.cells _); rintro _ w1 ⟨rfl, hb1, hf1⟩; go_loud (have HD1 := Aside0.mk ((HD.out.alloc _).counted hb1 hf1); have HF1 := Aside0.mk (alloc_fr hf1); have HG1 : Aside0 (FBlk w1 w.heap.size ⟨#[]⟩ 0) := ⟨hf1.block (heap_alloc_new w _) (fun e => by have := HD.out.lt.1; omega)⟩; have x0 : w1.cell? ⟨w.heap.size, 0, none⟩ = some (.string ⟨#[]⟩) := (blk_cell HG1.out 0).trans rfl; have x1 : w1.cell? ⟨w.heap.size, 1, none⟩ = some (.int .i64 0) := (blk_cell HG1.out 1).trans rfl; have y0 : w1.frozen? ⟨w.heap.size, 0, none⟩ = false := blk_frozen HG1.out 0; have y1 : w1.frozen? ⟨w.heap.size, 1, none⟩ = false := blk_frozen HG1.out 1; have x2 : ∀ o, (w1.alloc o).cell? ⟨w.heap.size, 0, none⟩ = some (.string ⟨#[]⟩) := fun o => (blk_cell (blk_alloc HG1.out o) 0).trans rfl; have x3 : ∀ o, (w1.alloc o).cell? ⟨w.heap.size, 1, none⟩ = some (.int .i64 0) := fun o => (blk_cell (blk_alloc HG1.out o) 1).trans rfl; have y2 : ∀ o, (w1.alloc o).frozen? ⟨w.heap.size, 0, none⟩ = false := fun o => blk_frozen (blk_alloc HG1.out o) 0; have y3 : ∀ o, (w1.alloc o).frozen? ⟨w.heap.size, 1, none⟩ = false := fun o => blk_frozen (blk_alloc HG1.out o) 1; have k0 : w1.cell? ⟨d, 0, none⟩ = some (.map (some m)) := (blk_cell HD1.out.cells 0).trans rfl; have hlk := lookD_none HD1.out.map HN.out; clear hb1 hf1))
  have hdg : d ≠ w.heap.size := by have := HD.out.lt.1; omega
  refine bodyPost_ret (results_ct rfl _ _ w.heap.size 50 #[.string ⟨#[]⟩, .int .i64 0] (0, 0) _ rfl ?_ Try.underlying50 rfl (by kernel_rfl)) rfl ?_
  · exact FBlk.put (blk_alloc HG1.out _)
  · exact ⟨rfl, (HD1.out.alloc _).put hdg _ _, fr_put (HF1.out.alloc _) _ (.inr (Nat.le_refl _)) _ _⟩
set_option maxRecDepth 100000 in
set_option maxHeartbeats 2000000 in
theorem disk_there.found (w : World) (d m : Nat) (F : List DFile) (left : Int) (off : Bool) (n : ByteArray) (h : DiskAt w d m F left off) (hl : left ≤ 9223372036854775807) (f : DFile) (h0 : cntO left off = false) (hn : lkD F n = some f) :
    Calls Try.prog 29 #[.pointer (some ⟨d, 0, none⟩), .string n] w fun e w' => e = .returned (.tuple #[.agg #[.string f.text, .int .i64 f.safe], .int .i64 0]) ∧ DiskAt w' d m F (cntL left) false ∧ Fr w w' (fun k => k = d) := by
  have HD := Aside0.mk h
  have HL := Aside0.mk hl
  have H0 := Aside0.mk h0
  have HN := Aside0.mk hn
  clear h hl h0
  go_enter Try.func29, Try.ntmps29
  go_wp2_with (go_at_call 28; (with_reducible refine (disk_counts.here _ d m left off ?s1 HL.out H0.out).mono ?_); (case s1 => exact blk_alloc HD.out.cells _); rintro _ w1 ⟨rfl, hb1, hf1⟩; go_loud (have HD1 := Aside0.mk ((HD.out.alloc _).counted hb1 hf1); have HF1 := Aside0.mk (alloc_fr hf1); have HG1 : Aside0 (FBlk w1 w.heap.size ⟨#[]⟩ 0) := ⟨hf1.block (heap_alloc_new w _) (fun e => by have := HD.out.lt.1; omega)⟩; have x0 : w1.cell? ⟨w.heap.size, 0, none⟩ = some (.string ⟨#[]⟩) := (blk_cell HG1.out 0).trans rfl; have x1 : w1.cell? ⟨w.heap.size, 1, none⟩ = some (.int .i64 0) := (blk_cell HG1.out 1).trans rfl; have y0 : w1.frozen? ⟨w.heap.size, 0, none⟩ = false := blk_frozen HG1.out 0; have y1 : w1.frozen? ⟨w.heap.size, 1, none⟩ = false := blk_frozen HG1.out 1; have x2 : ∀ o, (w1.alloc o).cell? ⟨w.heap.size, 0, none⟩ = some (.string ⟨#[]⟩) := fun o => (blk_cell (blk_alloc HG1.out o) 0).trans rfl; have x3 : ∀ o, (w1.alloc o).cell? ⟨w.heap.size, 1, none⟩ = some (.int .i64 0) := fun o => (blk_cell (blk_alloc HG1.out o) 1).trans rfl; have y2 : ∀ o, (w1.alloc o).frozen? ⟨w.heap.size, 0, none⟩ = false := fun o => blk_frozen (blk_alloc HG1.out o) 0; have y3 : ∀ o, (w1.alloc o).frozen? ⟨w.heap.size, 1, none⟩ = false := fun o => blk_frozen (blk_alloc HG1.out o) 1; have k0 : w1.cell? ⟨d, 0, none⟩ = some (.map (some m)) := (blk_cell HD1.out.cells 0).trans rfl; have hlk := lookD_some HD1.out.map HN.out; clear hb1 hf1))
  have hdg : d ≠ w.heap.size := by have := HD.out.lt.1; omega
  refine bodyPost_ret (results_ct rfl _ _ w.heap.size 50 #[.string f.text, .int .i64 f.safe] (0, 0) _ rfl ?_ Try.underlying50 rfl (by kernel_rfl)) rfl ?_
  · exact FBlk.put (blk_alloc HG1.out _)
  · exact ⟨rfl, (HD1.out.alloc _).put hdg _ _, fr_put (HF1.out.alloc _) _ (.inr (Nat.le_refl _)) _ _⟩
end Go.Proofs.Ytknljmljlgcfbaa.P
