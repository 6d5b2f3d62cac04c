/- By hand: the disk: how much is used; a file that must be there. -/
import Derived.Test.YtknljmljlgcfbaaDisk1
import Derived.Test.YtknljmljlgcfbaaWZeros
namespace Go.Proofs.Ytknljmljlgcfbaa.P
open Go.RowKit Go.Proofs.YtknljmljlgcfbaaW.PrintWords Go.Proofs.YtknljmljlgcfbaaW.PrintLast Go.Proofs.YtknljmljlgcfbaaW.PrintMore
open Go.Proofs.Ytknljmljlgcfbaa
set_option linter.unusedSimpArgs false
set_option linter.unusedVariables false
def usedD : List DFile → Int
  | [] => 0
  | f :: F => f.text.size + usedD F
theorem usedD_nonneg : ∀ F, 0 ≤ usedD F
  | [] => by simp [usedD]
  | f :: F => by have := usedD_nonneg F; simp only [usedD]; omega
theorem usedD_erase : ∀ (F : List DFile) (i : Nat) (f : DFile), F[i]? = some f → usedD F = f.text.size + usedD (F.eraseIdx i)
  | [], i, f, h => by simp at h
  | g :: F, 0, f, h => by
    simp at h; subst h; simp [usedD]
  | g :: F, i + 1, f, h => by
    have := usedD_erase F i f (by simpa using h)
    simp only [usedD, List.eraseIdx_cons_succ]
    omega
theorem encF_erase (L : List DFile) (i : Nat) : (encF L).eraseIdx i = encF (L.eraseIdx i) := by unfold encF; rw [ChangeMaps.map_eraseIdx]
theorem encF_at {L : List DFile} {i : Nat} {p : ByteArray × Value} (h : (encF L)[i]? = some p) : ∃ f, L[i]? = some f ∧ p = (f.name, FileV f.text f.safe) := by
  unfold encF at h
  rw [List.getElem?_map] at h
  obtain ⟨f, hf, e⟩ := Option.map_eq_some_iff.1 h
  exact ⟨f, hf, e.symm⟩
set_option maxRecDepth 100000 in
set_option maxHeartbeats 2000000 in
theorem disk_used.calls (w : World) (d m : Nat) (F : List DFile) (left : Int) (off : Bool) (h : DiskAt w d m F left off) (hs : usedD F ≤ 4611686018427387904) :
    Calls Try.prog 25 #[.pointer (some ⟨d, 0, none⟩)] w fun e w' => e = .returned (.int .i64 (usedD F)) ∧ Below w.heap.size w w' := by
  have g0 : w.cell? ⟨d, 0, none⟩ = some (.map (some m)) := (blk_cell h.cells 0).trans rfl
  obtain ⟨w1, hrg, hit, hb1, hz1⟩ := SMap.range (P := Try.prog) Try.underlying46 h.map
  have HI := Aside0.mk hit
  have HB := Aside0.mk hb1
  have HS := Aside0.mk hs
  clear h hit hb1 hs
  go_enter Try.func25, Try.ntmps25
  go_wp2
  go_loopw [3, 5] (fun v3 _ w' => ∃ (acc : Int) (L : List DFile), v3 = .int .i64 acc ∧ 0 ≤ acc ∧ acc + usedD L = usedD F ∧ Aside0 (SIter w' w.heap.size m (encF F) (encF L)) ∧ Aside0 (Below w.heap.size w w')) (fun _ _ w' => iterLeft w' w.heap.size)
  case atStart => exact ⟨0, F, rfl, by omega, by omega, HI, HB⟩
  case round =>
    rename_i wr _
    obtain ⟨acc, L, rfl, h0, hsum, HI1, HB1⟩ := hrel
    have hlt := HI1.out.lt
    have hne := HI1.out.ne
    rcases HI1.out.next (P := Try.prog) 0 with ⟨hl, hrun⟩ | ⟨i, p, w2, hp, hrun, hit2, hfr, hsz, hen⟩
    · have hnx : ∀ ty, (Instr.next (.pointer (some ⟨w.heap.size, 0, none⟩)) false ty).run Try.prog wr = .ok (.tuple #[.bool false]) wr := fun ty => hrun
      have hL : L = [] := by cases L with | nil => rfl | cons a L => cases hl
      subst hL
      clear hrun hl
      go_wp2
      go_ret
      exact ⟨by simp only [usedD] at hsum; rw [show acc = usedD F by omega]; rfl, HB1.out⟩
    · obtain ⟨f, hf, rfl⟩ := encF_at hp
      have hu := usedD_erase L i f hf
      have hn := usedD_nonneg (L.eraseIdx i)
      rw [encF_erase] at hit2
      have hnx : ∀ ty, (Instr.next (.pointer (some ⟨w.heap.size, 0, none⟩)) false ty).run Try.prog wr = .ok (.tuple #[.bool true, .string f.name, .agg #[.string f.text, .int .i64 f.safe]]) w2 := fun ty => hrun
      have hen2 : (Instr.entry (.pointer (some ⟨w.heap.size, 0, none⟩))).run Try.prog w2 = .ok (.tuple #[.string f.name, .agg #[.string f.text, .int .i64 f.safe]]) w2 := hen
      have HI2 := Aside0.mk hit2
      have HS2 := HS.out
      have HB2 := Aside0.mk (Fr.below HB1.out hfr (by have := HB1.out.size; omega) (fun k hk => by omega))
      have hM : iterLeft wr w.heap.size = L.length := by rw [HI1.out.left_eq]; unfold encF; rw [List.length_map]
      have hM2 : L.length = (L.eraseIdx i).length + 1 := by
        have := (List.getElem?_eq_some_iff.1 hf).1
        rw [List.length_eraseIdx_of_lt this]; omega
      have HM := Aside0.mk hM
      have HM2 := Aside0.mk hM2
      have HSZ := Aside0.mk hsz
      have HLT := Aside0.mk hlt
      clear hrun hen hit2 hfr hp hf hM hM2 hsz hlt
      have q1 : IntKind.i64.wrap (acc + (f.text.size : Int)) = acc + (f.text.size : Int) := by rw [IntKind.wrap_i64]; omega
      go_wp2
      go_roundw
      case rel =>
        refine ⟨_, L.eraseIdx i, rfl, by omega, by omega, ⟨?_⟩, ⟨?_⟩⟩
        · exact HI2.out.alloc _
        · exact HB2.out.alloc (by have := HSZ.out; have := HLT.out; omega) _
      case measure =>
        have e := (HI2.out.alloc (.cells #[.string f.text, .int .i64 f.safe] 50)).left_eq
        have e2 : (encF (L.eraseIdx i)).length = (L.eraseIdx i).length := by unfold encF; rw [List.length_map]
        have := HM.out
        have := HM2.out
        omega
end Go.Proofs.Ytknljmljlgcfbaa.P
