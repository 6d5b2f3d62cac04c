/- By hand: the page's own disk: a file put at its place, a file taken away. -/
import Derived.Test.YtknljmljlgcfbaaRef1
namespace Go.Proofs.Ytknljmljlgcfbaa.P
open Go.RowKit Go.Proofs.YtknljmljlgcfbaaW.PrintWords Go.Proofs.YtknljmljlgcfbaaW.PrintLast Go.Proofs.YtknljmljlgcfbaaW.PrintMore
open Go.Proofs.Ytknljmljlgcfbaa
set_option linter.unusedSimpArgs false
set_option linter.unusedVariables false
def posG : List DFile → ByteArray → Nat
  | [], _ => 0
  | f :: G, n => if lessN f.name n then posG G n + 1 else 0
theorem posG_le : ∀ (G : List DFile) (n : ByteArray), posG G n ≤ G.length
  | [], _ => Nat.le_refl _
  | f :: G, n => by
    have := posG_le G n
    unfold posG
    split
    · simp; omega
    · simp
theorem posG_drop {G : List DFile} {n : ByteArray} {i : Nat} {f : DFile} (h : G[i]? = some f) : posG (G.drop i) n = if lessN f.name n then posG (G.drop (i + 1)) n + 1 else 0 := by
  obtain ⟨hl, rfl⟩ := List.getElem?_eq_some_iff.1 h
  rw [List.drop_eq_getElem_cons hl, posG]
def gput (G : List DFile) (f : DFile) : List DFile := G.take (posG G f.name) ++ f :: G.drop (posG G f.name)
abbrev FBk (w : World) (g : Nat) (f : DFile) : Prop := w.heap[g]? = some (.cells #[.string f.name, .string f.text, .int .i64 f.safe] 90 (0, 0))
theorem RefAt.put {w W : World} {d : Nat} {m : Nat → Prop} {r B : Nat} {v v1 : Value} {G G1 : List DFile} (h : RefAt w d m r B v G) (hb : Below w.heap.size w W) (ho : kF.R 90 W w.heap.size (fun _ => True) v1 G1) :
    RefAt (W.setCell ⟨r, 0, none⟩ v1) d m r B v1 G1 ∧ Fr w (W.setCell ⟨r, 0, none⟩ v1) (RS d m B) := by
  have h1 := h.below hb
  refine ⟨⟨by simpa using blk_set h1.blk 0 v1, ?_, by have := h1.base; simpa using this, h.r0, by have := h1.ltd; simpa using this, fun k hk => by have := h1.ltm k hk; simpa using this, h.nd, h.nm⟩, (Fr.of_below hb _).setCell (.inl ⟨h.r0, h.nd, h.nm⟩) _⟩
  refine Kd.R_far (p := ⟨r, 0, none⟩) ?_ (fun k hk => hk.1) v1
  refine Kd.R_lower (Kd.R_mono (Kd.R_bound ho) (fun k hk => ?_)) h.base
  have h2 := hk.2.1
  have h3 := h.lt; have h4 := h.ltd; have h5 := h.ltm
  exact ⟨by omega, by omega, fun e => by have := h5 _ e; omega⟩
theorem kF_KM (w W : World) (base : Nat) (okp : Nat → Prop) (x : DFile) (cs : List Value) (h : kF.K w x cs) : kF.M W base okp x cs := by rw [kF_open h]; exact kF_mkM _ _ _ _
theorem undF : Try.prog.underlying 85 = some (.slice 90) := by kernel_rfl
theorem kF_pos1 : 0 < kF.sz := Nat.succ_pos _
theorem kF_pos2 : 0 < 40 := by decide
theorem C_front {w : World} {A : Option Addr} {G : List DFile} {i : Nat} (h : Kd.C kF w A G.length G) (hi : i ≤ G.length) : Kd.C kF w A i (G.take i) := by
  have := Kd.C_take h hi
  rw [show (G.take i).length = i by rw [List.length_take]; omega] at this
  exact this
theorem C_back {w : World} {A : Option Addr} {G : List DFile} {i c : Nat} (h : Kd.C kF w A G.length G) (hi : i ≤ G.length) (hc : G.length ≤ c) : Kd.C kF w (if c = i then A else A.map (·.add (i * 3))) (G.length - i) (G.drop i) := by
  have := Kd.C_drop h hi hc
  rw [List.length_drop] at this
  exact this
theorem C_back_some {w : World} {ad : Addr} {G : List DFile} {i c : Nat} (h : Kd.C kF w (some ad) G.length G) (hi : i ≤ G.length) (hc : G.length ≤ c) (hci : ¬ c = i) : Kd.C kF w (some (ad.add (i * 3))) (G.length - i) (G.drop i) := by
  have := C_back h hi hc
  rw [if_neg hci] at this
  exact this
theorem C_zero (w : World) (A : Option Addr) : Kd.C kF w A 0 [] := ⟨rfl, by decide, fun h => absurd h (by decide)⟩
theorem new_nil {w W : World} {g : Nat} (hg : w.heap.size ≤ g) (h : W.heap[g]? = some (.cells #[] 90 (0, 0))) : kF.R 90 W w.heap.size (fun _ => True) (.slice (some ⟨g, 0, none⟩) 0 0) [] :=
  Raw.R_close (w := W) (cur := []) h hg trivial (Nat.le_refl _) (by decide) rfl (Reps.none _ _) (fun _ _ _ _ => rfl)
theorem new_one {W : World} {g : Nat} {f : DFile} (h : FBk W g f) : Kd.C kF W (some ⟨g, 0, none⟩) 1 [f] :=
  ⟨rfl, by decide, fun _ => ⟨_, rfl, fun j p hj => by
    obtain rfl : j = 0 := by
      have := (List.getElem?_eq_some_iff.1 hj).1
      simpa using this
    obtain rfl : f = p := by simpa using hj
    refine ⟨_, rfl, kF_mk _ f, fun q u hu => ?_⟩
    rw [add_at, cell_of_row W _ _ _ 90 (0, 0) h]
    simpa using hu⟩⟩
set_option maxRecDepth 100000 in
set_option maxHeartbeats 8000000 in
theorem ref_put.calls (w : World) (d : Nat) (m : Nat → Prop) (r B : Nat) (v : Value) (G : List DFile) (f : DFile) (h : RefAt w d m r B v G) (hl : G.length ≤ 1000000) :
    Calls Try.prog 58 #[.pointer (some ⟨r, 0, none⟩), .agg #[.string f.name, .string f.text, .int .i64 f.safe]] w fun e w' => e = .returned (.tuple #[]) ∧ (∃ v', RefAt w' d m r B v' (gput G f)) ∧ Fr w w' (RS d m B) := by
  obtain ⟨W, hW⟩ : ∃ W, W = w.alloc (.cells #[.string f.name, .string f.text, .int .i64 f.safe] 90) := ⟨_, rfl⟩
  obtain ⟨gb, hgb⟩ : ∃ gb, gb = w.heap.size := ⟨_, rfl⟩
  have HF := Aside0.mk (show FBk W gb f by rw [hW, hgb]; exact heap_alloc_new w _)
  have HB := Aside0.mk (show Below w.heap.size w W by rw [hW]; exact below_alloc (Below.refl _ w) _)
  obtain ⟨A, c, ev, hc, hC⟩ := h.reads
  subst ev
  have HR := Aside0.mk h
  have HCap := Aside0.mk hc
  have HC := Aside0.mk hC
  have HL := Aside0.mk hl
  have hnone : A = none → c = 0 := by
    intro e
    subst e
    rcases Raw.R_cases h.row with ⟨e1, _⟩ | ⟨g, c', e1⟩
    · injection e1
    · cases e1
  have hnil : A = none → G = [] := by
    intro e
    subst e
    refine List.eq_nil_of_length_eq_zero ?_
    rcases Nat.eq_zero_or_pos G.length with h0 | h0
    · exact h0
    · obtain ⟨ad, e1, _⟩ := hC.2.2 h0
      cases e1
  clear h hl hC
  go_enter Try.func58, Try.ntmps58
  go_wp2
  rw [← hW, ← hgb]
  clear hW hgb
  go_loopw [4] (fun v4 w' => ∃ i : Nat, v4 = .int .i64 i ∧ i ≤ G.length ∧ Aside0 (posG G f.name = i + posG (G.drop i) f.name) ∧ Aside0 (Drawn0 W w')) (fun v4 _ => (G.length - intOf v4).toNat)
  case atStart => exact ⟨0, rfl, by omega, ⟨by simp⟩, ⟨⟨0, rfl⟩⟩⟩
  case round =>
    obtain ⟨i, rfl, hi, HI, HD⟩ := hrel
    obtain ⟨nd, hnd⟩ := HD.out
    subst hnd
    have HBn := Aside0.mk (show Below w.heap.size w (W.drewN nd).drew from pw_below_drewN (pw_below_drewN HB.out nd) 1)
    have g0 : (W.drewN nd).cell? ⟨r, 0, none⟩ = some (.slice A G.length c) := (blk_cell (HR.out.below HB.out).blk 0).trans rfl
    have y0 : (W.drewN nd).cell? ⟨gb, 0, none⟩ = some (.string f.name) := (blk_cell HF.out 0).trans rfl
    by_cases hlt : i < G.length
    · have d0 : decide ((i : Int) < (G.length : Int)) = true := by simp; omega
      have w1_ : IntKind.i64.wrap ((i : Int) + 1) = ((i + 1 : Nat) : Int) := by have := HL.out; rw [IntKind.wrap_i64]; omega
      obtain ⟨q, hq⟩ : ∃ q, G[i]? = some q := ⟨_, List.getElem?_eq_getElem hlt⟩
      obtain ⟨ad, e0, x0, x1, x2⟩ := at_N (Kd.C_below HC.out HB.out) hlt hq
      subst e0
      replace x0 : (W.drewN nd).cell? (ad.add (i * 3)) = some (.string q.name) := x0
      have HQ := Aside0.mk hq
      clear hq x1 x2
      by_cases hn : lessN q.name f.name = true
      · have d1 : Op.bytesLess q.name.toList f.name.toList = true := hn
        have HI2 : Aside0 (posG G f.name = (i + 1) + posG (G.drop (i + 1)) f.name) := ⟨by rw [HI.out, posG_drop HQ.out, if_pos hn]; omega⟩
        clear hn
        go_wp2
        refine start_ (n := 20) (S := fun w' => w'.cell? ⟨r, 0, none⟩ = some (.slice (some ad) G.length c) ∧ w'.cell? (ad.add (i * 3)) = some (.string q.name) ∧ w'.cell? ⟨gb, 0, none⟩ = some (.string f.name)) (ds := []) #[false, false, false, false, false, false, false, false, false, false, false, false, false, false, false, false, false, false, false, false] (by kernel_rfl) rfl rfl ⟨g0, x0, y0⟩ (fun hHeld => ?_)
        refine pure_ (i := 0) (N := some 6) (v := ?_) (a' := ?_) #[true, false, false, false, false, false, false, false, false, false, false, false, false, false, false, false, false, false, false, false] rfl rfl (by kernel_rfl) (fun _ _ _ h => h) (Or.inl ⟨by rfl, ?_⟩) ?_ ?_
        rotate_left
        · intro w'
          go_simp
          with_reducible rfl
        rotate_left
        · simp only [Act.put, List.setIfInBounds_toArray, List.set_cons_zero, List.set_cons_succ, i64_w, i32_w]
          rfl
        refine pure_ (i := 1) (N := some 7) (v := ?_) (a' := ?_) #[true, true, false, false, false, false, false, false, false, false, false, false, false, false, false, false, false, false, false, false] rfl rfl (by kernel_rfl) (fun _ _ _ h => h) (Or.inl ⟨by rfl, ?_⟩) ?_ ?_
        rotate_left
        · intro w'
          go_simp
          with_reducible rfl
        rotate_left
        · simp only [Act.put, List.setIfInBounds_toArray, List.set_cons_zero, List.set_cons_succ, i64_w, i32_w]
          rfl
        refine pure_ (i := 2) (N := some 8) (v := ?_) (a' := ?_) #[true, true, true, false, false, false, false, false, false, false, false, false, false, false, false, false, false, false, false, false] rfl rfl (by kernel_rfl) (fun _ _ _ h => h) (Or.inl ⟨by rfl, ?_⟩) ?_ ?_
        rotate_left
        · intro w'
          go_simp
          with_reducible rfl
        rotate_left
        · simp only [Act.put, List.setIfInBounds_toArray, List.set_cons_zero, List.set_cons_succ, i64_w, i32_w]
          rfl
        refine pure_ (i := 3) (N := some 9) (v := ?_) (a' := ?_) #[true, true, true, true, false, false, false, false, false, false, false, false, false, false, false, false, false, false, false, false] rfl rfl (by kernel_rfl) (fun _ _ _ h => h) (Or.inl ⟨by rfl, ?_⟩) ?_ ?_
        rotate_left
        · intro w'
          go_simp
          with_reducible rfl
        rotate_left
        · simp only [Act.put, List.setIfInBounds_toArray, List.set_cons_zero, List.set_cons_succ, i64_w, i32_w]
          rfl
        refine take_ (i := 4) (N := some 10) (v := ?_) (a' := ?_) #[true, true, true, true, true, false, false, false, false, false, false, false, false, false, false, false, false, false, false, false] rfl rfl (by kernel_rfl) (fun _ _ _ h => h) (Or.inl ⟨by rfl, ?_⟩) hHeld ?_ ?_
        rotate_left
        · rintro w' ⟨s0, s1, s2⟩
          go_simp
          with_reducible rfl
        rotate_left
        · simp only [Act.put, List.setIfInBounds_toArray, List.set_cons_zero, List.set_cons_succ, i64_w, i32_w]
          rfl
        refine pure_ (i := 5) (N := some 11) (v := ?_) (a' := ?_) #[true, true, true, true, true, true, false, false, false, false, false, false, false, false, false, false, false, false, false, false] rfl rfl (by kernel_rfl) (fun _ _ _ h => h) (Or.inl ⟨by rfl, ?_⟩) ?_ ?_
        rotate_left
        · intro w'
          go_simp
          with_reducible rfl
        rotate_left
        · simp only [Act.put, List.setIfInBounds_toArray, List.set_cons_zero, List.set_cons_succ, i64_w, i32_w]
          rfl
        refine pure_ (i := 6) (N := some 12) (v := ?_) (a' := ?_) #[true, true, true, true, true, true, true, false, false, false, false, false, false, false, false, false, false, false, false, false] rfl rfl (by kernel_rfl) (fun _ _ _ h => h) (Or.inl ⟨by rfl, ?_⟩) ?_ ?_
        rotate_left
        · intro w'
          go_simp
          with_reducible rfl
        rotate_left
        · simp only [Act.put, List.setIfInBounds_toArray, List.set_cons_zero, List.set_cons_succ, i64_w, i32_w]
          rfl
        refine pure_ (i := 7) (N := some 13) (v := ?_) (a' := ?_) #[true, true, true, true, true, true, true, true, false, false, false, false, false, false, false, false, false, false, false, false] rfl rfl (by kernel_rfl) (fun _ _ _ h => h) (Or.inl ⟨by rfl, ?_⟩) ?_ ?_
        rotate_left
        · intro w'
          go_simp
          with_reducible rfl
        rotate_left
        · simp only [Act.put, List.setIfInBounds_toArray, List.set_cons_zero, List.set_cons_succ, i64_w, i32_w]
          rfl
        refine pure_ (i := 8) (N := some 14) (v := ?_) (a' := ?_) #[true, true, true, true, true, true, true, true, true, false, false, false, false, false, false, false, false, false, false, false] rfl rfl (by kernel_rfl) (fun _ _ _ h => h) (Or.inl ⟨by rfl, ?_⟩) ?_ ?_
        rotate_left
        · intro w'
          go_simp
          with_reducible rfl
        rotate_left
        · simp only [Act.put, List.setIfInBounds_toArray, List.set_cons_zero, List.set_cons_succ, i64_w, i32_w]
          rfl
        refine pure_ (i := 9) (N := some 15) (v := ?_) (a' := ?_) #[true, true, true, true, true, true, true, true, true, true, false, false, false, false, false, false, false, false, false, false] rfl rfl (by kernel_rfl) (fun _ _ _ h => h) (Or.inl ⟨by rfl, ?_⟩) ?_ ?_
        rotate_left
        · intro w'
          go_simp
          with_reducible rfl
        rotate_left
        · simp only [Act.put, List.setIfInBounds_toArray, List.set_cons_zero, List.set_cons_succ, i64_w, i32_w]
          rfl
        refine pure_ (i := 10) (N := some 16) (v := ?_) (a' := ?_) #[true, true, true, true, true, true, true, true, true, true, true, false, false, false, false, false, false, false, false, false] rfl rfl (by kernel_rfl) (fun _ _ _ h => h) (Or.inl ⟨by rfl, ?_⟩) ?_ ?_
        rotate_left
        · intro w'
          go_simp
          with_reducible rfl
        rotate_left
        · simp only [Act.put, List.setIfInBounds_toArray, List.set_cons_zero, List.set_cons_succ, i64_w, i32_w]
          rfl
        refine pure_ (i := 12) (N := some 18) (v := ?_) (a' := ?_) #[true, true, true, true, true, true, true, true, true, true, true, false, true, false, false, false, false, false, false, false] rfl rfl (by kernel_rfl) (fun _ _ _ h => h) (Or.inl ⟨by rfl, ?_⟩) ?_ ?_
        rotate_left
        · intro w'
          go_simp
          with_reducible rfl
        rotate_left
        · simp only [Act.put, List.setIfInBounds_toArray, List.set_cons_zero, List.set_cons_succ, i64_w, i32_w]
          rfl
        refine pure_ (i := 16) (N := some 22) (v := ?_) (a' := ?_) #[true, true, true, true, true, true, true, true, true, true, true, false, true, false, false, false, true, false, false, false] rfl rfl (by kernel_rfl) (fun _ _ _ h => h) (Or.inl ⟨by rfl, ?_⟩) ?_ ?_
        rotate_left
        · intro w'
          go_simp
          with_reducible rfl
        rotate_left
        · simp only [Act.put, List.setIfInBounds_toArray, List.set_cons_zero, List.set_cons_succ, i64_w, i32_w]
          rfl
        refine take_ (i := 11) (N := some 17) (v := ?_) (a' := ?_) #[true, true, true, true, true, true, true, true, true, true, true, true, true, false, false, false, true, false, false, false] rfl rfl (by kernel_rfl) (fun _ _ _ h => h) (Or.inl ⟨by rfl, ?_⟩) hHeld ?_ ?_
        rotate_left
        · rintro w' ⟨s0, s1, s2⟩
          go_simp
          with_reducible rfl
        rotate_left
        · simp only [Act.put, List.setIfInBounds_toArray, List.set_cons_zero, List.set_cons_succ, i64_w, i32_w]
          rfl
        refine pure_ (i := 13) (N := some 19) (v := ?_) (a' := ?_) #[true, true, true, true, true, true, true, true, true, true, true, true, true, true, false, false, true, false, false, false] rfl rfl (by kernel_rfl) (fun _ _ _ h => h) (Or.inl ⟨by rfl, ?_⟩) ?_ ?_
        rotate_left
        · intro w'
          go_simp
          with_reducible rfl
        rotate_left
        · simp only [Act.put, List.setIfInBounds_toArray, List.set_cons_zero, List.set_cons_succ, i64_w, i32_w]
          rfl
        refine pure_ (i := 14) (N := some 20) (v := ?_) (a' := ?_) #[true, true, true, true, true, true, true, true, true, true, true, true, true, true, true, false, true, false, false, false] rfl rfl (by kernel_rfl) (fun _ _ _ h => h) (Or.inl ⟨by rfl, ?_⟩) ?_ ?_
        rotate_left
        · intro w'
          go_simp
          with_reducible rfl
        rotate_left
        · simp only [Act.put, List.setIfInBounds_toArray, List.set_cons_zero, List.set_cons_succ, i64_w, i32_w]
          rfl
        refine take_ (i := 15) (N := some 21) (v := ?_) (a' := ?_) #[true, true, true, true, true, true, true, true, true, true, true, true, true, true, true, true, true, false, false, false] rfl rfl (by kernel_rfl) (fun _ _ _ h => h) (Or.inl ⟨by rfl, ?_⟩) hHeld ?_ ?_
        rotate_left
        · rintro w' ⟨s0, s1, s2⟩
          go_simp
          with_reducible rfl
        rotate_left
        · simp only [Act.put, List.setIfInBounds_toArray, List.set_cons_zero, List.set_cons_succ, i64_w, i32_w]
          rfl
        refine take_ (i := 17) (N := some 23) (v := ?_) (a' := ?_) #[true, true, true, true, true, true, true, true, true, true, true, true, true, true, true, true, true, true, false, false] rfl rfl (by kernel_rfl) (fun _ _ _ h => h) (Or.inl ⟨by rfl, ?_⟩) hHeld ?_ ?_
        rotate_left
        · rintro w' ⟨s0, s1, s2⟩
          go_simp
          with_reducible rfl
        rotate_left
        · simp only [Act.put, List.setIfInBounds_toArray, List.set_cons_zero, List.set_cons_succ, i64_w, i32_w]
          rfl
        refine pure_ (i := 18) (N := some 24) (v := ?_) (a' := ?_) #[true, true, true, true, true, true, true, true, true, true, true, true, true, true, true, true, true, true, true, false] rfl rfl (by kernel_rfl) (fun _ _ _ h => h) (Or.inl ⟨by rfl, ?_⟩) ?_ ?_
        rotate_left
        · intro w'
          go_simp
          with_reducible rfl
        rotate_left
        · simp only [Act.put, List.setIfInBounds_toArray, List.set_cons_zero, List.set_cons_succ, i64_w, i32_w]
          rfl
        refine pure_ (i := 19) (N := some 25) (v := ?_) (a' := ?_) #[true, true, true, true, true, true, true, true, true, true, true, true, true, true, true, true, true, true, true, true] rfl rfl (by kernel_rfl) (fun _ _ _ h => h) (Or.inl ⟨by rfl, ?_⟩) ?_ ?_
        rotate_left
        · intro w'
          go_simp
          with_reducible rfl
        rotate_left
        · simp only [Act.put, List.setIfInBounds_toArray, List.set_cons_zero, List.set_cons_succ, i64_w, i32_w]
          rfl
        refine done_ (by kernel_rfl) ?_
        go_wp2
        go_roundw
        case rel => exact ⟨i + 1, rfl, by omega, HI2, ⟨⟨nd + 1, rfl⟩⟩⟩
        case measure => simp [intOf]; omega
      · have d1 : Op.bytesLess q.name.toList f.name.toList = false := by cases e : Op.bytesLess q.name.toList f.name.toList; rfl; exact absurd e hn
        have HI2 : Aside0 (posG G f.name = i) := ⟨by rw [HI.out, posG_drop HQ.out, if_neg hn]; rfl⟩
        have hci : ¬ c = i := by omega
        go_wp2
        refine start_ (n := 20) (S := fun w' => w'.cell? ⟨r, 0, none⟩ = some (.slice (some ad) G.length c) ∧ w'.cell? (ad.add (i * 3)) = some (.string q.name) ∧ w'.cell? ⟨gb, 0, none⟩ = some (.string f.name)) (ds := []) #[false, false, false, false, false, false, false, false, false, false, false, false, false, false, false, false, false, false, false, false] (by kernel_rfl) rfl rfl ⟨g0, x0, y0⟩ (fun hHeld => ?_)
        refine pure_ (i := 0) (N := some 6) (v := ?_) (a' := ?_) #[true, false, false, false, false, false, false, false, false, false, false, false, false, false, false, false, false, false, false, false] rfl rfl (by kernel_rfl) (fun _ _ _ h => h) (Or.inl ⟨by rfl, ?_⟩) ?_ ?_
        rotate_left
        · intro w'
          go_simp
          with_reducible rfl
        rotate_left
        · simp only [Act.put, List.setIfInBounds_toArray, List.set_cons_zero, List.set_cons_succ, i64_w, i32_w]
          rfl
        refine pure_ (i := 1) (N := some 7) (v := ?_) (a' := ?_) #[true, true, false, false, false, false, false, false, false, false, false, false, false, false, false, false, false, false, false, false] rfl rfl (by kernel_rfl) (fun _ _ _ h => h) (Or.inl ⟨by rfl, ?_⟩) ?_ ?_
        rotate_left
        · intro w'
          go_simp
          with_reducible rfl
        rotate_left
        · simp only [Act.put, List.setIfInBounds_toArray, List.set_cons_zero, List.set_cons_succ, i64_w, i32_w]
          rfl
        refine pure_ (i := 2) (N := some 8) (v := ?_) (a' := ?_) #[true, true, true, false, false, false, false, false, false, false, false, false, false, false, false, false, false, false, false, false] rfl rfl (by kernel_rfl) (fun _ _ _ h => h) (Or.inl ⟨by rfl, ?_⟩) ?_ ?_
        rotate_left
        · intro w'
          go_simp
          with_reducible rfl
        rotate_left
        · simp only [Act.put, List.setIfInBounds_toArray, List.set_cons_zero, List.set_cons_succ, i64_w, i32_w]
          rfl
        refine pure_ (i := 3) (N := some 9) (v := ?_) (a' := ?_) #[true, true, true, true, false, false, false, false, false, false, false, false, false, false, false, false, false, false, false, false] rfl rfl (by kernel_rfl) (fun _ _ _ h => h) (Or.inl ⟨by rfl, ?_⟩) ?_ ?_
        rotate_left
        · intro w'
          go_simp
          with_reducible rfl
        rotate_left
        · simp only [Act.put, List.setIfInBounds_toArray, List.set_cons_zero, List.set_cons_succ, i64_w, i32_w]
          rfl
        refine take_ (i := 4) (N := some 10) (v := ?_) (a' := ?_) #[true, true, true, true, true, false, false, false, false, false, false, false, false, false, false, false, false, false, false, false] rfl rfl (by kernel_rfl) (fun _ _ _ h => h) (Or.inl ⟨by rfl, ?_⟩) hHeld ?_ ?_
        rotate_left
        · rintro w' ⟨s0, s1, s2⟩
          go_simp
          with_reducible rfl
        rotate_left
        · simp only [Act.put, List.setIfInBounds_toArray, List.set_cons_zero, List.set_cons_succ, i64_w, i32_w]
          rfl
        refine pure_ (i := 5) (N := some 11) (v := ?_) (a' := ?_) #[true, true, true, true, true, true, false, false, false, false, false, false, false, false, false, false, false, false, false, false] rfl rfl (by kernel_rfl) (fun _ _ _ h => h) (Or.inl ⟨by rfl, ?_⟩) ?_ ?_
        rotate_left
        · intro w'
          go_simp
          with_reducible rfl
        rotate_left
        · simp only [Act.put, List.setIfInBounds_toArray, List.set_cons_zero, List.set_cons_succ, i64_w, i32_w]
          rfl
        refine pure_ (i := 6) (N := some 12) (v := ?_) (a' := ?_) #[true, true, true, true, true, true, true, false, false, false, false, false, false, false, false, false, false, false, false, false] rfl rfl (by kernel_rfl) (fun _ _ _ h => h) (Or.inl ⟨by rfl, ?_⟩) ?_ ?_
        rotate_left
        · intro w'
          go_simp
          with_reducible rfl
        rotate_left
        · simp only [Act.put, List.setIfInBounds_toArray, List.set_cons_zero, List.set_cons_succ, i64_w, i32_w]
          rfl
        refine pure_ (i := 7) (N := some 13) (v := ?_) (a' := ?_) #[true, true, true, true, true, true, true, true, false, false, false, false, false, false, false, false, false, false, false, false] rfl rfl (by kernel_rfl) (fun _ _ _ h => h) (Or.inl ⟨by rfl, ?_⟩) ?_ ?_
        rotate_left
        · intro w'
          go_simp
          with_reducible rfl
        rotate_left
        · simp only [Act.put, List.setIfInBounds_toArray, List.set_cons_zero, List.set_cons_succ, i64_w, i32_w]
          rfl
        refine pure_ (i := 8) (N := some 14) (v := ?_) (a' := ?_) #[true, true, true, true, true, true, true, true, true, false, false, false, false, false, false, false, false, false, false, false] rfl rfl (by kernel_rfl) (fun _ _ _ h => h) (Or.inl ⟨by rfl, ?_⟩) ?_ ?_
        rotate_left
        · intro w'
          go_simp
          with_reducible rfl
        rotate_left
        · simp only [Act.put, List.setIfInBounds_toArray, List.set_cons_zero, List.set_cons_succ, i64_w, i32_w]
          rfl
        refine pure_ (i := 9) (N := some 15) (v := ?_) (a' := ?_) #[true, true, true, true, true, true, true, true, true, true, false, false, false, false, false, false, false, false, false, false] rfl rfl (by kernel_rfl) (fun _ _ _ h => h) (Or.inl ⟨by rfl, ?_⟩) ?_ ?_
        rotate_left
        · intro w'
          go_simp
          with_reducible rfl
        rotate_left
        · simp only [Act.put, List.setIfInBounds_toArray, List.set_cons_zero, List.set_cons_succ, i64_w, i32_w]
          rfl
        refine pure_ (i := 10) (N := some 16) (v := ?_) (a' := ?_) #[true, true, true, true, true, true, true, true, true, true, true, false, false, false, false, false, false, false, false, false] rfl rfl (by kernel_rfl) (fun _ _ _ h => h) (Or.inl ⟨by rfl, ?_⟩) ?_ ?_
        rotate_left
        · intro w'
          go_simp
          with_reducible rfl
        rotate_left
        · simp only [Act.put, List.setIfInBounds_toArray, List.set_cons_zero, List.set_cons_succ, i64_w, i32_w]
          rfl
        refine pure_ (i := 12) (N := some 18) (v := ?_) (a' := ?_) #[true, true, true, true, true, true, true, true, true, true, true, false, true, false, false, false, false, false, false, false] rfl rfl (by kernel_rfl) (fun _ _ _ h => h) (Or.inl ⟨by rfl, ?_⟩) ?_ ?_
        rotate_left
        · intro w'
          go_simp
          with_reducible rfl
        rotate_left
        · simp only [Act.put, List.setIfInBounds_toArray, List.set_cons_zero, List.set_cons_succ, i64_w, i32_w]
          rfl
        refine pure_ (i := 16) (N := some 22) (v := ?_) (a' := ?_) #[true, true, true, true, true, true, true, true, true, true, true, false, true, false, false, false, true, false, false, false] rfl rfl (by kernel_rfl) (fun _ _ _ h => h) (Or.inl ⟨by rfl, ?_⟩) ?_ ?_
        rotate_left
        · intro w'
          go_simp
          with_reducible rfl
        rotate_left
        · simp only [Act.put, List.setIfInBounds_toArray, List.set_cons_zero, List.set_cons_succ, i64_w, i32_w]
          rfl
        refine take_ (i := 11) (N := some 17) (v := ?_) (a' := ?_) #[true, true, true, true, true, true, true, true, true, true, true, true, true, false, false, false, true, false, false, false] rfl rfl (by kernel_rfl) (fun _ _ _ h => h) (Or.inl ⟨by rfl, ?_⟩) hHeld ?_ ?_
        rotate_left
        · rintro w' ⟨s0, s1, s2⟩
          go_simp
          with_reducible rfl
        rotate_left
        · simp only [Act.put, List.setIfInBounds_toArray, List.set_cons_zero, List.set_cons_succ, i64_w, i32_w]
          rfl
        refine pure_ (i := 13) (N := some 19) (v := ?_) (a' := ?_) #[true, true, true, true, true, true, true, true, true, true, true, true, true, true, false, false, true, false, false, false] rfl rfl (by kernel_rfl) (fun _ _ _ h => h) (Or.inl ⟨by rfl, ?_⟩) ?_ ?_
        rotate_left
        · intro w'
          go_simp
          with_reducible rfl
        rotate_left
        · simp only [Act.put, List.setIfInBounds_toArray, List.set_cons_zero, List.set_cons_succ, i64_w, i32_w]
          rfl
        refine pure_ (i := 14) (N := some 20) (v := ?_) (a' := ?_) #[true, true, true, true, true, true, true, true, true, true, true, true, true, true, true, false, true, false, false, false] rfl rfl (by kernel_rfl) (fun _ _ _ h => h) (Or.inl ⟨by rfl, ?_⟩) ?_ ?_
        rotate_left
        · intro w'
          go_simp
          with_reducible rfl
        rotate_left
        · simp only [Act.put, List.setIfInBounds_toArray, List.set_cons_zero, List.set_cons_succ, i64_w, i32_w]
          rfl
        refine take_ (i := 15) (N := some 21) (v := ?_) (a' := ?_) #[true, true, true, true, true, true, true, true, true, true, true, true, true, true, true, true, true, false, false, false] rfl rfl (by kernel_rfl) (fun _ _ _ h => h) (Or.inl ⟨by rfl, ?_⟩) hHeld ?_ ?_
        rotate_left
        · rintro w' ⟨s0, s1, s2⟩
          go_simp
          with_reducible rfl
        rotate_left
        · simp only [Act.put, List.setIfInBounds_toArray, List.set_cons_zero, List.set_cons_succ, i64_w, i32_w]
          rfl
        refine take_ (i := 17) (N := some 23) (v := ?_) (a' := ?_) #[true, true, true, true, true, true, true, true, true, true, true, true, true, true, true, true, true, true, false, false] rfl rfl (by kernel_rfl) (fun _ _ _ h => h) (Or.inl ⟨by rfl, ?_⟩) hHeld ?_ ?_
        rotate_left
        · rintro w' ⟨s0, s1, s2⟩
          go_simp
          with_reducible rfl
        rotate_left
        · simp only [Act.put, List.setIfInBounds_toArray, List.set_cons_zero, List.set_cons_succ, i64_w, i32_w]
          rfl
        refine pure_ (i := 18) (N := some 24) (v := ?_) (a' := ?_) #[true, true, true, true, true, true, true, true, true, true, true, true, true, true, true, true, true, true, true, false] rfl rfl (by kernel_rfl) (fun _ _ _ h => h) (Or.inl ⟨by rfl, ?_⟩) ?_ ?_
        rotate_left
        · intro w'
          go_simp
          with_reducible rfl
        rotate_left
        · simp only [Act.put, List.setIfInBounds_toArray, List.set_cons_zero, List.set_cons_succ, i64_w, i32_w]
          rfl
        refine pure_ (i := 19) (N := some 25) (v := ?_) (a' := ?_) #[true, true, true, true, true, true, true, true, true, true, true, true, true, true, true, true, true, true, true, true] rfl rfl (by kernel_rfl) (fun _ _ _ h => h) (Or.inl ⟨by rfl, ?_⟩) ?_ ?_
        rotate_left
        · intro w'
          go_simp
          with_reducible rfl
        rotate_left
        · simp only [Act.put, List.setIfInBounds_toArray, List.set_cons_zero, List.set_cons_succ, i64_w, i32_w]
          rfl
        refine done_ (by kernel_rfl) ?_
        skip
        clear hHeld g0 y0
        have HF2 := Aside0.mk (show FBk (W.drewN nd).drew gb f from HF.out)
        generalize (W.drewN nd).drew = W2 at *
        have gA : ∀ o, (W2.alloc o).cell? ⟨r, 0, none⟩ = some (.slice (some ad) G.length c) := fun o => (blk_cell (HR.out.below (below_alloc HBn.out o)).blk 0).trans rfl
        have HO0 := Aside0.mk (new_nil (W := W2.alloc (.cells #[] 90)) (w := w) HBn.out.size (heap_alloc_new W2 _))
        have HB0 := Aside0.mk (below_alloc HBn.out (.cells #[] 90))
        go_wp2_with (first
          | ((with_reducible refine gate_builtin (b := .append) (xs := #[.tmp 28, .tmp 34]) rfl ?_); at_builtin; (refine Kd.R_append_rows kF (w0 := w) w.heap.size rfl (.tmp 28) (.tmp 34) 85 90 _ 40 rfl undF infoF rfl kF_pos1 kF_pos2 (.slice (some ⟨W2.heap.size, 0, none⟩) 0 0) [] (G.take i) _ _ _ (fun _ => True) (fun _ => False) rfl rfl (HO0.out) (Kd.C_below (C_front HC.out hi) (below_alloc HBn.out _)) (kF_KM _ _ _ _) (fun _ h => h.elim) (fun _ _ => trivial) (HB0.out) (HB0.out).size (by have := HL.out; first | omega | (simp; done) | (simp; omega)) ?_); (intro v1 Y1 ho hb hg hat; have HO1 := Aside0.mk ho; have HB1 := Aside0.mk hb; have HF1 := Aside0.mk (show FBk Y1 gb f from blk_grown (g := gb) (blk_alloc HF2.out _) hg (by have := blk_lt HF2.out; simp [Value.ownBlock]; omega)); have f0 : Y1.cell? ⟨gb, 0, none⟩ = some (.string f.name) := (blk_cell HF1.out 0).trans rfl; have f1 : Y1.cell? ⟨gb, 1, none⟩ = some (.string f.text) := (blk_cell HF1.out 1).trans rfl; have f2 : Y1.cell? ⟨gb, 2, none⟩ = some (.int .i64 f.safe) := (blk_cell HF1.out 2).trans rfl; clear ho hb hg hat))
          | ((with_reducible refine gate_builtin (b := .append) (xs := #[.tmp 36, .tmp 38]) rfl ?_); at_builtin; (refine Kd.R_append_rows kF (w0 := w) w.heap.size rfl (.tmp 36) (.tmp 38) 85 90 _ 40 rfl undF infoF rfl kF_pos1 kF_pos2 v1 (G.take i) [f] _ _ _ (fun _ => True) (fun _ => False) rfl rfl (Kd.R_below HO1.out (below_alloc (Below.refl _ _) _)) (new_one (heap_alloc_new Y1 _)) (kF_KM _ _ _ _) (fun _ h => h.elim) (fun _ _ => trivial) (below_alloc HB1.out _) (below_alloc HB1.out _).size (by have := HL.out; first | omega | (simp; done) | (simp; omega)) ?_); (intro v2 Y2 ho hb hg hat; have HO2 := Aside0.mk ho; have HB2 := Aside0.mk hb; have g0 : Y2.cell? ⟨r, 0, none⟩ = some (.slice (some ad) G.length c) := (blk_cell (HR.out.below hb).blk 0).trans rfl; clear ho hb hg hat))
          | ((with_reducible refine gate_builtin (b := .append) (xs := #[.tmp 41, .tmp 47]) rfl ?_); at_builtin; (refine Kd.R_append_rows kF (w0 := w) w.heap.size rfl (.tmp 41) (.tmp 47) 85 90 _ 40 rfl undF infoF rfl kF_pos1 kF_pos2 v2 ((G.take i) ++ [f]) (G.drop i) _ _ _ (fun _ => True) (fun _ => False) rfl rfl (HO2.out) (Kd.C_below (C_back_some HC.out hi HCap.out hci) HB2.out) (kF_KM _ _ _ _) (fun _ h => h.elim) (fun _ _ => trivial) (HB2.out) (HB2.out).size (by have := HL.out; first | omega | (simp; done) | (simp; omega)) ?_); (intro v3 Y3 ho hb hg hat; obtain ⟨A3, c3, e3, _, _⟩ := Kd.R_reads ho; obtain ⟨L3, hL3⟩ : ∃ q : Nat, q = ((G.take i) ++ [f] ++ (G.drop i)).length := ⟨_, rfl⟩; rw [← hL3] at e3; subst e3; clear hL3; have g3 : Y3.cell? ⟨r, 0, none⟩ = some (.slice (some ad) G.length c) := (blk_cell (HR.out.below hb).blk 0).trans rfl; have z3 : Y3.frozen? ⟨r, 0, none⟩ = false := blk_frozen (HR.out.below hb).blk 0; have HO3 := Aside0.mk ho; have HB3 := Aside0.mk hb;  clear ho hb hg hat)))
        (first | go_end0 | ((try simp only [Exit.inBlock, Exit.then]); refine bodyPost_ret (results_none rfl _ _ _) rfl ?_))
        have := HR.out.put HB3.out HO3.out
        exact ⟨rfl, ⟨_, by unfold gput; rw [HI2.out]; simpa using this.1⟩, this.2⟩
    · obtain rfl : i = G.length := by omega
      have d0 : decide ((G.length : Int) < (G.length : Int)) = false := by simp
      have HI2 : Aside0 (posG G f.name = G.length) := ⟨by rw [HI.out, List.drop_eq_nil_of_le (Nat.le_refl _)]; rfl⟩
      rcases A with _ | ad
      · have hc0 := hnone rfl
        subst hc0
        obtain rfl : G = [] := hnil rfl
        replace g0 : (W.drewN nd).cell? ⟨r, 0, none⟩ = some (.slice none 0 0) := g0
        go_wp2
        refine start_ (n := 20) (S := fun w' => w'.cell? ⟨r, 0, none⟩ = some (.slice none 0 0)) (ds := []) #[false, false, false, false, false, false, false, false, false, false, false, false, false, false, false, false, false, false, false, false] (by kernel_rfl) rfl rfl (g0) (fun hHeld => ?_)
        refine pure_ (i := 0) (N := some 6) (v := ?_) (a' := ?_) #[true, false, false, false, false, false, false, false, false, false, false, false, false, false, false, false, false, false, false, false] rfl rfl (by kernel_rfl) (fun _ _ _ h => h) (Or.inl ⟨by rfl, ?_⟩) ?_ ?_
        rotate_left
        · intro w'
          go_simp
          with_reducible rfl
        rotate_left
        · simp only [Act.put, List.setIfInBounds_toArray, List.set_cons_zero, List.set_cons_succ, i64_w, i32_w]
          rfl
        refine pure_ (i := 1) (N := some 7) (v := ?_) (a' := ?_) #[true, true, false, false, false, false, false, false, false, false, false, false, false, false, false, false, false, false, false, false] rfl rfl (by kernel_rfl) (fun _ _ _ h => h) (Or.inl ⟨by rfl, ?_⟩) ?_ ?_
        rotate_left
        · intro w'
          go_simp
          with_reducible rfl
        rotate_left
        · simp only [Act.put, List.setIfInBounds_toArray, List.set_cons_zero, List.set_cons_succ, i64_w, i32_w]
          rfl
        refine pure_ (i := 2) (N := some 8) (v := ?_) (a' := ?_) #[true, true, true, false, false, false, false, false, false, false, false, false, false, false, false, false, false, false, false, false] rfl rfl (by kernel_rfl) (fun _ _ _ h => h) (Or.inl ⟨by rfl, ?_⟩) ?_ ?_
        rotate_left
        · intro w'
          go_simp
          with_reducible rfl
        rotate_left
        · simp only [Act.put, List.setIfInBounds_toArray, List.set_cons_zero, List.set_cons_succ, i64_w, i32_w]
          rfl
        refine pure_ (i := 3) (N := some 9) (v := ?_) (a' := ?_) #[true, true, true, true, false, false, false, false, false, false, false, false, false, false, false, false, false, false, false, false] rfl rfl (by kernel_rfl) (fun _ _ _ h => h) (Or.inl ⟨by rfl, ?_⟩) ?_ ?_
        rotate_left
        · intro w'
          go_simp
          with_reducible rfl
        rotate_left
        · simp only [Act.put, List.setIfInBounds_toArray, List.set_cons_zero, List.set_cons_succ, i64_w, i32_w]
          rfl
        refine take_ (i := 4) (N := some 10) (v := ?_) (a' := ?_) #[true, true, true, true, true, false, false, false, false, false, false, false, false, false, false, false, false, false, false, false] rfl rfl (by kernel_rfl) (fun _ _ _ h => h) (Or.inl ⟨by rfl, ?_⟩) hHeld ?_ ?_
        rotate_left
        · intro w' s0
          go_simp
          with_reducible rfl
        rotate_left
        · simp only [Act.put, List.setIfInBounds_toArray, List.set_cons_zero, List.set_cons_succ, i64_w, i32_w]
          rfl
        refine pure_ (i := 5) (N := some 11) (v := ?_) (a' := ?_) #[true, true, true, true, true, true, false, false, false, false, false, false, false, false, false, false, false, false, false, false] rfl rfl (by kernel_rfl) (fun _ _ _ h => h) (Or.inl ⟨by rfl, ?_⟩) ?_ ?_
        rotate_left
        · intro w'
          go_simp
          with_reducible rfl
        rotate_left
        · simp only [Act.put, List.setIfInBounds_toArray, List.set_cons_zero, List.set_cons_succ, i64_w, i32_w]
          rfl
        refine pure_ (i := 6) (N := some 12) (v := ?_) (a' := ?_) #[true, true, true, true, true, true, true, false, false, false, false, false, false, false, false, false, false, false, false, false] rfl rfl (by kernel_rfl) (fun _ _ _ h => h) (Or.inl ⟨by rfl, ?_⟩) ?_ ?_
        rotate_left
        · intro w'
          go_simp
          with_reducible rfl
        rotate_left
        · simp only [Act.put, List.setIfInBounds_toArray, List.set_cons_zero, List.set_cons_succ, i64_w, i32_w]
          rfl
        refine pure_ (i := 7) (N := some 13) (v := ?_) (a' := ?_) #[true, true, true, true, true, true, true, true, false, false, false, false, false, false, false, false, false, false, false, false] rfl rfl (by kernel_rfl) (fun _ _ _ h => h) (Or.inl ⟨by rfl, ?_⟩) ?_ ?_
        rotate_left
        · intro w'
          go_simp
          with_reducible rfl
        rotate_left
        · simp only [Act.put, List.setIfInBounds_toArray, List.set_cons_zero, List.set_cons_succ, i64_w, i32_w]
          rfl
        refine pure_ (i := 8) (N := some 14) (v := undef) (a' := ?_) #[true, true, true, true, true, true, true, true, true, false, false, false, false, false, false, false, false, false, false, false] rfl rfl (by kernel_rfl) (fun _ _ _ h => h) (Or.inr ⟨by rfl, rfl⟩) ?_ ?_
        rotate_left
        · simp only [Act.put, List.setIfInBounds_toArray, List.set_cons_zero, List.set_cons_succ, i64_w, i32_w]
          rfl
        refine pure_ (i := 9) (N := some 15) (v := undef) (a' := ?_) #[true, true, true, true, true, true, true, true, true, true, false, false, false, false, false, false, false, false, false, false] rfl rfl (by kernel_rfl) (fun _ _ _ h => h) (Or.inr ⟨by rfl, rfl⟩) ?_ ?_
        rotate_left
        · simp only [Act.put, List.setIfInBounds_toArray, List.set_cons_zero, List.set_cons_succ, i64_w, i32_w]
          rfl
        refine pure_ (i := 10) (N := some 16) (v := undef) (a' := ?_) #[true, true, true, true, true, true, true, true, true, true, true, false, false, false, false, false, false, false, false, false] rfl rfl (by kernel_rfl) (fun _ _ _ h => h) (Or.inr ⟨by rfl, rfl⟩) ?_ ?_
        rotate_left
        · simp only [Act.put, List.setIfInBounds_toArray, List.set_cons_zero, List.set_cons_succ, i64_w, i32_w]
          rfl
        refine pure_ (i := 11) (N := some 17) (v := undef) (a' := ?_) #[true, true, true, true, true, true, true, true, true, true, true, true, false, false, false, false, false, false, false, false] rfl rfl (by kernel_rfl) (fun _ _ _ h => h) (Or.inr ⟨by rfl, rfl⟩) ?_ ?_
        rotate_left
        · simp only [Act.put, List.setIfInBounds_toArray, List.set_cons_zero, List.set_cons_succ, i64_w, i32_w]
          rfl
        refine pure_ (i := 12) (N := some 18) (v := undef) (a' := ?_) #[true, true, true, true, true, true, true, true, true, true, true, true, true, false, false, false, false, false, false, false] rfl rfl (by kernel_rfl) (fun _ _ _ h => h) (Or.inr ⟨by rfl, rfl⟩) ?_ ?_
        rotate_left
        · simp only [Act.put, List.setIfInBounds_toArray, List.set_cons_zero, List.set_cons_succ, i64_w, i32_w]
          rfl
        refine pure_ (i := 13) (N := some 19) (v := undef) (a' := ?_) #[true, true, true, true, true, true, true, true, true, true, true, true, true, true, false, false, false, false, false, false] rfl rfl (by kernel_rfl) (fun _ _ _ h => h) (Or.inr ⟨by rfl, rfl⟩) ?_ ?_
        rotate_left
        · simp only [Act.put, List.setIfInBounds_toArray, List.set_cons_zero, List.set_cons_succ, i64_w, i32_w]
          rfl
        refine pure_ (i := 14) (N := some 20) (v := undef) (a' := ?_) #[true, true, true, true, true, true, true, true, true, true, true, true, true, true, true, false, false, false, false, false] rfl rfl (by kernel_rfl) (fun _ _ _ h => h) (Or.inr ⟨by rfl, rfl⟩) ?_ ?_
        rotate_left
        · simp only [Act.put, List.setIfInBounds_toArray, List.set_cons_zero, List.set_cons_succ, i64_w, i32_w]
          rfl
        refine pure_ (i := 15) (N := some 21) (v := undef) (a' := ?_) #[true, true, true, true, true, true, true, true, true, true, true, true, true, true, true, true, false, false, false, false] rfl rfl (by kernel_rfl) (fun _ _ _ h => h) (Or.inr ⟨by rfl, rfl⟩) ?_ ?_
        rotate_left
        · simp only [Act.put, List.setIfInBounds_toArray, List.set_cons_zero, List.set_cons_succ, i64_w, i32_w]
          rfl
        refine pure_ (i := 16) (N := some 22) (v := undef) (a' := ?_) #[true, true, true, true, true, true, true, true, true, true, true, true, true, true, true, true, true, false, false, false] rfl rfl (by kernel_rfl) (fun _ _ _ h => h) (Or.inr ⟨by rfl, rfl⟩) ?_ ?_
        rotate_left
        · simp only [Act.put, List.setIfInBounds_toArray, List.set_cons_zero, List.set_cons_succ, i64_w, i32_w]
          rfl
        refine pure_ (i := 17) (N := some 23) (v := undef) (a' := ?_) #[true, true, true, true, true, true, true, true, true, true, true, true, true, true, true, true, true, true, false, false] rfl rfl (by kernel_rfl) (fun _ _ _ h => h) (Or.inr ⟨by rfl, rfl⟩) ?_ ?_
        rotate_left
        · simp only [Act.put, List.setIfInBounds_toArray, List.set_cons_zero, List.set_cons_succ, i64_w, i32_w]
          rfl
        refine pure_ (i := 18) (N := some 24) (v := undef) (a' := ?_) #[true, true, true, true, true, true, true, true, true, true, true, true, true, true, true, true, true, true, true, false] rfl rfl (by kernel_rfl) (fun _ _ _ h => h) (Or.inr ⟨by rfl, rfl⟩) ?_ ?_
        rotate_left
        · simp only [Act.put, List.setIfInBounds_toArray, List.set_cons_zero, List.set_cons_succ, i64_w, i32_w]
          rfl
        refine pure_ (i := 19) (N := some 25) (v := ?_) (a' := ?_) #[true, true, true, true, true, true, true, true, true, true, true, true, true, true, true, true, true, true, true, true] rfl rfl (by kernel_rfl) (fun _ _ _ h => h) (Or.inl ⟨by rfl, ?_⟩) ?_ ?_
        rotate_left
        · intro w'
          go_simp
          with_reducible rfl
        rotate_left
        · simp only [Act.put, List.setIfInBounds_toArray, List.set_cons_zero, List.set_cons_succ, i64_w, i32_w]
          rfl
        refine done_ (by kernel_rfl) ?_
        skip
        clear hHeld g0 y0
        have HF2 := Aside0.mk (show FBk (W.drewN nd).drew gb f from HF.out)
        generalize (W.drewN nd).drew = W2 at *
        have gA : ∀ o, (W2.alloc o).cell? ⟨r, 0, none⟩ = some (.slice none 0 0) := fun o => (blk_cell (HR.out.below (below_alloc HBn.out o)).blk 0).trans rfl
        have HO0 := Aside0.mk (new_nil (W := W2.alloc (.cells #[] 90)) (w := w) HBn.out.size (heap_alloc_new W2 _))
        have HB0 := Aside0.mk (below_alloc HBn.out (.cells #[] 90))
        go_wp2_with (first
          | ((with_reducible refine gate_builtin (b := .append) (xs := #[.tmp 28, .tmp 34]) rfl ?_); at_builtin; (refine Kd.R_append_rows kF (w0 := w) w.heap.size rfl (.tmp 28) (.tmp 34) 85 90 _ 40 rfl undF infoF rfl kF_pos1 kF_pos2 (.slice (some ⟨W2.heap.size, 0, none⟩) 0 0) [] [] _ _ _ (fun _ => True) (fun _ => False) rfl rfl (HO0.out) (C_zero _ _) (kF_KM _ _ _ _) (fun _ h => h.elim) (fun _ _ => trivial) (HB0.out) (HB0.out).size (by have := HL.out; first | omega | (simp; done) | (simp; omega)) ?_); (intro v1 Y1 ho hb hg hat; have HO1 := Aside0.mk ho; have HB1 := Aside0.mk hb; have HF1 := Aside0.mk (show FBk Y1 gb f from blk_grown (g := gb) (blk_alloc HF2.out _) hg (by have := blk_lt HF2.out; simp [Value.ownBlock]; omega)); have f0 : Y1.cell? ⟨gb, 0, none⟩ = some (.string f.name) := (blk_cell HF1.out 0).trans rfl; have f1 : Y1.cell? ⟨gb, 1, none⟩ = some (.string f.text) := (blk_cell HF1.out 1).trans rfl; have f2 : Y1.cell? ⟨gb, 2, none⟩ = some (.int .i64 f.safe) := (blk_cell HF1.out 2).trans rfl; clear ho hb hg hat))
          | ((with_reducible refine gate_builtin (b := .append) (xs := #[.tmp 36, .tmp 38]) rfl ?_); at_builtin; (refine Kd.R_append_rows kF (w0 := w) w.heap.size rfl (.tmp 36) (.tmp 38) 85 90 _ 40 rfl undF infoF rfl kF_pos1 kF_pos2 v1 [] [f] _ _ _ (fun _ => True) (fun _ => False) rfl rfl (Kd.R_below HO1.out (below_alloc (Below.refl _ _) _)) (new_one (heap_alloc_new Y1 _)) (kF_KM _ _ _ _) (fun _ h => h.elim) (fun _ _ => trivial) (below_alloc HB1.out _) (below_alloc HB1.out _).size (by have := HL.out; first | omega | (simp; done) | (simp; omega)) ?_); (intro v2 Y2 ho hb hg hat; have HO2 := Aside0.mk ho; have HB2 := Aside0.mk hb; have g0 : Y2.cell? ⟨r, 0, none⟩ = some (.slice none 0 0) := (blk_cell (HR.out.below hb).blk 0).trans rfl; clear ho hb hg hat))
          | ((with_reducible refine gate_builtin (b := .append) (xs := #[.tmp 41, .tmp 47]) rfl ?_); at_builtin; (refine Kd.R_append_rows kF (w0 := w) w.heap.size rfl (.tmp 41) (.tmp 47) 85 90 _ 40 rfl undF infoF rfl kF_pos1 kF_pos2 v2 ([] ++ [f]) [] _ _ _ (fun _ => True) (fun _ => False) rfl rfl (HO2.out) (C_zero _ _) (kF_KM _ _ _ _) (fun _ h => h.elim) (fun _ _ => trivial) (HB2.out) (HB2.out).size (by have := HL.out; first | omega | (simp; done) | (simp; omega)) ?_); (intro v3 Y3 ho hb hg hat; obtain ⟨A3, c3, e3, _, _⟩ := Kd.R_reads ho; obtain ⟨L3, hL3⟩ : ∃ q : Nat, q = ([] ++ [f] ++ []).length := ⟨_, rfl⟩; rw [← hL3] at e3; subst e3; clear hL3; have g3 : Y3.cell? ⟨r, 0, none⟩ = some (.slice none 0 0) := (blk_cell (HR.out.below hb).blk 0).trans rfl; have z3 : Y3.frozen? ⟨r, 0, none⟩ = false := blk_frozen (HR.out.below hb).blk 0; have HO3 := Aside0.mk ho; have HB3 := Aside0.mk hb;  clear ho hb hg hat)))
        (first | go_end0 | ((try simp only [Exit.inBlock, Exit.then]); refine bodyPost_ret (results_none rfl _ _ _) rfl ?_))
        have := HR.out.put HB3.out HO3.out
        exact ⟨rfl, ⟨_, by unfold gput; rw [HI2.out]; simpa using this.1⟩, this.2⟩
      · by_cases hci : c = G.length
        · subst hci
          go_wp2
          refine start_ (n := 20) (S := fun w' => w'.cell? ⟨r, 0, none⟩ = some (.slice (some ad) G.length G.length)) (ds := []) #[false, false, false, false, false, false, false, false, false, false, false, false, false, false, false, false, false, false, false, false] (by kernel_rfl) rfl rfl (g0) (fun hHeld => ?_)
          refine pure_ (i := 0) (N := some 6) (v := ?_) (a' := ?_) #[true, false, false, false, false, false, false, false, false, false, false, false, false, false, false, false, false, false, false, false] rfl rfl (by kernel_rfl) (fun _ _ _ h => h) (Or.inl ⟨by rfl, ?_⟩) ?_ ?_
          rotate_left
          · intro w'
            go_simp
            with_reducible rfl
          rotate_left
          · simp only [Act.put, List.setIfInBounds_toArray, List.set_cons_zero, List.set_cons_succ, i64_w, i32_w]
            rfl
          refine pure_ (i := 1) (N := some 7) (v := ?_) (a' := ?_) #[true, true, false, false, false, false, false, false, false, false, false, false, false, false, false, false, false, false, false, false] rfl rfl (by kernel_rfl) (fun _ _ _ h => h) (Or.inl ⟨by rfl, ?_⟩) ?_ ?_
          rotate_left
          · intro w'
            go_simp
            with_reducible rfl
          rotate_left
          · simp only [Act.put, List.setIfInBounds_toArray, List.set_cons_zero, List.set_cons_succ, i64_w, i32_w]
            rfl
          refine pure_ (i := 2) (N := some 8) (v := ?_) (a' := ?_) #[true, true, true, false, false, false, false, false, false, false, false, false, false, false, false, false, false, false, false, false] rfl rfl (by kernel_rfl) (fun _ _ _ h => h) (Or.inl ⟨by rfl, ?_⟩) ?_ ?_
          rotate_left
          · intro w'
            go_simp
            with_reducible rfl
          rotate_left
          · simp only [Act.put, List.setIfInBounds_toArray, List.set_cons_zero, List.set_cons_succ, i64_w, i32_w]
            rfl
          refine pure_ (i := 3) (N := some 9) (v := ?_) (a' := ?_) #[true, true, true, true, false, false, false, false, false, false, false, false, false, false, false, false, false, false, false, false] rfl rfl (by kernel_rfl) (fun _ _ _ h => h) (Or.inl ⟨by rfl, ?_⟩) ?_ ?_
          rotate_left
          · intro w'
            go_simp
            with_reducible rfl
          rotate_left
          · simp only [Act.put, List.setIfInBounds_toArray, List.set_cons_zero, List.set_cons_succ, i64_w, i32_w]
            rfl
          refine take_ (i := 4) (N := some 10) (v := ?_) (a' := ?_) #[true, true, true, true, true, false, false, false, false, false, false, false, false, false, false, false, false, false, false, false] rfl rfl (by kernel_rfl) (fun _ _ _ h => h) (Or.inl ⟨by rfl, ?_⟩) hHeld ?_ ?_
          rotate_left
          · intro w' s0
            go_simp
            with_reducible rfl
          rotate_left
          · simp only [Act.put, List.setIfInBounds_toArray, List.set_cons_zero, List.set_cons_succ, i64_w, i32_w]
            rfl
          refine pure_ (i := 5) (N := some 11) (v := ?_) (a' := ?_) #[true, true, true, true, true, true, false, false, false, false, false, false, false, false, false, false, false, false, false, false] rfl rfl (by kernel_rfl) (fun _ _ _ h => h) (Or.inl ⟨by rfl, ?_⟩) ?_ ?_
          rotate_left
          · intro w'
            go_simp
            with_reducible rfl
          rotate_left
          · simp only [Act.put, List.setIfInBounds_toArray, List.set_cons_zero, List.set_cons_succ, i64_w, i32_w]
            rfl
          refine pure_ (i := 6) (N := some 12) (v := ?_) (a' := ?_) #[true, true, true, true, true, true, true, false, false, false, false, false, false, false, false, false, false, false, false, false] rfl rfl (by kernel_rfl) (fun _ _ _ h => h) (Or.inl ⟨by rfl, ?_⟩) ?_ ?_
          rotate_left
          · intro w'
            go_simp
            with_reducible rfl
          rotate_left
          · simp only [Act.put, List.setIfInBounds_toArray, List.set_cons_zero, List.set_cons_succ, i64_w, i32_w]
            rfl
          refine pure_ (i := 7) (N := some 13) (v := ?_) (a' := ?_) #[true, true, true, true, true, true, true, true, false, false, false, false, false, false, false, false, false, false, false, false] rfl rfl (by kernel_rfl) (fun _ _ _ h => h) (Or.inl ⟨by rfl, ?_⟩) ?_ ?_
          rotate_left
          · intro w'
            go_simp
            with_reducible rfl
          rotate_left
          · simp only [Act.put, List.setIfInBounds_toArray, List.set_cons_zero, List.set_cons_succ, i64_w, i32_w]
            rfl
          refine pure_ (i := 8) (N := some 14) (v := undef) (a' := ?_) #[true, true, true, true, true, true, true, true, true, false, false, false, false, false, false, false, false, false, false, false] rfl rfl (by kernel_rfl) (fun _ _ _ h => h) (Or.inr ⟨by rfl, rfl⟩) ?_ ?_
          rotate_left
          · simp only [Act.put, List.setIfInBounds_toArray, List.set_cons_zero, List.set_cons_succ, i64_w, i32_w]
            rfl
          refine pure_ (i := 9) (N := some 15) (v := undef) (a' := ?_) #[true, true, true, true, true, true, true, true, true, true, false, false, false, false, false, false, false, false, false, false] rfl rfl (by kernel_rfl) (fun _ _ _ h => h) (Or.inr ⟨by rfl, rfl⟩) ?_ ?_
          rotate_left
          · simp only [Act.put, List.setIfInBounds_toArray, List.set_cons_zero, List.set_cons_succ, i64_w, i32_w]
            rfl
          refine pure_ (i := 10) (N := some 16) (v := undef) (a' := ?_) #[true, true, true, true, true, true, true, true, true, true, true, false, false, false, false, false, false, false, false, false] rfl rfl (by kernel_rfl) (fun _ _ _ h => h) (Or.inr ⟨by rfl, rfl⟩) ?_ ?_
          rotate_left
          · simp only [Act.put, List.setIfInBounds_toArray, List.set_cons_zero, List.set_cons_succ, i64_w, i32_w]
            rfl
          refine pure_ (i := 11) (N := some 17) (v := undef) (a' := ?_) #[true, true, true, true, true, true, true, true, true, true, true, true, false, false, false, false, false, false, false, false] rfl rfl (by kernel_rfl) (fun _ _ _ h => h) (Or.inr ⟨by rfl, rfl⟩) ?_ ?_
          rotate_left
          · simp only [Act.put, List.setIfInBounds_toArray, List.set_cons_zero, List.set_cons_succ, i64_w, i32_w]
            rfl
          refine pure_ (i := 12) (N := some 18) (v := undef) (a' := ?_) #[true, true, true, true, true, true, true, true, true, true, true, true, true, false, false, false, false, false, false, false] rfl rfl (by kernel_rfl) (fun _ _ _ h => h) (Or.inr ⟨by rfl, rfl⟩) ?_ ?_
          rotate_left
          · simp only [Act.put, List.setIfInBounds_toArray, List.set_cons_zero, List.set_cons_succ, i64_w, i32_w]
            rfl
          refine pure_ (i := 13) (N := some 19) (v := undef) (a' := ?_) #[true, true, true, true, true, true, true, true, true, true, true, true, true, true, false, false, false, false, false, false] rfl rfl (by kernel_rfl) (fun _ _ _ h => h) (Or.inr ⟨by rfl, rfl⟩) ?_ ?_
          rotate_left
          · simp only [Act.put, List.setIfInBounds_toArray, List.set_cons_zero, List.set_cons_succ, i64_w, i32_w]
            rfl
          refine pure_ (i := 14) (N := some 20) (v := undef) (a' := ?_) #[true, true, true, true, true, true, true, true, true, true, true, true, true, true, true, false, false, false, false, false] rfl rfl (by kernel_rfl) (fun _ _ _ h => h) (Or.inr ⟨by rfl, rfl⟩) ?_ ?_
          rotate_left
          · simp only [Act.put, List.setIfInBounds_toArray, List.set_cons_zero, List.set_cons_succ, i64_w, i32_w]
            rfl
          refine pure_ (i := 15) (N := some 21) (v := undef) (a' := ?_) #[true, true, true, true, true, true, true, true, true, true, true, true, true, true, true, true, false, false, false, false] rfl rfl (by kernel_rfl) (fun _ _ _ h => h) (Or.inr ⟨by rfl, rfl⟩) ?_ ?_
          rotate_left
          · simp only [Act.put, List.setIfInBounds_toArray, List.set_cons_zero, List.set_cons_succ, i64_w, i32_w]
            rfl
          refine pure_ (i := 16) (N := some 22) (v := undef) (a' := ?_) #[true, true, true, true, true, true, true, true, true, true, true, true, true, true, true, true, true, false, false, false] rfl rfl (by kernel_rfl) (fun _ _ _ h => h) (Or.inr ⟨by rfl, rfl⟩) ?_ ?_
          rotate_left
          · simp only [Act.put, List.setIfInBounds_toArray, List.set_cons_zero, List.set_cons_succ, i64_w, i32_w]
            rfl
          refine pure_ (i := 17) (N := some 23) (v := undef) (a' := ?_) #[true, true, true, true, true, true, true, true, true, true, true, true, true, true, true, true, true, true, false, false] rfl rfl (by kernel_rfl) (fun _ _ _ h => h) (Or.inr ⟨by rfl, rfl⟩) ?_ ?_
          rotate_left
          · simp only [Act.put, List.setIfInBounds_toArray, List.set_cons_zero, List.set_cons_succ, i64_w, i32_w]
            rfl
          refine pure_ (i := 18) (N := some 24) (v := undef) (a' := ?_) #[true, true, true, true, true, true, true, true, true, true, true, true, true, true, true, true, true, true, true, false] rfl rfl (by kernel_rfl) (fun _ _ _ h => h) (Or.inr ⟨by rfl, rfl⟩) ?_ ?_
          rotate_left
          · simp only [Act.put, List.setIfInBounds_toArray, List.set_cons_zero, List.set_cons_succ, i64_w, i32_w]
            rfl
          refine pure_ (i := 19) (N := some 25) (v := ?_) (a' := ?_) #[true, true, true, true, true, true, true, true, true, true, true, true, true, true, true, true, true, true, true, true] rfl rfl (by kernel_rfl) (fun _ _ _ h => h) (Or.inl ⟨by rfl, ?_⟩) ?_ ?_
          rotate_left
          · intro w'
            go_simp
            with_reducible rfl
          rotate_left
          · simp only [Act.put, List.setIfInBounds_toArray, List.set_cons_zero, List.set_cons_succ, i64_w, i32_w]
            rfl
          refine done_ (by kernel_rfl) ?_
          skip
          clear hHeld g0 y0
          have HF2 := Aside0.mk (show FBk (W.drewN nd).drew gb f from HF.out)
          generalize (W.drewN nd).drew = W2 at *
          have gA : ∀ o, (W2.alloc o).cell? ⟨r, 0, none⟩ = some (.slice (some ad) G.length G.length) := fun o => (blk_cell (HR.out.below (below_alloc HBn.out o)).blk 0).trans rfl
          have HO0 := Aside0.mk (new_nil (W := W2.alloc (.cells #[] 90)) (w := w) HBn.out.size (heap_alloc_new W2 _))
          have HB0 := Aside0.mk (below_alloc HBn.out (.cells #[] 90))
          go_wp2_with (first
            | ((with_reducible refine gate_builtin (b := .append) (xs := #[.tmp 28, .tmp 34]) rfl ?_); at_builtin; (refine Kd.R_append_rows kF (w0 := w) w.heap.size rfl (.tmp 28) (.tmp 34) 85 90 _ 40 rfl undF infoF rfl kF_pos1 kF_pos2 (.slice (some ⟨W2.heap.size, 0, none⟩) 0 0) [] G _ _ _ (fun _ => True) (fun _ => False) rfl rfl (HO0.out) (Kd.C_below HC.out (below_alloc HBn.out _)) (kF_KM _ _ _ _) (fun _ h => h.elim) (fun _ _ => trivial) (HB0.out) (HB0.out).size (by have := HL.out; first | omega | (simp; done) | (simp; omega)) ?_); (intro v1 Y1 ho hb hg hat; have HO1 := Aside0.mk ho; have HB1 := Aside0.mk hb; have HF1 := Aside0.mk (show FBk Y1 gb f from blk_grown (g := gb) (blk_alloc HF2.out _) hg (by have := blk_lt HF2.out; simp [Value.ownBlock]; omega)); have f0 : Y1.cell? ⟨gb, 0, none⟩ = some (.string f.name) := (blk_cell HF1.out 0).trans rfl; have f1 : Y1.cell? ⟨gb, 1, none⟩ = some (.string f.text) := (blk_cell HF1.out 1).trans rfl; have f2 : Y1.cell? ⟨gb, 2, none⟩ = some (.int .i64 f.safe) := (blk_cell HF1.out 2).trans rfl; clear ho hb hg hat))
            | ((with_reducible refine gate_builtin (b := .append) (xs := #[.tmp 36, .tmp 38]) rfl ?_); at_builtin; (refine Kd.R_append_rows kF (w0 := w) w.heap.size rfl (.tmp 36) (.tmp 38) 85 90 _ 40 rfl undF infoF rfl kF_pos1 kF_pos2 v1 G [f] _ _ _ (fun _ => True) (fun _ => False) rfl rfl (Kd.R_below HO1.out (below_alloc (Below.refl _ _) _)) (new_one (heap_alloc_new Y1 _)) (kF_KM _ _ _ _) (fun _ h => h.elim) (fun _ _ => trivial) (below_alloc HB1.out _) (below_alloc HB1.out _).size (by have := HL.out; first | omega | (simp; done) | (simp; omega)) ?_); (intro v2 Y2 ho hb hg hat; have HO2 := Aside0.mk ho; have HB2 := Aside0.mk hb; have g0 : Y2.cell? ⟨r, 0, none⟩ = some (.slice (some ad) G.length G.length) := (blk_cell (HR.out.below hb).blk 0).trans rfl; clear ho hb hg hat))
            | ((with_reducible refine gate_builtin (b := .append) (xs := #[.tmp 41, .tmp 47]) rfl ?_); at_builtin; (refine Kd.R_append_rows kF (w0 := w) w.heap.size rfl (.tmp 41) (.tmp 47) 85 90 _ 40 rfl undF infoF rfl kF_pos1 kF_pos2 v2 (G ++ [f]) [] _ _ _ (fun _ => True) (fun _ => False) rfl rfl (HO2.out) (C_zero _ _) (kF_KM _ _ _ _) (fun _ h => h.elim) (fun _ _ => trivial) (HB2.out) (HB2.out).size (by have := HL.out; first | omega | (simp; done) | (simp; omega)) ?_); (intro v3 Y3 ho hb hg hat; obtain ⟨A3, c3, e3, _, _⟩ := Kd.R_reads ho; obtain ⟨L3, hL3⟩ : ∃ q : Nat, q = (G ++ [f] ++ []).length := ⟨_, rfl⟩; rw [← hL3] at e3; subst e3; clear hL3; have g3 : Y3.cell? ⟨r, 0, none⟩ = some (.slice (some ad) G.length G.length) := (blk_cell (HR.out.below hb).blk 0).trans rfl; have z3 : Y3.frozen? ⟨r, 0, none⟩ = false := blk_frozen (HR.out.below hb).blk 0; have HO3 := Aside0.mk ho; have HB3 := Aside0.mk hb;  clear ho hb hg hat)))
          (first | go_end0 | ((try simp only [Exit.inBlock, Exit.then]); refine bodyPost_ret (results_none rfl _ _ _) rfl ?_))
          have := HR.out.put HB3.out HO3.out
          exact ⟨rfl, ⟨_, by unfold gput; rw [HI2.out]; simpa using this.1⟩, this.2⟩
        · go_wp2
          refine start_ (n := 20) (S := fun w' => w'.cell? ⟨r, 0, none⟩ = some (.slice (some ad) G.length c)) (ds := []) #[false, false, false, false, false, false, false, false, false, false, false, false, false, false, false, false, false, false, false, false] (by kernel_rfl) rfl rfl (g0) (fun hHeld => ?_)
          refine pure_ (i := 0) (N := some 6) (v := ?_) (a' := ?_) #[true, false, false, false, false, false, false, false, false, false, false, false, false, false, false, false, false, false, false, false] rfl rfl (by kernel_rfl) (fun _ _ _ h => h) (Or.inl ⟨by rfl, ?_⟩) ?_ ?_
          rotate_left
          · intro w'
            go_simp
            with_reducible rfl
          rotate_left
          · simp only [Act.put, List.setIfInBounds_toArray, List.set_cons_zero, List.set_cons_succ, i64_w, i32_w]
            rfl
          refine pure_ (i := 1) (N := some 7) (v := ?_) (a' := ?_) #[true, true, false, false, false, false, false, false, false, false, false, false, false, false, false, false, false, false, false, false] rfl rfl (by kernel_rfl) (fun _ _ _ h => h) (Or.inl ⟨by rfl, ?_⟩) ?_ ?_
          rotate_left
          · intro w'
            go_simp
            with_reducible rfl
          rotate_left
          · simp only [Act.put, List.setIfInBounds_toArray, List.set_cons_zero, List.set_cons_succ, i64_w, i32_w]
            rfl
          refine pure_ (i := 2) (N := some 8) (v := ?_) (a' := ?_) #[true, true, true, false, false, false, false, false, false, false, false, false, false, false, false, false, false, false, false, false] rfl rfl (by kernel_rfl) (fun _ _ _ h => h) (Or.inl ⟨by rfl, ?_⟩) ?_ ?_
          rotate_left
          · intro w'
            go_simp
            with_reducible rfl
          rotate_left
          · simp only [Act.put, List.setIfInBounds_toArray, List.set_cons_zero, List.set_cons_succ, i64_w, i32_w]
            rfl
          refine pure_ (i := 3) (N := some 9) (v := ?_) (a' := ?_) #[true, true, true, true, false, false, false, false, false, false, false, false, false, false, false, false, false, false, false, false] rfl rfl (by kernel_rfl) (fun _ _ _ h => h) (Or.inl ⟨by rfl, ?_⟩) ?_ ?_
          rotate_left
          · intro w'
            go_simp
            with_reducible rfl
          rotate_left
          · simp only [Act.put, List.setIfInBounds_toArray, List.set_cons_zero, List.set_cons_succ, i64_w, i32_w]
            rfl
          refine take_ (i := 4) (N := some 10) (v := ?_) (a' := ?_) #[true, true, true, true, true, false, false, false, false, false, false, false, false, false, false, false, false, false, false, false] rfl rfl (by kernel_rfl) (fun _ _ _ h => h) (Or.inl ⟨by rfl, ?_⟩) hHeld ?_ ?_
          rotate_left
          · intro w' s0
            go_simp
            with_reducible rfl
          rotate_left
          · simp only [Act.put, List.setIfInBounds_toArray, List.set_cons_zero, List.set_cons_succ, i64_w, i32_w]
            rfl
          refine pure_ (i := 5) (N := some 11) (v := ?_) (a' := ?_) #[true, true, true, true, true, true, false, false, false, false, false, false, false, false, false, false, false, false, false, false] rfl rfl (by kernel_rfl) (fun _ _ _ h => h) (Or.inl ⟨by rfl, ?_⟩) ?_ ?_
          rotate_left
          · intro w'
            go_simp
            with_reducible rfl
          rotate_left
          · simp only [Act.put, List.setIfInBounds_toArray, List.set_cons_zero, List.set_cons_succ, i64_w, i32_w]
            rfl
          refine pure_ (i := 6) (N := some 12) (v := ?_) (a' := ?_) #[true, true, true, true, true, true, true, false, false, false, false, false, false, false, false, false, false, false, false, false] rfl rfl (by kernel_rfl) (fun _ _ _ h => h) (Or.inl ⟨by rfl, ?_⟩) ?_ ?_
          rotate_left
          · intro w'
            go_simp
            with_reducible rfl
          rotate_left
          · simp only [Act.put, List.setIfInBounds_toArray, List.set_cons_zero, List.set_cons_succ, i64_w, i32_w]
            rfl
          refine pure_ (i := 7) (N := some 13) (v := ?_) (a' := ?_) #[true, true, true, true, true, true, true, true, false, false, false, false, false, false, false, false, false, false, false, false] rfl rfl (by kernel_rfl) (fun _ _ _ h => h) (Or.inl ⟨by rfl, ?_⟩) ?_ ?_
          rotate_left
          · intro w'
            go_simp
            with_reducible rfl
          rotate_left
          · simp only [Act.put, List.setIfInBounds_toArray, List.set_cons_zero, List.set_cons_succ, i64_w, i32_w]
            rfl
          refine pure_ (i := 8) (N := some 14) (v := undef) (a' := ?_) #[true, true, true, true, true, true, true, true, true, false, false, false, false, false, false, false, false, false, false, false] rfl rfl (by kernel_rfl) (fun _ _ _ h => h) (Or.inr ⟨by rfl, rfl⟩) ?_ ?_
          rotate_left
          · simp only [Act.put, List.setIfInBounds_toArray, List.set_cons_zero, List.set_cons_succ, i64_w, i32_w]
            rfl
          refine pure_ (i := 9) (N := some 15) (v := undef) (a' := ?_) #[true, true, true, true, true, true, true, true, true, true, false, false, false, false, false, false, false, false, false, false] rfl rfl (by kernel_rfl) (fun _ _ _ h => h) (Or.inr ⟨by rfl, rfl⟩) ?_ ?_
          rotate_left
          · simp only [Act.put, List.setIfInBounds_toArray, List.set_cons_zero, List.set_cons_succ, i64_w, i32_w]
            rfl
          refine pure_ (i := 10) (N := some 16) (v := undef) (a' := ?_) #[true, true, true, true, true, true, true, true, true, true, true, false, false, false, false, false, false, false, false, false] rfl rfl (by kernel_rfl) (fun _ _ _ h => h) (Or.inr ⟨by rfl, rfl⟩) ?_ ?_
          rotate_left
          · simp only [Act.put, List.setIfInBounds_toArray, List.set_cons_zero, List.set_cons_succ, i64_w, i32_w]
            rfl
          refine pure_ (i := 11) (N := some 17) (v := undef) (a' := ?_) #[true, true, true, true, true, true, true, true, true, true, true, true, false, false, false, false, false, false, false, false] rfl rfl (by kernel_rfl) (fun _ _ _ h => h) (Or.inr ⟨by rfl, rfl⟩) ?_ ?_
          rotate_left
          · simp only [Act.put, List.setIfInBounds_toArray, List.set_cons_zero, List.set_cons_succ, i64_w, i32_w]
            rfl
          refine pure_ (i := 12) (N := some 18) (v := undef) (a' := ?_) #[true, true, true, true, true, true, true, true, true, true, true, true, true, false, false, false, false, false, false, false] rfl rfl (by kernel_rfl) (fun _ _ _ h => h) (Or.inr ⟨by rfl, rfl⟩) ?_ ?_
          rotate_left
          · simp only [Act.put, List.setIfInBounds_toArray, List.set_cons_zero, List.set_cons_succ, i64_w, i32_w]
            rfl
          refine pure_ (i := 13) (N := some 19) (v := undef) (a' := ?_) #[true, true, true, true, true, true, true, true, true, true, true, true, true, true, false, false, false, false, false, false] rfl rfl (by kernel_rfl) (fun _ _ _ h => h) (Or.inr ⟨by rfl, rfl⟩) ?_ ?_
          rotate_left
          · simp only [Act.put, List.setIfInBounds_toArray, List.set_cons_zero, List.set_cons_succ, i64_w, i32_w]
            rfl
          refine pure_ (i := 14) (N := some 20) (v := undef) (a' := ?_) #[true, true, true, true, true, true, true, true, true, true, true, true, true, true, true, false, false, false, false, false] rfl rfl (by kernel_rfl) (fun _ _ _ h => h) (Or.inr ⟨by rfl, rfl⟩) ?_ ?_
          rotate_left
          · simp only [Act.put, List.setIfInBounds_toArray, List.set_cons_zero, List.set_cons_succ, i64_w, i32_w]
            rfl
          refine pure_ (i := 15) (N := some 21) (v := undef) (a' := ?_) #[true, true, true, true, true, true, true, true, true, true, true, true, true, true, true, true, false, false, false, false] rfl rfl (by kernel_rfl) (fun _ _ _ h => h) (Or.inr ⟨by rfl, rfl⟩) ?_ ?_
          rotate_left
          · simp only [Act.put, List.setIfInBounds_toArray, List.set_cons_zero, List.set_cons_succ, i64_w, i32_w]
            rfl
          refine pure_ (i := 16) (N := some 22) (v := undef) (a' := ?_) #[true, true, true, true, true, true, true, true, true, true, true, true, true, true, true, true, true, false, false, false] rfl rfl (by kernel_rfl) (fun _ _ _ h => h) (Or.inr ⟨by rfl, rfl⟩) ?_ ?_
          rotate_left
          · simp only [Act.put, List.setIfInBounds_toArray, List.set_cons_zero, List.set_cons_succ, i64_w, i32_w]
            rfl
          refine pure_ (i := 17) (N := some 23) (v := undef) (a' := ?_) #[true, true, true, true, true, true, true, true, true, true, true, true, true, true, true, true, true, true, false, false] rfl rfl (by kernel_rfl) (fun _ _ _ h => h) (Or.inr ⟨by rfl, rfl⟩) ?_ ?_
          rotate_left
          · simp only [Act.put, List.setIfInBounds_toArray, List.set_cons_zero, List.set_cons_succ, i64_w, i32_w]
            rfl
          refine pure_ (i := 18) (N := some 24) (v := undef) (a' := ?_) #[true, true, true, true, true, true, true, true, true, true, true, true, true, true, true, true, true, true, true, false] rfl rfl (by kernel_rfl) (fun _ _ _ h => h) (Or.inr ⟨by rfl, rfl⟩) ?_ ?_
          rotate_left
          · simp only [Act.put, List.setIfInBounds_toArray, List.set_cons_zero, List.set_cons_succ, i64_w, i32_w]
            rfl
          refine pure_ (i := 19) (N := some 25) (v := ?_) (a' := ?_) #[true, true, true, true, true, true, true, true, true, true, true, true, true, true, true, true, true, true, true, true] rfl rfl (by kernel_rfl) (fun _ _ _ h => h) (Or.inl ⟨by rfl, ?_⟩) ?_ ?_
          rotate_left
          · intro w'
            go_simp
            with_reducible rfl
          rotate_left
          · simp only [Act.put, List.setIfInBounds_toArray, List.set_cons_zero, List.set_cons_succ, i64_w, i32_w]
            rfl
          refine done_ (by kernel_rfl) ?_
          skip
          clear hHeld g0 y0
          have HF2 := Aside0.mk (show FBk (W.drewN nd).drew gb f from HF.out)
          generalize (W.drewN nd).drew = W2 at *
          have gA : ∀ o, (W2.alloc o).cell? ⟨r, 0, none⟩ = some (.slice (some ad) G.length c) := fun o => (blk_cell (HR.out.below (below_alloc HBn.out o)).blk 0).trans rfl
          have HO0 := Aside0.mk (new_nil (W := W2.alloc (.cells #[] 90)) (w := w) HBn.out.size (heap_alloc_new W2 _))
          have HB0 := Aside0.mk (below_alloc HBn.out (.cells #[] 90))
          go_wp2_with (first
            | ((with_reducible refine gate_builtin (b := .append) (xs := #[.tmp 28, .tmp 34]) rfl ?_); at_builtin; (refine Kd.R_append_rows kF (w0 := w) w.heap.size rfl (.tmp 28) (.tmp 34) 85 90 _ 40 rfl undF infoF rfl kF_pos1 kF_pos2 (.slice (some ⟨W2.heap.size, 0, none⟩) 0 0) [] G _ _ _ (fun _ => True) (fun _ => False) rfl rfl (HO0.out) (Kd.C_below HC.out (below_alloc HBn.out _)) (kF_KM _ _ _ _) (fun _ h => h.elim) (fun _ _ => trivial) (HB0.out) (HB0.out).size (by have := HL.out; first | omega | (simp; done) | (simp; omega)) ?_); (intro v1 Y1 ho hb hg hat; have HO1 := Aside0.mk ho; have HB1 := Aside0.mk hb; have HF1 := Aside0.mk (show FBk Y1 gb f from blk_grown (g := gb) (blk_alloc HF2.out _) hg (by have := blk_lt HF2.out; simp [Value.ownBlock]; omega)); have f0 : Y1.cell? ⟨gb, 0, none⟩ = some (.string f.name) := (blk_cell HF1.out 0).trans rfl; have f1 : Y1.cell? ⟨gb, 1, none⟩ = some (.string f.text) := (blk_cell HF1.out 1).trans rfl; have f2 : Y1.cell? ⟨gb, 2, none⟩ = some (.int .i64 f.safe) := (blk_cell HF1.out 2).trans rfl; clear ho hb hg hat))
            | ((with_reducible refine gate_builtin (b := .append) (xs := #[.tmp 36, .tmp 38]) rfl ?_); at_builtin; (refine Kd.R_append_rows kF (w0 := w) w.heap.size rfl (.tmp 36) (.tmp 38) 85 90 _ 40 rfl undF infoF rfl kF_pos1 kF_pos2 v1 G [f] _ _ _ (fun _ => True) (fun _ => False) rfl rfl (Kd.R_below HO1.out (below_alloc (Below.refl _ _) _)) (new_one (heap_alloc_new Y1 _)) (kF_KM _ _ _ _) (fun _ h => h.elim) (fun _ _ => trivial) (below_alloc HB1.out _) (below_alloc HB1.out _).size (by have := HL.out; first | omega | (simp; done) | (simp; omega)) ?_); (intro v2 Y2 ho hb hg hat; have HO2 := Aside0.mk ho; have HB2 := Aside0.mk hb; have g0 : Y2.cell? ⟨r, 0, none⟩ = some (.slice (some ad) G.length c) := (blk_cell (HR.out.below hb).blk 0).trans rfl; clear ho hb hg hat))
            | ((with_reducible refine gate_builtin (b := .append) (xs := #[.tmp 41, .tmp 47]) rfl ?_); at_builtin; (refine Kd.R_append_rows kF (w0 := w) w.heap.size rfl (.tmp 41) (.tmp 47) 85 90 _ 40 rfl undF infoF rfl kF_pos1 kF_pos2 v2 (G ++ [f]) [] _ _ _ (fun _ => True) (fun _ => False) rfl rfl (HO2.out) (C_zero _ _) (kF_KM _ _ _ _) (fun _ h => h.elim) (fun _ _ => trivial) (HB2.out) (HB2.out).size (by have := HL.out; first | omega | (simp; done) | (simp; omega)) ?_); (intro v3 Y3 ho hb hg hat; obtain ⟨A3, c3, e3, _, _⟩ := Kd.R_reads ho; obtain ⟨L3, hL3⟩ : ∃ q : Nat, q = (G ++ [f] ++ []).length := ⟨_, rfl⟩; rw [← hL3] at e3; subst e3; clear hL3; have g3 : Y3.cell? ⟨r, 0, none⟩ = some (.slice (some ad) G.length c) := (blk_cell (HR.out.below hb).blk 0).trans rfl; have z3 : Y3.frozen? ⟨r, 0, none⟩ = false := blk_frozen (HR.out.below hb).blk 0; have HO3 := Aside0.mk ho; have HB3 := Aside0.mk hb;  clear ho hb hg hat)))
          (first | go_end0 | ((try simp only [Exit.inBlock, Exit.then]); refine bodyPost_ret (results_none rfl _ _ _) rfl ?_))
          have := HR.out.put HB3.out HO3.out
          exact ⟨rfl, ⟨_, by unfold gput; rw [HI2.out]; simpa using this.1⟩, this.2⟩
end Go.Proofs.Ytknljmljlgcfbaa.P
