/- By hand: the page's own disk: New. -/
import Derived.Test.YtknljmljlgcfbaaRef5
namespace Go.Proofs.Ytknljmljlgcfbaa.P
open Go.RowKit Go.Proofs.YtknljmljlgcfbaaW.PrintWords Go.Proofs.YtknljmljlgcfbaaW.PrintLast Go.Proofs.YtknljmljlgcfbaaW.PrintMore
open Go.Proofs.Ytknljmljlgcfbaa
set_option linter.unusedSimpArgs false
set_option linter.unusedVariables false
theorem RefAt.lower {w : World} {d : Nat} {m : Nat → Prop} {r B B' : Nat} {v : Value} {G : List DFile} (h : RefAt w d m r B v G) (hb : B' ≤ B) : RefAt w d m r B' v G := ⟨h.blk, Kd.R_lower h.row hb, Nat.le_trans hb h.base, Nat.le_trans hb h.r0, h.ltd, h.ltm, h.nd, h.nm⟩
def gnewGo (G : List DFile) (l : List (ByteArray × ByteArray)) : List DFile := l.foldl (fun G p => gput G ⟨p.1, p.2, p.2.size⟩) G
def gnew (names texts : List ByteArray) : List DFile := gnewGo [] (names.zip texts)
theorem gput_len (G : List DFile) (f : DFile) : (gput G f).length = G.length + 1 := by
  unfold gput
  have := posG_le G f.name
  simp
  omega
set_option maxRecDepth 100000 in
set_option maxHeartbeats 8000000 in
theorem ref_New.calls (A0 : Option Addr) (c0 : Nat) (names : List ByteArray) (A1 : Option Addr) (c1 : Nat) (texts : List ByteArray) (w : World) (d : Nat) (m : Nat → Prop) (hd : d < w.heap.size) (hm : ∀ k, m k → k < w.heap.size) (hr0 : Kd.C Kd.string w A0 names.length names) (hc0 : names.length ≤ c0) (hr1 : Kd.C Kd.string w A1 texts.length texts) (hc1 : texts.length ≤ c1) (hl : names.length = texts.length) (h64 : names.length ≤ 64) :
    Calls Try.prog 39 #[.slice A0 names.length c0, .slice A1 texts.length c1] w fun e w' => ∃ (r : Nat) (v : Value), e = .returned (.pointer (some ⟨r, 0, none⟩)) ∧ RefAt w' d m r w.heap.size v (gnew names texts) ∧ Below w.heap.size w w' := by
  have HR0 := Aside0.mk hr0
  have HR1 := Aside0.mk hr1
  have HL := Aside0.mk hl
  have H64 := Aside0.mk h64
  obtain ⟨r, hr⟩ : ∃ r, r = w.heap.size := ⟨_, rfl⟩
  obtain ⟨W, hW⟩ : ∃ W, W = w.alloc (.cells #[.slice none 0 0, .int .i64 0, .bool false, .bool false] 87) := ⟨_, rfl⟩
  have HB0 := Aside0.mk (show Below w.heap.size w W by rw [hW]; exact below_alloc (Below.refl _ w) _)
  have HD0 : Aside0 (RefAt W d m r w.heap.size (.slice none 0 0) []) := ⟨by
    rw [hW, hr]
    exact ⟨heap_alloc_new w _, Kd.R_nil _ _ _ _ _, by rw [size_alloc']; omega, Nat.le_refl _, by rw [size_alloc']; omega, fun k hk => by have := hm k hk; rw [size_alloc']; omega, by omega, fun e => by have := hm _ e; omega⟩⟩
  clear hr0 hr1 hl h64 hd hm
  go_enter Try.func39, Try.ntmps39
  go_wp2
  rw [← hW, ← hr]
  clear hW hr
  go_loopw [6] (fun v6 w' => ∃ (i : Nat) (v : Value) (G : List DFile), i ≤ names.length ∧ v6 = .int .i64 i ∧ Aside0 (G.length = i) ∧ Aside0 (gnewGo G ((names.zip texts).drop i) = gnew names texts) ∧ Aside0 (RefAt w' d m r w.heap.size v G) ∧ Aside0 (Below w.heap.size w w')) (fun v6 _ => names.length - (intOf v6).toNat)
  case atStart => exact ⟨0, _, [], by omega, rfl, ⟨rfl⟩, ⟨rfl⟩, HD0, HB0⟩
  case round =>
    obtain ⟨i, v, G, hi, rfl, HGl, HGO, HDr, HBr⟩ := hrel
    obtain ⟨wo, hwo⟩ : ∃ wo : World, wo = wr := ⟨_, rfl⟩
    subst hwo
    by_cases hlt : i < names.length
    · have p0 : (0 : Int) ≤ (i : Int) := by omega
      have q0 : (i : Int) < (names.length : Int) := by omega
      have q1 : (i : Int) < (texts.length : Int) := by have := HL.out; omega
      have d0 : decide ((i : Int) < (names.length : Int)) = true := decide_eq_true q0
      have w1_ : IntKind.i64.wrap ((i : Int) + 1) = ((i + 1 : Nat) : Int) := by have := H64.out; rw [IntKind.wrap_i64]; omega
      obtain ⟨an, e0, hx0⟩ := Kd.at_string (Kd.C_below HR0.out HBr.out) (i : Int) p0 q0
      obtain ⟨at_, e1, ht0⟩ := Kd.at_string (Kd.C_below HR1.out HBr.out) (i : Int) p0 q1
      subst e0
      subst e1
      simp only [Int.toNat_natCast] at hx0 ht0
      have hgo := HGO.out
      have hz : (names.zip texts).drop i = (rdOf ByteArray.empty names (i : Int), rdOf ByteArray.empty texts (i : Int)) :: (names.zip texts).drop (i + 1) := by
        rw [List.drop_eq_getElem_cons (by rw [List.length_zip]; have := HL.out; omega), List.getElem_zip]
        have a1 : rdOf ByteArray.empty names (i : Int) = names[i] := by unfold rdOf; simp [List.getElem?_eq_getElem hlt]
        have a2 : rdOf ByteArray.empty texts (i : Int) = texts[i] := by unfold rdOf; simp [List.getElem?_eq_getElem (show i < texts.length by have := HL.out; omega)]
        rw [a1, a2]
      rw [hz] at hgo
      clear hz
      generalize rdOf ByteArray.empty names (i : Int) = n at *
      generalize rdOf ByteArray.empty texts (i : Int) = tx at *
      have HG2 : Aside0 (gnewGo (gput G ⟨n, tx, tx.size⟩) ((names.zip texts).drop (i + 1)) = gnew names texts) := ⟨hgo⟩
      have HLL : Aside0 (G.length ≤ 1000000) := ⟨by have := HGl.out; have := H64.out; omega⟩
      have HG3 : Aside0 ((gput G ⟨n, tx, tx.size⟩).length = i + 1) := ⟨by rw [gput_len, HGl.out]⟩
      clear hgo
      go_wp2
      refine start_ (n := 16) (S := fun w' => w'.cell? (an.add i) = some (.string n) ∧ w'.cell? (at_.add i) = some (.string tx)) (ds := [15]) #[false, false, false, false, false, false, false, false, false, false, false, false, false, false, false, false] (by kernel_rfl) rfl rfl ⟨hx0, ht0⟩ (fun hHeld => ?_)
      refine pure_ (i := 0) (N := some 15) (v := ?_) (a' := ?_) #[true, false, false, false, false, false, false, false, false, false, false, false, false, false, false, false] rfl rfl (by kernel_rfl) (fun _ _ _ h => h) (Or.inl ⟨by rfl, ?_⟩) ?_ ?_
      rotate_left
      · intro w'
        go_simp
        with_reducible rfl
      rotate_left
      · simp only [Act.put, List.setIfInBounds_toArray, List.set_cons_zero, List.set_cons_succ, i64_w, i32_w]
        rfl
      refine pure_ (i := 1) (N := some 16) (v := ?_) (a' := ?_) #[true, true, false, false, false, false, false, false, false, false, false, false, false, false, false, false] rfl rfl (by kernel_rfl) (fun _ _ _ h => h) (Or.inl ⟨by rfl, ?_⟩) ?_ ?_
      rotate_left
      · intro w'
        go_simp
        with_reducible rfl
      rotate_left
      · simp only [Act.put, List.setIfInBounds_toArray, List.set_cons_zero, List.set_cons_succ, i64_w, i32_w]
        rfl
      refine pure_ (i := 2) (N := some 17) (v := ?_) (a' := ?_) #[true, true, true, false, false, false, false, false, false, false, false, false, false, false, false, false] rfl rfl (by kernel_rfl) (fun _ _ _ h => h) (Or.inl ⟨by rfl, ?_⟩) ?_ ?_
      rotate_left
      · intro w'
        go_simp
        with_reducible rfl
      rotate_left
      · simp only [Act.put, List.setIfInBounds_toArray, List.set_cons_zero, List.set_cons_succ, i64_w, i32_w]
        rfl
      refine pure_ (i := 3) (N := some 18) (v := ?_) (a' := ?_) #[true, true, true, true, false, false, false, false, false, false, false, false, false, false, false, false] rfl rfl (by kernel_rfl) (fun _ _ _ h => h) (Or.inl ⟨by rfl, ?_⟩) ?_ ?_
      rotate_left
      · intro w'
        go_simp
        with_reducible rfl
      rotate_left
      · simp only [Act.put, List.setIfInBounds_toArray, List.set_cons_zero, List.set_cons_succ, i64_w, i32_w]
        rfl
      refine pure_ (i := 5) (N := some 20) (v := ?_) (a' := ?_) #[true, true, true, true, false, true, false, false, false, false, false, false, false, false, false, false] rfl rfl (by kernel_rfl) (fun _ _ _ h => h) (Or.inl ⟨by rfl, ?_⟩) ?_ ?_
      rotate_left
      · intro w'
        go_simp
        with_reducible rfl
      rotate_left
      · simp only [Act.put, List.setIfInBounds_toArray, List.set_cons_zero, List.set_cons_succ, i64_w, i32_w]
        rfl
      refine pure_ (i := 6) (N := some 21) (v := ?_) (a' := ?_) #[true, true, true, true, false, true, true, false, false, false, false, false, false, false, false, false] rfl rfl (by kernel_rfl) (fun _ _ _ h => h) (Or.inl ⟨by rfl, ?_⟩) ?_ ?_
      rotate_left
      · intro w'
        go_simp
        with_reducible rfl
      rotate_left
      · simp only [Act.put, List.setIfInBounds_toArray, List.set_cons_zero, List.set_cons_succ, i64_w, i32_w]
        rfl
      refine pure_ (i := 7) (N := some 22) (v := ?_) (a' := ?_) #[true, true, true, true, false, true, true, true, false, false, false, false, false, false, false, false] rfl rfl (by kernel_rfl) (fun _ _ _ h => h) (Or.inl ⟨by rfl, ?_⟩) ?_ ?_
      rotate_left
      · intro w'
        go_simp
        with_reducible rfl
      rotate_left
      · simp only [Act.put, List.setIfInBounds_toArray, List.set_cons_zero, List.set_cons_succ, i64_w, i32_w]
        rfl
      refine pure_ (i := 9) (N := some 24) (v := ?_) (a' := ?_) #[true, true, true, true, false, true, true, true, false, true, false, false, false, false, false, false] rfl rfl (by kernel_rfl) (fun _ _ _ h => h) (Or.inl ⟨by rfl, ?_⟩) ?_ ?_
      rotate_left
      · intro w'
        go_simp
        with_reducible rfl
      rotate_left
      · simp only [Act.put, List.setIfInBounds_toArray, List.set_cons_zero, List.set_cons_succ, i64_w, i32_w]
        rfl
      refine pure_ (i := 10) (N := some 25) (v := ?_) (a' := ?_) #[true, true, true, true, false, true, true, true, false, true, true, false, false, false, false, false] rfl rfl (by kernel_rfl) (fun _ _ _ h => h) (Or.inl ⟨by rfl, ?_⟩) ?_ ?_
      rotate_left
      · intro w'
        go_simp
        with_reducible rfl
      rotate_left
      · simp only [Act.put, List.setIfInBounds_toArray, List.set_cons_zero, List.set_cons_succ, i64_w, i32_w]
        rfl
      refine pure_ (i := 11) (N := some 26) (v := ?_) (a' := ?_) #[true, true, true, true, false, true, true, true, false, true, true, true, false, false, false, false] rfl rfl (by kernel_rfl) (fun _ _ _ h => h) (Or.inl ⟨by rfl, ?_⟩) ?_ ?_
      rotate_left
      · intro w'
        go_simp
        with_reducible rfl
      rotate_left
      · simp only [Act.put, List.setIfInBounds_toArray, List.set_cons_zero, List.set_cons_succ, i64_w, i32_w]
        rfl
      refine take_ (i := 4) (N := some 19) (v := ?_) (a' := ?_) #[true, true, true, true, true, true, true, true, false, true, true, true, false, false, false, false] rfl rfl (by kernel_rfl) (fun _ _ _ h => h) (Or.inl ⟨by rfl, ?_⟩) hHeld ?_ ?_
      rotate_left
      · rintro w' ⟨s0, s1⟩
        go_simp
        with_reducible rfl
      rotate_left
      · simp only [Act.put, List.setIfInBounds_toArray, List.set_cons_zero, List.set_cons_succ, i64_w, i32_w]
        rfl
      refine take_ (i := 8) (N := some 23) (v := ?_) (a' := ?_) #[true, true, true, true, true, true, true, true, true, true, true, true, false, false, false, false] rfl rfl (by kernel_rfl) (fun _ _ _ h => h) (Or.inl ⟨by rfl, ?_⟩) hHeld ?_ ?_
      rotate_left
      · rintro w' ⟨s0, s1⟩
        go_simp
        with_reducible rfl
      rotate_left
      · simp only [Act.put, List.setIfInBounds_toArray, List.set_cons_zero, List.set_cons_succ, i64_w, i32_w]
        rfl
      refine take_ (i := 12) (N := some 27) (v := ?_) (a' := ?_) #[true, true, true, true, true, true, true, true, true, true, true, true, true, false, false, false] rfl rfl (by kernel_rfl) (fun _ _ _ h => h) (Or.inl ⟨by rfl, ?_⟩) hHeld ?_ ?_
      rotate_left
      · rintro w' ⟨s0, s1⟩
        go_simp
        with_reducible rfl
      rotate_left
      · simp only [Act.put, List.setIfInBounds_toArray, List.set_cons_zero, List.set_cons_succ, i64_w, i32_w]
        rfl
      refine pure_ (i := 13) (N := some 28) (v := ?_) (a' := ?_) #[true, true, true, true, true, true, true, true, true, true, true, true, true, true, false, false] rfl rfl (by kernel_rfl) (fun _ _ _ h => h) (Or.inl ⟨by rfl, ?_⟩) ?_ ?_
      rotate_left
      · intro w'
        go_simp
        with_reducible rfl
      rotate_left
      · simp only [Act.put, List.setIfInBounds_toArray, List.set_cons_zero, List.set_cons_succ, i64_w, i32_w]
        rfl
      refine pure_ (i := 14) (N := some 29) (v := ?_) (a' := ?_) #[true, true, true, true, true, true, true, true, true, true, true, true, true, true, true, false] rfl rfl (by kernel_rfl) (fun _ _ _ h => h) (Or.inl ⟨by rfl, ?_⟩) ?_ ?_
      rotate_left
      · intro w'
        go_simp
        with_reducible rfl
      rotate_left
      · simp only [Act.put, List.setIfInBounds_toArray, List.set_cons_zero, List.set_cons_succ, i64_w, i32_w]
        rfl
      refine last_ (i := 15) (N := some 30) #[true, true, true, true, true, true, true, true, true, true, true, true, true, true, true, true] rfl rfl (by kernel_rfl) (by decide) (fun K hK => ?_)
      refine goes_ Try.func58 (by kernel_rfl) rfl #[.pointer (some ⟨r, 0, none⟩), .agg #[.string n, .string tx, .int .i64 tx.size]] (by rfl) rfl rfl (by simp only [List.map_toArray, List.map_cons, List.map_nil]; rfl) ?_
      with_reducible refine (ref_put.calls _ d m r w.heap.size v G ⟨n, tx, tx.size⟩ (HDr.out.below (below_drew (Below.refl _ _))) HLL.out).mono ?_
      rintro e w3 ⟨rfl, ⟨v3, hr3⟩, hf3⟩
      refine ⟨_, rfl, ?_⟩
      have HR3 := Aside0.mk hr3
      have HB3 := Aside0.mk (Fr.below (below_drew HBr.out) hf3 (below_drew HBr.out).size (fun k hk => hk.1))
      clear hr3 hf3
      refine hK.out _ _ ?_
      clear hK K
      refine norm_ (a' := ?_) ?_ ?_
      rotate_left
      · show Act.put _ (some 30) _ = _
        simp only [Act.put, List.setIfInBounds_toArray, List.set_cons_zero, List.set_cons_succ, i64_w, i32_w]
        rfl
      refine done_ (by kernel_rfl) ?_
      go_wp2
      go_roundw
      case rel => exact ⟨i + 1, v3, _, by omega, rfl, HG3, HG2, HR3, HB3⟩
      case measure => simp [intOf]; omega
    · have d0 : decide ((i : Int) < (names.length : Int)) = false := by simp; omega
      have hz : (names.zip texts).drop i = [] := List.drop_eq_nil_of_le (by rw [List.length_zip]; have := HL.out; omega)
      have hgo := HGO.out
      rw [hz] at hgo
      have HG2 : Aside0 (G = gnew names texts) := ⟨hgo⟩
      clear hz hgo
      go_wp2
      go_ret
      exact ⟨r, v, rfl, HG2.out ▸ HDr.out, HBr.out⟩
end Go.Proofs.Ytknljmljlgcfbaa.P
