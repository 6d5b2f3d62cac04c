/- By hand: the page's own disk: Append. -/
import Derived.Test.YtknljmljlgcfbaaRef4
import Derived.Test.YtknljmljlgcfbaaRefN
namespace Go.Proofs.Ytknljmljlgcfbaa.P
open Go.RowKit Go.Proofs.YtknljmljlgcfbaaW.PrintWords Go.Proofs.YtknljmljlgcfbaaW.PrintLast Go.Proofs.YtknljmljlgcfbaaW.PrintMore
open Go.Proofs.Ytknljmljlgcfbaa
set_option linter.unusedSimpArgs false
set_option linter.unusedVariables false
def oldG (G : List DFile) (n : ByteArray) : Nat := match ixG G n with | none => 0 | some i => (rdF G (i : Int)).text.size
def fullG (G : List DFile) (n s : ByteArray) : Bool := decide (65536 - (oldG G n : Int) < s.size) || (decide (1048576 - usedD G < s.size) || ((ixG G n).isNone && decide (64 ≤ G.length)))
def gapp (G : List DFile) (n s : ByteArray) : List DFile × Int := if namedD n = false then (G, 1) else if fullG G n s = true then (G, 5) else match ixG G n with
  | none => (gput G ⟨n, s, 0⟩, 0)
  | some i => (G.set i ⟨n, (rdF G (i : Int)).text ++ s, (rdF G (i : Int)).safe⟩, 0)
theorem usedD_take {G : List DFile} {i : Nat} {f : DFile} (h : G[i]? = some f) : usedD (G.take (i + 1)) = usedD (G.take i) + f.text.size := by
  obtain ⟨hl, rfl⟩ := List.getElem?_eq_some_iff.1 h
  rw [List.take_succ_eq_append_getElem hl, usedD_append]
  simp [usedD]
theorem usedD_take_le (G : List DFile) (i : Nat) : usedD (G.take i) ≤ usedD G := by
  conv => rhs; rw [← List.take_append_drop i G]
  rw [usedD_append]
  have := usedD_nonneg (G.drop i)
  omega
set_option maxRecDepth 100000 in
set_option maxHeartbeats 16000000 in
theorem ref_Append.calls (w : World) (d : Nat) (m : Nat → Prop) (r B : Nat) (v : Value) (G : List DFile) (n s : ByteArray) (h : RefAt w d m r B v G) (hl : G.length ≤ 1000000) (hn : n.size ≤ 4000000000000000000) (hs : s.size ≤ 4000000000000000000) (hu : usedD G ≤ 4611686018427387904) :
    Calls Try.prog 52 #[.pointer (some ⟨r, 0, none⟩), .string n, .string s] w fun e w' => e = .returned (.int .i64 (gapp G n s).2) ∧ (∃ v', RefAt w' d m r B v' (gapp G n s).1) ∧ Fr w w' (RS d m B) := by
  obtain ⟨A, c, ev, hc, hC⟩ := h.reads
  subst ev
  have HR := Aside0.mk h
  have HC := Aside0.mk hC
  have HL := Aside0.mk hl
  have HU := Aside0.mk hu
  have HS := Aside0.mk hs
  have NAMEF := Aside0.mk (fun W : World => refName.named n hn W)
  unfold gapp
  cases hnm : namedD n with
  | false =>
    rw [hnm] at NAMEF
    clear h hl hn hs hC hc hu hnm
    go_enter Try.func52, Try.ntmps52
    go_wp2_with (first
      | (go_at_call 60; ((with_reducible refine (ref_counts.calls _ r _ HR.out.blk).mono ?_); rintro _ _ ⟨rfl, ⟨n1, rfl⟩⟩; have HB1 := Aside0.mk (pw_below_drewN (Below.refl w.heap.size w) n1)))
      | (go_at_call 56; ((with_reducible refine (NAMEF.out _).mono ?_); rintro _ _ ⟨rfl, ⟨n1b, rfl⟩⟩; have HB1b := Aside0.mk (pw_below_drewN (Below.refl w.heap.size w) (n1 + n1b)))))
    go_ret
    exact ⟨rfl, ⟨_, HR.out.below HB1b.out⟩, Fr.of_below HB1b.out _⟩
  | true =>
    rw [hnm] at NAMEF
    rw [if_neg (by decide)]
    have hcapp : (9223372036854775807 < s.size) = False := eq_false (by omega)
    cases e : ixG G n with
    | none =>
      have HN := Aside0.mk (show ixI (ixG G n) = -1 by rw [e]; rfl)
      have HFU : Aside0 (fullG G n s = (decide (65536 < (s.size : Int)) || (decide (1048576 - usedD G < s.size) || decide (64 ≤ G.length)))) := ⟨by unfold fullG oldG; rw [e]; rfl⟩
      obtain ⟨Z, hZ⟩ : ∃ Z, Z = (if fullG G n s = true then (G, (5 : Int)) else (gput G ⟨n, s, 0⟩, 0)) := ⟨_, rfl⟩
      show Calls _ _ _ _ fun e w' => e = .returned (.int .i64 (if fullG G n s = true then (G, (5 : Int)) else (gput G ⟨n, s, 0⟩, 0)).2) ∧ (∃ v', RefAt w' d m r B v' (if fullG G n s = true then (G, (5 : Int)) else (gput G ⟨n, s, 0⟩, 0)).1) ∧ Fr w w' (RS d m B)
      rw [← hZ]
      have HZ := Aside0.mk hZ
      clear h hl hn hs hC hc hu hnm e hZ
      go_enter Try.func52, Try.ntmps52
      go_wp2_with (first
        | (go_at_call 60; ((with_reducible refine (ref_counts.calls _ r _ HR.out.blk).mono ?_); rintro _ _ ⟨rfl, ⟨n1, rfl⟩⟩; have HB1 := Aside0.mk (pw_below_drewN (Below.refl w.heap.size w) n1)))
        | (go_at_call 56; ((with_reducible refine (NAMEF.out _).mono ?_); rintro _ _ ⟨rfl, ⟨n1b, rfl⟩⟩; have HB1b := Aside0.mk (pw_below_drewN (Below.refl w.heap.size w) (n1 + n1b))))
        | (go_at_call 59; ((with_reducible refine (ref_find.calls _ r _ _ G _ (HR.out.below HB1b.out).blk (Kd.C_below HC.out HB1b.out) (Nat.le_trans HL.out (by decide))).mono ?_); rw [HN.out]; rintro _ _ ⟨rfl, ⟨n2, rfl⟩⟩; have HB2 := Aside0.mk (pw_below_drewN (Below.refl w.heap.size w) (n1 + n1b + n2)))))
      generalize w.drewN (n1 + n1b + n2) = W at *
      have HR2 := Aside0.mk (HR.out.below HB2.out)
      have hx : ∀ W1, Below W.heap.size W W1 → W1.cell? ⟨r, 0, none⟩ = some (.slice A G.length c) ∧ Kd.C kF W1 A G.length G := fun W1 hW => ⟨(blk_cell (HR2.out.below hW).blk 0).trans rfl, Kd.C_below (Kd.C_below HC.out HB2.out) hW⟩
      have HX := Aside0.mk hx
      clear hx
      go_loop [9, 7] (fun v9 v7 => ∃ j : Nat, v9 = .int .i64 j ∧ v7 = .int .i64 (usedD (G.take j)) ∧ j ≤ G.length) (fun v9 _ => (G.length - intOf v9).toNat)
      case atStart => exact ⟨0, rfl, by simp [usedD], by omega⟩
      case round =>
        obtain ⟨j, rfl, rfl, hj⟩ := hrel
        rcases Nat.lt_or_ge j G.length with hlt | hge
        · have d0 : decide ((j : Int) < (G.length : Int)) = true := by simp; omega
          have w1_ : IntKind.i64.wrap ((j : Int) + 1) = ((j + 1 : Nat) : Int) := by have := HL.out; rw [IntKind.wrap_i64]; omega
          obtain ⟨q, hq⟩ : ∃ q, G[j]? = some q := ⟨_, List.getElem?_eq_getElem hlt⟩
          obtain ⟨g0, hC⟩ := HX.out _ (Below.refl _ W)
          obtain ⟨ad, e0, y0, y1, y2⟩ := at_N hC hlt hq
          subst e0
          have w2_ : IntKind.i64.wrap (usedD (G.take j) + (q.text.size : Int)) = usedD (G.take (j + 1)) := by
            have h1 := usedD_take hq
            have h2 := usedD_take_le G (j + 1)
            have h3 := usedD_nonneg (G.take (j + 1))
            have := HU.out
            rw [← h1, IntKind.wrap_i64]; omega
          clear hq hC
          go_wp2
          go_round
          case rel => exact ⟨j + 1, rfl, rfl, by omega⟩
          case measure => simp [intOf]; omega
        · obtain rfl : j = G.length := by omega
          have d0 : decide ((G.length : Int) < (G.length : Int)) = false := by simp
          have et : usedD (G.take G.length) = usedD G := by rw [List.take_length]
          rw [et]
          clear et
          have q2 : IntKind.i64.wrap (1048576 - usedD G) = 1048576 - usedD G := by have := HU.out; have := usedD_nonneg G; rw [IntKind.wrap_i64]; omega
          have g0 := (HX.out _ (Below.refl _ W)).1
          cases c1 : decide (65536 < (s.size : Int)) with
          | true =>
            go_wp2
            go_ret
            exact ⟨by rw [HZ.out, HFU.out, c1]; rfl, ⟨_, by rw [HZ.out, HFU.out, c1]; exact HR2.out⟩, Fr.of_below HB2.out _⟩
          | false =>
            cases c2 : decide (1048576 - usedD G < (s.size : Int)) with
            | true =>
              go_wp2
              go_ret
              exact ⟨by rw [HZ.out, HFU.out, c1, c2]; rfl, ⟨_, by rw [HZ.out, HFU.out, c1, c2]; exact HR2.out⟩, Fr.of_below HB2.out _⟩
            | false =>
              cases c3 : decide (64 ≤ G.length) with
              | true =>
                have c4 : decide ((64 : Int) ≤ (G.length : Int)) = true := by have := of_decide_eq_true c3; simp; omega
                go_wp2
                go_ret
                exact ⟨by rw [HZ.out, HFU.out, c1, c2, c3]; rfl, ⟨_, by rw [HZ.out, HFU.out, c1, c2, c3]; exact HR2.out⟩, Fr.of_below HB2.out _⟩
              | false =>
                have c4 : decide ((64 : Int) ≤ (G.length : Int)) = false := by have := of_decide_eq_false c3; simp; omega
                go_wp2_with (first
                  | (go_at_call 58; ((with_reducible refine (ref_put.calls W d m r B _ G ⟨n, s, 0⟩ HR2.out HL.out).mono ?_); rintro _ w3 ⟨rfl, ⟨v3, hr3⟩, hf3⟩; have HR3 := Aside0.mk hr3; have HF3 := Aside0.mk hf3; clear hr3 hf3)))
                go_ret
                exact ⟨by rw [HZ.out, HFU.out, c1, c2, c3]; rfl, ⟨_, by rw [HZ.out, HFU.out, c1, c2, c3]; exact HR3.out⟩, (Fr.of_below HB2.out _).trans HF3.out (fun k hk => .inl hk)⟩
    | some i =>
      obtain ⟨f, hf, hnf⟩ := ixG_lt e
      obtain ⟨g, c', eg, hblk, _, _, _, _, _, _⟩ := h.at_ hf
      injection eg with eA _ ec
      subst ec
      subst eA
      subst hnf
      have HN := Aside0.mk (show ixI (ixG G f.name) = i by rw [e]; rfl)
      have hlt := (List.getElem?_eq_some_iff.1 hf).1
      have HLT := Aside0.mk hlt
      have HF := Aside0.mk hf
      have k0 : decide ((i : Int) < 0) = false := by simp
      have k2 : decide ((0 : Int) ≤ (i : Int)) = true := by simp
      have k1 : (i : Int) < (G.length : Int) := by omega
      have ef : rdF G (i : Int) = f := rdF_at hf
      have hfs : (f.text.size : Int) ≤ 4611686018427387904 := by
        have := usedD_erase G i f hf
        have := usedD_nonneg (G.eraseIdx i)
        omega
      have HFU : Aside0 (fullG G f.name s = (decide (65536 - (f.text.size : Int) < (s.size : Int)) || decide (1048576 - usedD G < s.size))) := ⟨by unfold fullG oldG; rw [e]; show (decide (65536 - ((rdF G (i : Int)).text.size : Int) < (s.size : Int)) || (decide (1048576 - usedD G < s.size) || (false && decide (64 ≤ G.length)))) = _; rw [ef]; simp⟩
      show Calls _ _ _ _ fun e w' => e = .returned (.int .i64 (if fullG G f.name s = true then (G, 5) else (G.set i ⟨f.name, (rdF G (i : Int)).text ++ s, (rdF G (i : Int)).safe⟩, (0 : Int))).2) ∧ (∃ v', RefAt w' d m r B v' (if fullG G f.name s = true then (G, 5) else (G.set i ⟨f.name, (rdF G (i : Int)).text ++ s, (rdF G (i : Int)).safe⟩, (0 : Int))).1) ∧ Fr w w' (RS d m B)
      rw [ef]
      obtain ⟨Z, hZ⟩ : ∃ Z, Z = (if fullG G f.name s = true then (G, 5) else (G.set i ⟨f.name, f.text ++ s, f.safe⟩, (0 : Int))) := ⟨_, rfl⟩
      rw [← hZ]
      have HZ := Aside0.mk hZ
      have hcat : (9223372036854775807 < f.text.size + s.size) = False := eq_false (by omega)
      have q1 : IntKind.i64.wrap (65536 - (f.text.size : Int)) = 65536 - (f.text.size : Int) := by rw [IntKind.wrap_i64]; omega
      clear h hl hn hs hC hc hu hnm e hblk hf ef hlt hZ
      go_enter Try.func52, Try.ntmps52
      go_wp2_with (first
        | (go_at_call 60; ((with_reducible refine (ref_counts.calls _ r _ HR.out.blk).mono ?_); rintro _ _ ⟨rfl, ⟨n1, rfl⟩⟩; have HB1 := Aside0.mk (pw_below_drewN (Below.refl w.heap.size w) n1)))
        | (go_at_call 56; ((with_reducible refine (NAMEF.out _).mono ?_); rintro _ _ ⟨rfl, ⟨n1b, rfl⟩⟩; have HB1b := Aside0.mk (pw_below_drewN (Below.refl w.heap.size w) (n1 + n1b))))
        | (go_at_call 59; ((with_reducible refine (ref_find.calls _ r _ _ G _ (HR.out.below HB1b.out).blk (Kd.C_below HC.out HB1b.out) (Nat.le_trans HL.out (by decide))).mono ?_); rw [HN.out]; rintro _ _ ⟨rfl, ⟨n2, rfl⟩⟩; have HB2 := Aside0.mk (pw_below_drewN (Below.refl w.heap.size w) (n1 + n1b + n2)))))
      generalize w.drewN (n1 + n1b + n2) = W at *
      have HR2 := Aside0.mk (HR.out.below HB2.out)
      have hx : ∀ W1, Below W.heap.size W W1 → W1.cell? ⟨r, 0, none⟩ = some (.slice (some ⟨g, 0, none⟩) G.length c) ∧ Kd.C kF W1 (some ⟨g, 0, none⟩) G.length G := fun W1 hW => ⟨(blk_cell (HR2.out.below hW).blk 0).trans rfl, Kd.C_below (Kd.C_below HC.out HB2.out) hW⟩
      have HX := Aside0.mk hx
      clear hx
      go_loop [9, 7] (fun v9 v7 => ∃ j : Nat, v9 = .int .i64 j ∧ v7 = .int .i64 (usedD (G.take j)) ∧ j ≤ G.length) (fun v9 _ => (G.length - intOf v9).toNat)
      case atStart => exact ⟨0, rfl, by simp [usedD], by omega⟩
      case round =>
        obtain ⟨j, rfl, rfl, hj⟩ := hrel
        rcases Nat.lt_or_ge j G.length with hlt | hge
        · have d0 : decide ((j : Int) < (G.length : Int)) = true := by simp; omega
          have w1_ : IntKind.i64.wrap ((j : Int) + 1) = ((j + 1 : Nat) : Int) := by have := HL.out; rw [IntKind.wrap_i64]; omega
          obtain ⟨q, hq⟩ : ∃ q, G[j]? = some q := ⟨_, List.getElem?_eq_getElem hlt⟩
          obtain ⟨g0, hC⟩ := HX.out _ (Below.refl _ W)
          obtain ⟨ad, e0, y0, y1, y2⟩ := at_N hC hlt hq
          injection e0 with e0; subst e0; rw [add_at] at y0 y1 y2; simp only [Nat.zero_add] at y0 y1 y2
          have w2_ : IntKind.i64.wrap (usedD (G.take j) + (q.text.size : Int)) = usedD (G.take (j + 1)) := by
            have h1 := usedD_take hq
            have h2 := usedD_take_le G (j + 1)
            have h3 := usedD_nonneg (G.take (j + 1))
            have := HU.out
            rw [← h1, IntKind.wrap_i64]; omega
          clear hq hC
          go_wp2
          go_round
          case rel => exact ⟨j + 1, rfl, rfl, by omega⟩
          case measure => simp [intOf]; omega
        · obtain rfl : j = G.length := by omega
          have d0 : decide ((G.length : Int) < (G.length : Int)) = false := by simp
          have et : usedD (G.take G.length) = usedD G := by rw [List.take_length]
          rw [et]
          clear et
          have q2 : IntKind.i64.wrap (1048576 - usedD G) = 1048576 - usedD G := by have := HU.out; have := usedD_nonneg G; rw [IntKind.wrap_i64]; omega
          obtain ⟨g', c2, eg, hblk, x0, x1, x2, z, _, _⟩ := HR2.out.at_ HF.out
          injection eg with eA _ ec
          injection eA with eA
          injection eA with eA
          subst eA; subst ec
          have g0 : W.cell? ⟨r, 0, none⟩ = some (.slice (some ⟨g, 0, none⟩) G.length c) := (blk_cell hblk 0).trans rfl
          have z1 := z (i * 3 + 1)
          cases c1 : decide (65536 - (f.text.size : Int) < (s.size : Int)) with
          | true =>
            go_wp2
            go_ret
            exact ⟨by rw [HZ.out, HFU.out, c1]; rfl, ⟨_, by rw [HZ.out, HFU.out, c1]; exact HR2.out⟩, Fr.of_below HB2.out _⟩
          | false =>
            cases c2 : decide (1048576 - usedD G < (s.size : Int)) with
            | true =>
              go_wp2
              go_ret
              exact ⟨by rw [HZ.out, HFU.out, c1, c2]; rfl, ⟨_, by rw [HZ.out, HFU.out, c1, c2]; exact HR2.out⟩, Fr.of_below HB2.out _⟩
            | false =>
              have HS2 := Aside0.mk ((HR2.out.below (below_drew (Below.refl _ W))).set_ HF.out 1 (.string (f.text ++ s)) (by decide) (f' := ⟨f.name, f.text ++ s, f.safe⟩) rfl)
              go_wp2
              go_still_tail 17, (by kernel_rfl)
              change wpList _ _ _ _ _ W.drew
              go_wp2
              go_ret
              exact ⟨by rw [HZ.out, HFU.out, c1, c2]; rfl, ⟨_, by rw [HZ.out, HFU.out, c1, c2]; exact HS2.out.1⟩, (Fr.of_below (below_drew HB2.out) _).trans HS2.out.2 (fun k hk => .inl hk)⟩
end Go.Proofs.Ytknljmljlgcfbaa.P
