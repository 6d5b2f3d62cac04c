/- By hand: slices.Insert of one element into a row of one's own. -/
import Derived.Test.YtnaeffgkdoanfaaDoorP0
import Derived.Test.YtnaeffgkdoanfaaDoorRaw
import Derived.Lib.Overlaps
import Derived.Lib.AppendZerosOnto
namespace Go.Proofs.YtnaeffgkdoanfaaDoor.P
open Go.RowKit Go.Proofs.YtnaeffgkdoanfaaDoorW.PrintWords Go.Proofs.YtnaeffgkdoanfaaDoorW.PrintLast Go.Proofs.YtnaeffgkdoanfaaDoorW.PrintMore
open Go.Proofs.YtnaeffgkdoanfaaDoor
set_option linter.unusedSimpArgs false
set_option linter.unusedVariables false
def zi50 : Value := .agg #[(.string ⟨#[]⟩), (.string ⟨#[]⟩), (.int .i64 0), (.int .i64 0)]
def enc50 (x : S50) : List Value := [.string x.f0, .string x.f1, .int .i64 x.f2, .int .i64 x.f3]
/-- There is room, and it is not the end. -/
def putAt (cur ins : List Value) (i n sz : Nat) : List Value := Raw.put (Raw.put cur ((i + 1) * sz) ((cur.take (n * sz)).drop (i * sz))) (i * sz) ins
theorem putAt_len (cur ins : List Value) (i n c sz : Nat) (hc : cur.length = c * sz) (hi : i < n) (hn : n + 1 ≤ c) (hins : ins.length = sz) : (putAt cur ins i n sz).length = cur.length := by
  unfold putAt
  have h1 : (i + 1) * sz + (n - i) * sz = (n + 1) * sz := by rw [← Nat.add_mul]; congr 1; omega
  have h2 : (n + 1) * sz ≤ c * sz := Nat.mul_le_mul_right _ hn
  have h3 : n * sz ≤ c * sz := Nat.mul_le_mul_right _ (by omega)
  have h4 : i * sz + sz ≤ c * sz := by rw [← Nat.succ_mul]; exact Nat.mul_le_mul_right _ (by omega)
  have hin : ((cur.take (n * sz)).drop (i * sz)).length = (n - i) * sz := by rw [List.length_drop, List.length_take, hc, Nat.sub_mul, Nat.min_eq_left h3]
  have e1 := Raw.put_len cur ((i + 1) * sz) ((cur.take (n * sz)).drop (i * sz)) (by rw [hin, hc]; omega)
  rw [Raw.put_len _ _ _ (by rw [e1, hins, hc]; exact h4), e1]
theorem putAt_take (cur ins : List Value) (i n c sz : Nat) (hc : cur.length = c * sz) (hi : i < n) (hn : n + 1 ≤ c) (hins : ins.length = sz) : (putAt cur ins i n sz).take ((n + 1) * sz) = (cur.take (n * sz)).take (i * sz) ++ (ins ++ (cur.take (n * sz)).drop (i * sz)) := by
  have h1 : (i + 1) * sz + (n - i) * sz = (n + 1) * sz := by rw [← Nat.add_mul]; congr 1; omega
  have h2 : (n + 1) * sz ≤ c * sz := Nat.mul_le_mul_right _ hn
  have h3 : n * sz ≤ c * sz := Nat.mul_le_mul_right _ (by omega)
  have h5 : (i + 1) * sz = i * sz + sz := Nat.succ_mul _ _
  have h6 : i * sz ≤ n * sz := Nat.mul_le_mul_right _ (by omega)
  have hin : ((cur.take (n * sz)).drop (i * sz)).length = (n - i) * sz := by rw [List.length_drop, List.length_take, hc, Nat.sub_mul, Nat.min_eq_left h3]
  unfold putAt
  generalize hmid : (cur.take (n * sz)).drop (i * sz) = mid at *
  rw [List.take_take, Nat.min_eq_left h6]
  unfold Raw.put
  have e1 : (cur.take ((i + 1) * sz) ++ mid ++ cur.drop ((i + 1) * sz + mid.length)).take (i * sz) = cur.take (i * sz) := by
    rw [List.append_assoc, List.take_append_of_le_length (by rw [List.length_take]; omega), List.take_take, Nat.min_eq_left (by omega)]
  have e2 : (cur.take ((i + 1) * sz) ++ mid ++ cur.drop ((i + 1) * sz + mid.length)).drop (i * sz + ins.length) = mid ++ cur.drop ((i + 1) * sz + mid.length) := by
    rw [hins, ← h5, List.append_assoc, List.drop_left' (by rw [List.length_take]; omega)]
  rw [e1, e2, show cur.take (i * sz) ++ ins ++ (mid ++ cur.drop ((i + 1) * sz + mid.length)) = (cur.take (i * sz) ++ (ins ++ mid)) ++ cur.drop ((i + 1) * sz + mid.length) by simp]
  rw [List.take_left' (by simp only [List.length_append, List.length_take]; rw [hins, hin]; omega)]
set_option maxRecDepth 100000 in
set_option maxHeartbeats 4000000 in
theorem api_Retained_56.room (base g n c vb : Nat) (l : List S50) (x : S50) (w0 w : World) (i : Nat) (hR : k50.R 50 w base (fun _ => True) (.slice (some ⟨g, 0, none⟩) n c) l) (hv : Raw.Blk w 50 vb (enc50 x)) (hne : vb ≠ g) (hB : Below base w0 w) (hbase : base ≤ w.heap.size) (hi : i < n) (hroom : n + 1 ≤ c) :
    Calls Tryd.prog 56 #[.slice (some ⟨g, 0, none⟩) n c, .int .i64 i, .slice (some ⟨vb, 0, none⟩) 1 1] w fun e w' => ∃ v0_ : Value, e = .returned (v0_) ∧ Kd.R k50 50 w' base (fun _ => True) v0_ (l.take i ++ x :: l.drop i) ∧ Below base w0 w' := by
  obtain ⟨cur, hb0, -, hnl, hnc, hcm, hg, hcs, hr⟩ := Raw.R_open hR
  have hc63 : c ≤ 9223372036854775807 := by unfold maxLen at hcm; omega
  have hsz4 : k50.sz = 4 := rfl
  rw [hsz4] at hcs hr
  obtain ⟨i0, hi0, hsz⟩ := Option.map_eq_some_iff.1 info50
  simp only [Prod.mk.injEq] at hsz
  obtain ⟨-, hz1, -⟩ := hsz
  have hinfo : (Tryd.prog.info? 50).map (·.size) = some 4 := by rw [hi0]; exact congrArg some hz1
  have hsize : ∀ w, (Go.sizeOf 50).run Tryd.prog w = .ok 4 w := fun w => by simp [sizeOf, typeInfo, hi0, hz1]
  have hov : ∀ (W : World) lb cb, W.heap = w.heap → (callFunc 66 #[.slice (some ⟨vb, 0, none⟩) 1 1, .slice (some ⟨g, (i + 1) * 4, none⟩) lb cb]).run Tryd.prog W = .ok (.value (.bool false)) W := fun W lb cb hW => by
    rw [run_callFunc_extern Tryd.func66 (by kernel_rfl) (by kernel_rfl) (by kernel_rfl) (e := Extern.SlicesOverlaps.overlaps #[41, 41] #[4]) (by kernel_rfl),
      Lib.run_overlaps_apart W 41 4 50 Tryd.underlying41 4 hsize ⟨vb, 0, none⟩ ⟨g, (i + 1) * 4, none⟩ 1 1 lb cb hne 50 50 4 (c * 4) (by unfold Raw.Blk at hv; simp [World.shape?, hW, hv, enc50]) (by unfold Raw.Blk at hg; simp [World.shape?, hW, hg, hcs]) (by omega) (by unfold Raw.Blk at hv; simp [World.frozen?, hW, hv]) (by unfold Raw.Blk at hv; simp [World.frozen?, hW, hv])]
    rfl
  have hin : ((cur.take (n * 4)).drop (i * 4)).length = (n - i) * 4 := by rw [List.length_drop, List.length_take, hcs]; omega
  have hcp1 : ∀ (W : World) ty dc sc, Raw.Blk W 50 g cur → (Builtin.copy_ #[41, 41] ty #[.slice (some ⟨g, (i + 1) * 4, none⟩) (n - i) dc, .slice (some ⟨g, i * 4, none⟩) (n + 1 - i) sc]).run Tryd.prog W = .ok (goInt (n - i)) (W.setRow g (Raw.put cur ((i + 1) * 4) ((cur.take (n * 4)).drop (i * 4))).toArray) := fun W ty dc sc hW => by
    have := Raw.run_copy (P := Tryd.prog) W 41 41 ty 50 4 g ((i + 1) * 4) (n - i) dc ⟨g, i * 4, none⟩ (n + 1 - i) sc cur ((cur.take (n * 4)).drop (i * 4)) Tryd.underlying41 hinfo hW (by rw [hin]; congr 1; omega)
      (fun j v hj => by
        have hjl := (List.getElem?_eq_some_iff.1 hj).1
        rw [hin] at hjl
        rw [add_at, Raw.blk_cell hW]
        rw [List.getElem?_drop, List.getElem?_take, if_pos (by omega)] at hj
        exact hj) (by rw [hin, hcs]; omega) (fun v hv => Raw.reps_cell hr v (List.mem_of_mem_drop hv))
    rw [this]
    congr 2
    omega
  have hins : (enc50 x).length = 4 := rfl
  have hcp2 : ∀ (W : World) ty dc, Raw.Blk W 50 g (Raw.put cur ((i + 1) * 4) ((cur.take (n * 4)).drop (i * 4))) → Raw.Blk W 50 vb (enc50 x) → (Builtin.copy_ #[41, 41] ty #[.slice (some ⟨g, i * 4, none⟩) (n + 1 - i) dc, .slice (some ⟨vb, 0, none⟩) 1 1]).run Tryd.prog W = .ok (goInt 1) (W.setRow g (putAt cur (enc50 x) i n 4).toArray) := fun W ty dc hW hV => by
    have := Raw.run_copy (P := Tryd.prog) W 41 41 ty 50 4 g (i * 4) (n + 1 - i) dc ⟨vb, 0, none⟩ 1 1 _ (enc50 x) Tryd.underlying41 hinfo hW (by rw [hins, Nat.min_eq_left (by omega)])
      (fun j v hj => by rw [add_at, Raw.blk_cell hV, Nat.zero_add]; exact hj) (by rw [hins, Raw.put_len _ _ _ (by rw [hin, hcs]; omega), hcs]; omega) (by intro v hv; unfold enc50 at hv; simp at hv; rcases hv with rfl | rfl | rfl | rfl <;> rfl)
    rw [this, show (min ((1 : Nat) : Int) ((n + 1 - i : Nat) : Int)) = 1 by omega]
    rfl
  have hgd : Raw.Blk w.drew 50 g cur := hg
  obtain ⟨W1, hW1⟩ : ∃ W1, W1 = w.drew.setRow g (Raw.put cur ((i + 1) * 4) ((cur.take (n * 4)).drop (i * 4))).toArray := ⟨_, rfl⟩
  have hc1 : ∀ ty dc sc, (Builtin.copy_ #[41, 41] ty #[.slice (some ⟨g, (i + 1) * 4, none⟩) (n - i) dc, .slice (some ⟨g, i * 4, none⟩) (n + 1 - i) sc]).run Tryd.prog w.drew = .ok (goInt (n - i)) W1 := fun ty dc sc => by rw [hW1]; exact hcp1 _ ty dc sc hgd
  have hg1 : Raw.Blk W1 50 g (Raw.put cur ((i + 1) * 4) ((cur.take (n * 4)).drop (i * 4))) := by rw [hW1]; exact Raw.blk_put hgd _
  have hv1 : Raw.Blk W1 50 vb (enc50 x) := by rw [hW1]; exact Raw.blk_far hv _ hne
  obtain ⟨W2, hW2⟩ : ∃ W2, W2 = W1.setRow g (putAt cur (enc50 x) i n 4).toArray := ⟨_, rfl⟩
  have hc2 : ∀ ty dc, (Builtin.copy_ #[41, 41] ty #[.slice (some ⟨g, i * 4, none⟩) (n + 1 - i) dc, .slice (some ⟨vb, 0, none⟩) 1 1]).run Tryd.prog W1 = .ok (goInt 1) W2 := fun ty dc => by rw [hW2]; exact hcp2 _ ty dc hg1 hv1
  have hlen : (l.take i ++ x :: l.drop i).length = n + 1 := by simp only [List.length_append, List.length_cons, List.length_take, List.length_drop]; omega
  have hlast : k50.R 50 W2 base (fun _ => True) (.slice (some ⟨g, 0, none⟩) (n + 1) c) (l.take i ++ x :: l.drop i) := by
    have := Raw.R_close (d := k50) (e := 50) (g := g) (c := c) (base := base) (w := w) (w' := W2) (ok := fun _ => True) (xs := l.take i ++ x :: l.drop i) (cur := putAt cur (enc50 x) i n 4)
      (by rw [hW2]; exact Raw.blk_put hg1 _) hb0 trivial (by rw [hlen]; exact hroom) hcm (by rw [putAt_len cur (enc50 x) i n c 4 hcs hi hroom hins]; exact hcs)
      (by
        rw [hlen, hsz4, putAt_take cur (enc50 x) i n c 4 hcs hi hroom hins]
        exact Kd.reps_append (Kd.reps_take hr (by omega)) (Reps.front (k50_mkM _ _ _ x) rfl (Kd.reps_drop hr) rfl))
      (fun k _ hk _ => by rw [hW2, hW1, setRow_other _ _ _ _ hk, setRow_other _ _ _ _ hk]; rfl)
    rw [hlen] at this
    exact this
  have hbel : Below base w0 W2 := by rw [hW2, hW1]; exact Raw.below_setRow (Raw.below_setRow (below_drew hB) hb0 _) hb0 _
  have HL := Aside0.mk hlast
  have HBL := Aside0.mk hbel
  have HC1 := Aside0.mk hc1
  have HC2 := Aside0.mk hc2
  have HOV := Aside0.mk (fun (W : World) lb cb (h : W.heap = w.heap) => hov W lb cb h)
  have mixed : Tryd.prog.follows Departure.mixedOrders = true := by kernel_rfl
  have q1 : IntKind.i64.wrap ((i : Int) + 1) = (i : Int) + 1 := by rw [IntKind.wrap_i64]; omega
  have q2 : IntKind.i64.wrap ((n : Int) + 1) = (n : Int) + 1 := by rw [IntKind.wrap_i64]; omega
  have p1 : (0 : Int) ≤ (i : Int) := by omega
  have p2 : (i : Int) ≤ (n : Int) := by omega
  have p3 : ((i : Int) == (n : Int)) = false := by rw [beq_eq_false_iff_ne]; omega
  have p4 : ¬ ((c : Int) < (n : Int) + 1) := by omega
  have p5 : (n : Int) + 1 ≤ (c : Int) := by omega
  have p6 : (0 : Int) ≤ (n : Int) + 1 := by omega
  have p7 : (i : Int) + 1 ≤ (n : Int) + 1 := by omega
  have p8 : (0 : Int) ≤ (i : Int) + 1 := by omega
  have p9 : (i : Int) ≤ (n : Int) + 1 := by omega
  have p10 : ¬ (c = i + 1) := by omega
  have p11 : ¬ (c = i) := by omega
  have hov0 : ∀ lb cb, (callFunc 66 #[.slice (some ⟨vb, 0, none⟩) 1 1, .slice (some ⟨g, (i + 1) * 4, none⟩) lb cb]).run Tryd.prog w = .ok (.value (.bool false)) w := fun lb cb => hov w lb cb rfl
  clear hov hcp1 hcp2 hc1 hc2 hlast hbel hR hr hB hg hg1 hv hv1 hgd hW1 hW2 hlen hin hcs hnl hi0 hz1 hinfo hsize HOV hins hsz4
  go_enter Tryd.func56, Tryd.ntmps56
  go_wp2_with (simp only [hov0])
  go_region_law_o (refine Raw.step_copy rfl (.tmp 73) (.tmp 76) 41 41 rfl _ _ (by simp [Act.eval, Act.put]) (by simp [Act.eval, Act.put]) (HC1.out _ (c - (i + 1)) (c - i)) ?_)
  go_wp2_with (first | ((with_reducible refine gate_builtin (b := .copy) (xs := #[.tmp 80, .tmp 81]) rfl ?_); go_loud (refine Raw.wpList_copy rfl (.tmp 80) (.tmp 81) 41 41 rfl _ _ rfl rfl (HC2.out _ _) ?_)))
  go_ret
  exact ⟨_, rfl, HL.out, HBL.out⟩

theorem grow_take (a ins mid tail : List Value) (i n sz G : Nat) (hi : i < n) (ha : a.length = i * sz) (hins : ins.length = sz) (hmid : mid.length = (n - i) * sz) (ht : tail.length = (G - i) * sz) (hG : n + 1 ≤ G) :
    (Raw.put (Raw.put (a ++ tail) (i * sz) ins) ((i + 1) * sz) mid).length = G * sz ∧ (Raw.put (Raw.put (a ++ tail) (i * sz) ins) ((i + 1) * sz) mid).take ((n + 1) * sz) = a ++ (ins ++ mid) := by
  have h5 : (i + 1) * sz = i * sz + sz := Nat.succ_mul _ _
  have h1 : (i + 1) * sz + (n - i) * sz = (n + 1) * sz := by rw [← Nat.add_mul]; congr 1; omega
  have h2 : (n + 1) * sz ≤ G * sz := Nat.mul_le_mul_right _ hG
  have h3 : i * sz + (G - i) * sz = G * sz := by rw [← Nat.add_mul]; congr 1; omega
  have hl : (a ++ tail).length = G * sz := by rw [List.length_append, ha, ht]; exact h3
  have e1 := Raw.put_len (a ++ tail) (i * sz) ins (by rw [hl, hins]; omega)
  refine ⟨by rw [Raw.put_len _ _ _ (by rw [e1, hl, hmid]; omega), e1, hl], ?_⟩
  have e2 : Raw.put (a ++ tail) (i * sz) ins = a ++ ins ++ tail.drop sz := by
    unfold Raw.put
    rw [hins, List.take_left' ha, List.drop_append, ha, show i * sz + sz - i * sz = sz by omega, List.drop_eq_nil_of_le (by omega), List.nil_append]
  have e3 : (a ++ ins).length = (i + 1) * sz := by rw [List.length_append, ha, hins]; omega
  rw [e2]
  unfold Raw.put
  rw [List.take_left' e3]
  rw [List.take_left' (by rw [List.length_append, e3, hmid]; exact h1), List.append_assoc]
set_option maxRecDepth 100000 in
set_option maxHeartbeats 4000000 in
theorem api_Retained_56.grow (base g n c vb : Nat) (l : List S50) (x : S50) (w0 w : World) (i : Nat) (hR : k50.R 50 w base (fun _ => True) (.slice (some ⟨g, 0, none⟩) n c) l) (hv : Raw.Blk w 50 vb (enc50 x)) (hne : vb ≠ g) (hB : Below base w0 w) (hbase : base ≤ w.heap.size) (hi : i < n) (hroom : c < n + 1) (hbig : (n + 1) * 48 ≤ 140737488355328) :
    Calls Tryd.prog 56 #[.slice (some ⟨g, 0, none⟩) n c, .int .i64 i, .slice (some ⟨vb, 0, none⟩) 1 1] w fun e w' => ∃ v0_ : Value, e = .returned (v0_) ∧ Kd.R k50 50 w' base (fun _ => True) v0_ (l.take i ++ x :: l.drop i) ∧ Below base w0 w' := by
  obtain ⟨cur, hb0, -, hnl, hnc, hcm, hg, hcs, hr⟩ := Raw.R_open hR
  obtain rfl : c = n := by omega
  have hc63 : c ≤ 9223372036854775807 := by unfold maxLen at hcm; omega
  have hsz4 : k50.sz = 4 := rfl
  rw [hsz4] at hcs hr
  obtain ⟨i0, hi0, hsz⟩ := Option.map_eq_some_iff.1 info50
  simp only [Prod.mk.injEq] at hsz
  obtain ⟨hz0, hz1, hz2⟩ := hsz
  have hinfo : (Tryd.prog.info? 50).map (·.size) = some 4 := by rw [hi0]; exact congrArg some hz1
  have hgw : g < w.heap.size := (Array.getElem?_eq_some_iff.1 hg).1
  have hvw : vb < w.heap.size := (Array.getElem?_eq_some_iff.1 hv).1
  have hkk : (c : Int) + 1 - (i : Int) = ((c + 1 - i : Nat) : Int) := by omega
  have hik : i + (c + 1 - i) = c + 1 := by omega
  have hold : (Builtin.firstCells i0.size i (.slice (some ⟨g, 0, none⟩) i c)).run Tryd.prog w.drew = .ok (cur.take (i * 4)).toArray w.drew := by
    rw [hz1]
    exact run_firstCells_some w.drew 4 i ⟨g, 0, none⟩ i c (cur.take (i * 4)) (by rw [List.length_take, hcs]; omega) (fun j v hj => by
      rw [add_at, Nat.zero_add]
      show w.cell? _ = _
      rw [Raw.blk_cell hg]
      rw [List.getElem?_take] at hj
      split at hj
      · exact hj
      · cases hj)
  obtain ⟨G, hG⟩ : ∃ G, G = grownCap w (c + 1) c 50 := ⟨_, rfl⟩
  have hGn : c + 1 ≤ G := by rw [hG]; exact grownCap_ge w _ _ _
  have hGm : G ≤ maxLen := by rw [hG]; exact grownCap_le_maxLen w (c + 1) c 50 (by unfold maxLen; omega)
  have hG63 : G ≤ 9223372036854775807 := by unfold maxLen at hGm; omega
  obtain ⟨tail, htail⟩ : ∃ tail, tail = (Builtin.zeroCells zi50.cells (c + 1 - i)).toList ++ (Builtin.zeroCells zi50.cells (G - (c + 1))).toList := ⟨_, rfl⟩
  have htl : tail.length = (G - i) * 4 := by rw [htail, List.length_append, Array.length_toList, Array.length_toList, size_zeroCells, size_zeroCells]; show (c + 1 - i) * 4 + (G - (c + 1)) * 4 = (G - i) * 4; omega
  obtain ⟨W0, hW0⟩ : ∃ W0, W0 = w.drew.alloc (.cells (cur.take (i * 4) ++ tail).toArray 50) := ⟨_, rfl⟩
  have hrz : ∀ ty, (Builtin.append_ #[41, 3] ty #[.slice (some ⟨g, 0, none⟩) i c, .int .i64 ((c : Int) + 1 - (i : Int))]).run Tryd.prog w = .ok (.slice (some ⟨w.heap.size, 0, none⟩) (c + 1) G) W0 := fun ty => by
    have h := Lib.run_append_grow_zeros w 41 3 ty 50 i0 zi50 .i64 .i64 Tryd.underlying41 Tryd.underlying3 hi0 hz0 (some ⟨g, 0, none⟩) i c (cur.take (i * 4)) hold (c + 1 - i) (by omega) (by rw [hz1]; decide) (by omega) (by omega) (by rw [hz2]; omega) (by rw [hz2, hik]; exact growslice_fits hroom hbig)
    rw [hik] at h
    rw [hkk, h, hW0, ← hG, htail]
    congr 3
    apply Array.ext'
    simp
  have hg0 : Raw.Blk W0 50 w.heap.size (cur.take (i * 4) ++ tail) := by rw [hW0]; exact Raw.blk_new w.drew 50 _
  have hgo : Raw.Blk W0 50 g cur := by rw [hW0]; exact (heap_alloc_old w.drew _ hgw).trans hg
  have hvo : Raw.Blk W0 50 vb (enc50 x) := by rw [hW0]; exact (heap_alloc_old w.drew _ hvw).trans hv
  have hins : (enc50 x).length = 4 := rfl
  have hal : (cur.take (i * 4)).length = i * 4 := by rw [List.length_take, hcs]; omega
  have hrow : (cur.take (i * 4) ++ tail).length = G * 4 := by rw [List.length_append, hal, htl]; omega
  have hin : ((cur.take (c * 4)).drop (i * 4)).length = (c - i) * 4 := by rw [List.length_drop, List.length_take, hcs]; omega
  obtain ⟨W1, hW1⟩ : ∃ W1, W1 = W0.setRow w.heap.size (Raw.put (cur.take (i * 4) ++ tail) (i * 4) (enc50 x)).toArray := ⟨_, rfl⟩
  have hc1 : ∀ ty dc, (Builtin.copy_ #[41, 41] ty #[.slice (some ⟨w.heap.size, i * 4, none⟩) (c + 1 - i) dc, .slice (some ⟨vb, 0, none⟩) 1 1]).run Tryd.prog W0 = .ok (goInt 1) W1 := fun ty dc => by
    have := Raw.run_copy (P := Tryd.prog) W0 41 41 ty 50 4 w.heap.size (i * 4) (c + 1 - i) dc ⟨vb, 0, none⟩ 1 1 _ (enc50 x) Tryd.underlying41 hinfo hg0 (by rw [hins, Nat.min_eq_left (by omega)])
      (fun j v hj => by rw [add_at, Raw.blk_cell hvo, Nat.zero_add]; exact hj) (by rw [hins, hrow]; omega) (by intro v hv; unfold enc50 at hv; simp at hv; rcases hv with rfl | rfl | rfl | rfl <;> rfl)
    rw [this, show (min ((1 : Nat) : Int) ((c + 1 - i : Nat) : Int)) = 1 by omega, hW1]
  have hl1 : (Raw.put (cur.take (i * 4) ++ tail) (i * 4) (enc50 x)).length = G * 4 := by rw [Raw.put_len _ _ _ (by rw [hrow, hins]; omega), hrow]
  have hg1 : Raw.Blk W1.drew 50 w.heap.size (Raw.put (cur.take (i * 4) ++ tail) (i * 4) (enc50 x)) := by rw [hW1]; exact Raw.blk_put hg0 _
  have hgo1 : Raw.Blk W1.drew 50 g cur := by rw [hW1]; exact Raw.blk_far hgo _ (by omega)
  obtain ⟨W2, hW2⟩ : ∃ W2, W2 = W1.drew.setRow w.heap.size (Raw.put (Raw.put (cur.take (i * 4) ++ tail) (i * 4) (enc50 x)) ((i + 1) * 4) ((cur.take (c * 4)).drop (i * 4))).toArray := ⟨_, rfl⟩
  have hc2 : ∀ ty dc sc, (Builtin.copy_ #[41, 41] ty #[.slice (some ⟨w.heap.size, (i + 1) * 4, none⟩) (c - i) dc, .slice (some ⟨g, i * 4, none⟩) (c - i) sc]).run Tryd.prog W1.drew = .ok (goInt (c - i)) W2 := fun ty dc sc => by
    have := Raw.run_copy (P := Tryd.prog) W1.drew 41 41 ty 50 4 w.heap.size ((i + 1) * 4) (c - i) dc ⟨g, i * 4, none⟩ (c - i) sc _ ((cur.take (c * 4)).drop (i * 4)) Tryd.underlying41 hinfo hg1 (by rw [hin]; congr 1; omega)
      (fun j v hj => by
        have hjl := (List.getElem?_eq_some_iff.1 hj).1
        rw [hin] at hjl
        rw [add_at, Raw.blk_cell hgo1]
        rw [List.getElem?_drop, List.getElem?_take, if_pos (by omega)] at hj
        exact hj) (by rw [hin, hl1]; omega) (fun v hv => Raw.reps_cell hr v (List.mem_of_mem_drop hv))
    rw [this, hW2, show (min ((c - i : Nat) : Int) ((c - i : Nat) : Int)) = (c : Int) - (i : Int) by omega]
  have hlen : (l.take i ++ x :: l.drop i).length = c + 1 := by simp only [List.length_append, List.length_cons, List.length_take, List.length_drop]; omega
  obtain ⟨hl2, ht2⟩ := grow_take (cur.take (i * 4)) (enc50 x) ((cur.take (c * 4)).drop (i * 4)) tail i c 4 G hi hal hins hin htl hGn
  have hlast : k50.R 50 W2 base (fun _ => True) (.slice (some ⟨w.heap.size, 0, none⟩) (c + 1) G) (l.take i ++ x :: l.drop i) := by
    have := Raw.R_close (d := k50) (e := 50) (g := w.heap.size) (c := G) (base := base) (w := w) (w' := W2) (ok := fun _ => True) (xs := l.take i ++ x :: l.drop i) (cur := Raw.put (Raw.put (cur.take (i * 4) ++ tail) (i * 4) (enc50 x)) ((i + 1) * 4) ((cur.take (c * 4)).drop (i * 4)))
      (by rw [hW2]; exact Raw.blk_put hg1 _) hbase trivial (by rw [hlen]; exact hGn) hGm hl2
      (by
        rw [hlen, hsz4, ht2]
        refine Kd.reps_append ?_ (Reps.front (k50_mkM _ _ _ x) rfl ((Kd.reps_drop hr).imp_ fun p q h => by rw [k50_openM h]; exact k50_mkM _ _ _ p) rfl)
        have := (Kd.reps_take hr (m := i) (by omega)).imp_ (R' := k50.M w base (fun k => True ∧ k ≠ w.heap.size)) fun p q h => by rw [k50_openM h]; exact k50_mkM _ _ _ p
        rwa [List.take_take, Nat.min_eq_left (by omega)] at this)
      (fun k _ hk hlt => by
        rw [hW2, setRow_other _ _ _ _ hk]
        show W1.heap[k]? = _
        rw [hW1, setRow_other _ _ _ _ hk, hW0]
        exact heap_alloc_old w.drew _ hlt)
    rw [hlen] at this
    exact this
  have hbel : Below base w0 W2 := by
    rw [hW2]
    refine Raw.below_setRow (below_drew ?_) hbase _
    rw [hW1]
    refine Raw.below_setRow ?_ hbase _
    rw [hW0]
    exact (below_drew hB).alloc hbase _
  have HL := Aside0.mk hlast
  have HBL := Aside0.mk hbel
  have HC1 := Aside0.mk hc1
  have HC2 := Aside0.mk hc2
  have HRZ := Aside0.mk hrz
  have mixed : Tryd.prog.follows Departure.mixedOrders = true := by kernel_rfl
  have q1 : IntKind.i64.wrap ((i : Int) + 1) = (i : Int) + 1 := by rw [IntKind.wrap_i64]; omega
  have q2 : IntKind.i64.wrap ((c : Int) + 1) = (c : Int) + 1 := by rw [IntKind.wrap_i64]; omega
  have q3 : IntKind.i64.wrap ((c : Int) + 1 - (i : Int)) = (c : Int) + 1 - (i : Int) := by rw [IntKind.wrap_i64]; omega
  have p1 : (0 : Int) ≤ (i : Int) := by omega
  have p2 : (i : Int) ≤ (c : Int) := by omega
  have p3 : ((i : Int) == (c : Int)) = false := by rw [beq_eq_false_iff_ne]; omega
  have p4 : (c : Int) < (c : Int) + 1 := by omega
  have p7 : (i : Int) + 1 ≤ (c : Int) + 1 := by omega
  have p8 : (0 : Int) ≤ (i : Int) + 1 := by omega
  have p9 : (i : Int) ≤ (c : Int) + 1 := by omega
  have p10 : ¬ (G = i + 1) := by omega
  have p11 : ¬ (G = i) := by omega
  have p12 : ¬ (c = i) := by omega
  clear hc1 hc2 hlast hbel hR hr hB hg hg1 hv hvo hgo hgo1 hg0 hW0 hW1 hW2 hlen hin hcs hnl hi0 hz0 hz1 hz2 hinfo hins hsz4 hrz hold hkk hik hG htail htl hal hrow hl1 hl2 ht2
  go_enter Tryd.func56, Tryd.ntmps56
  go_wp2_with (first
    | ((with_reducible refine gate_builtin (b := .append) (xs := #[.tmp 34, .tmp 39]) rfl ?_); go_loud (refine Lib.wpList_append_run _ rfl (.tmp 34) (.tmp 39) 41 3 rfl _ _ rfl rfl _ _ (HRZ.out _) ?_))
    | ((with_reducible refine gate_builtin (b := .copy) (xs := #[.tmp 43, .tmp 44]) rfl ?_); go_loud (refine Raw.wpList_copy rfl (.tmp 43) (.tmp 44) 41 41 rfl _ _ rfl rfl (HC1.out _ _) ?_)))
  go_region_law_o (refine Raw.step_copy rfl (.tmp 50) (.tmp 53) 41 41 rfl _ _ (by simp [Act.eval, Act.put]) (by simp [Act.eval, Act.put]) (HC2.out _ (G - (i + 1)) (c - i)) ?_)
  go_wp2
  go_ret
  exact ⟨_, rfl, HL.out, HBL.out⟩

set_option maxRecDepth 100000 in
set_option maxHeartbeats 4000000 in
theorem api_Retained_56.last (base vb : Nat) (v : Value) (l : List S50) (x : S50) (w0 w : World) (hR : k50.R 50 w base (fun _ => True) v l) (hv : Raw.Blk w 50 vb (enc50 x)) (hB : Below base w0 w) (hbase : base ≤ w.heap.size) (hbig : (l.length + 1) * 48 ≤ 140737488355328) :
    Calls Tryd.prog 56 #[v, .int .i64 l.length, .slice (some ⟨vb, 0, none⟩) 1 1] w fun e w' => ∃ v0_ : Value, e = .returned (v0_) ∧ Kd.R k50 50 w' base (fun _ => True) v0_ (l ++ [x]) ∧ Below base w0 w' := by
  have hx : ReadsRow (k50.K w) k50.sz w (some ⟨vb, 0, none⟩) 1 [x] := ⟨rfl, by decide, fun _ => ⟨_, rfl, fun j p hj => by
    obtain rfl : j = 0 := by
      have := (List.getElem?_eq_some_iff.1 hj).1
      simpa using this
    obtain rfl : x = p := by simpa using hj
    refine ⟨enc50 x, rfl, k50_mk w x, fun q u hu => ?_⟩
    rw [add_at, Raw.blk_cell hv]
    simpa using hu⟩⟩
  have HX := Aside0.mk hx
  have HR := Aside0.mk hR
  have HB := Aside0.mk hB
  have HS := Aside0.mk hbase
  have HZ := Aside0.mk hbig
  have hs0 : 0 < k50.sz := Nat.succ_pos _
  have hb0 : 0 < 48 := Nat.succ_pos _
  rcases Raw.R_cases hR with ⟨rfl, rfl⟩ | ⟨g, c, rfl⟩
  · clear hR hx hv hB hbase hbig
    go_enter Tryd.func56, Tryd.ntmps56
    go_wp2_with (first | ((with_reducible refine gate_builtin (b := .append) (xs := #[.tmp 23, .tmp 24]) rfl ?_); at_builtin; go_loud (refine Kd.R_append_rows k50 (Rr := k50.K w) (w0 := w0) base rfl (.tmp 23) (.tmp 24) 41 50 _ 48 rfl Tryd.underlying41 info50 rfl hs0 hb0 _ [] [x] (some ⟨vb, 0, none⟩) 1 1 (fun _ => True) (fun _ => False) rfl rfl ?aO ?aR ?aK (fun _ hk => hk.elim) (fun _ _ => trivial) ?aB ?aS ?aL ?_); (case aO => exact HR.out); (case aR => exact HX.out); (case aK => exact fun x cs hx => by rw [k50_open hx]; exact k50_mkM _ _ _ _); (case aB => exact HB.out); (case aS => exact HS.out); (case aL => decide); intro v1 w1 ho hb1 hg hat; have HO1 := Aside0.mk ho; have HB1 := Aside0.mk hb1; clear ho hb1 hg hat))
    go_ret
    exact ⟨_, rfl, by simpa using HO1.out, HB1.out⟩
  · obtain ⟨cur, hb1, -, -, hnc, hcm, -, -, -⟩ := Raw.R_open hR
    have hc63 : c ≤ 9223372036854775807 := by unfold maxLen at hcm; omega
    obtain ⟨n, hn⟩ : ∃ n, n = l.length := ⟨_, rfl⟩
    rw [← hn] at hnc ⊢
    have HN := Aside0.mk hn
    have p1 : (n : Int) ≤ (n : Int) := Int.le_refl _
    have p2 : (0 : Int) ≤ (n : Int) := by omega
    clear hR hx hv hB hbase hbig hn
    go_enter Tryd.func56, Tryd.ntmps56
    go_wp2_with (first | ((with_reducible refine gate_builtin (b := .append) (xs := #[.tmp 23, .tmp 24]) rfl ?_); at_builtin; go_loud (refine Kd.R_append_rows k50 (Rr := k50.K w) (w0 := w0) base rfl (.tmp 23) (.tmp 24) 41 50 _ 48 rfl Tryd.underlying41 info50 rfl hs0 hb0 _ l [x] (some ⟨vb, 0, none⟩) 1 1 (fun _ => True) (fun _ => False) rfl rfl ?aO ?aR ?aK (fun _ hk => hk.elim) (fun _ _ => trivial) ?aB ?aS ?aL ?_); (case aO => rw [HN.out]; exact HR.out); (case aR => exact HX.out); (case aK => exact fun x cs hx => by rw [k50_open hx]; exact k50_mkM _ _ _ _); (case aB => exact HB.out); (case aS => exact HS.out); (case aL => exact HZ.out); intro v1 w1 ho hb1 hg hat; have HO1 := Aside0.mk ho; have HB1 := Aside0.mk hb1; clear ho hb1 hg hat))
    all_goals (go_ret; exact ⟨_, rfl, HO1.out, HB1.out⟩)
theorem api_Retained_56.own (base vb : Nat) (v : Value) (l : List S50) (x : S50) (w0 w : World) (i : Nat) (hR : k50.R 50 w base (fun _ => True) v l) (hv : Raw.Blk w 50 vb (enc50 x)) (hne : v.ownBlock ≠ some vb) (hB : Below base w0 w) (hbase : base ≤ w.heap.size) (hi : i ≤ l.length) (hbig : (l.length + 1) * 48 ≤ 140737488355328) :
    Calls Tryd.prog 56 #[v, .int .i64 i, .slice (some ⟨vb, 0, none⟩) 1 1] w fun e w' => ∃ v0_ : Value, e = .returned (v0_) ∧ Kd.R k50 50 w' base (fun _ => True) v0_ (l.take i ++ x :: l.drop i) ∧ Below base w0 w' := by
  rcases Nat.lt_or_ge i l.length with h | h
  · rcases Raw.R_cases hR with ⟨rfl, rfl⟩ | ⟨g, c, rfl⟩
    · exact absurd h (by simp)
    · have hng : vb ≠ g := fun e => hne (by rw [e]; rfl)
      rcases Nat.lt_or_ge c (l.length + 1) with hc | hc
      · exact api_Retained_56.grow base g l.length c vb l x w0 w i hR hv hng hB hbase h hc hbig
      · exact api_Retained_56.room base g l.length c vb l x w0 w i hR hv hng hB hbase h hc
  · obtain rfl : i = l.length := by omega
    rw [List.take_length, List.drop_length]
    exact api_Retained_56.last base vb v l x w0 w hR hv hB hbase hbig
end Go.Proofs.YtnaeffgkdoanfaaDoor.P
