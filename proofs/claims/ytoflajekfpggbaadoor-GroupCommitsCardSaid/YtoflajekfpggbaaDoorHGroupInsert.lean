/- By hand: slices.Insert of one element into a row of one's own. -/
import Derived.Test.YtoflajekfpggbaaDoorP0
import Derived.Test.YtoflajekfpggbaaDoorRaw
import Derived.Lib.Overlaps
import Derived.Lib.AppendZerosOnto
namespace Go.Proofs.YtoflajekfpggbaaDoor.P
open Go.RowKit Go.Proofs.YtoflajekfpggbaaDoorW.PrintWords Go.Proofs.YtoflajekfpggbaaDoorW.PrintLast Go.Proofs.YtoflajekfpggbaaDoorW.PrintMore
open Go.Proofs.YtoflajekfpggbaaDoor
set_option linter.unusedSimpArgs false
set_option linter.unusedVariables false
def zi29 : Value := .agg #[(.string ⟨#[]⟩), (.string ⟨#[]⟩), (.int .i64 0)]
def enc29 (x : S29) : List Value := [.string x.f0, .string x.f1, .int .i64 x.f2]
/-- There is room, and it is not the end. -/
def putAtGroup (cur ins : List Value) (i n sz : Nat) : List Value := Raw.put (Raw.put cur ((i + 1) * sz) ((cur.take (n * sz)).drop (i * sz))) (i * sz) ins
theorem putAtGroup_len (cur ins : List Value) (i n c sz : Nat) (hc : cur.length = c * sz) (hi : i < n) (hn : n + 1 ≤ c) (hins : ins.length = sz) : (putAtGroup cur ins i n sz).length = cur.length := by
  unfold putAtGroup
  have h1 : (i + 1) * sz + (n - i) * sz = (n + 1) * sz := by rw [← Nat.add_mul]; congr 1; omega
  have h2 : (n + 1) * sz ≤ c * sz := Nat.mul_le_mul_right _ hn
  have h3 : n * sz ≤ c * sz := Nat.mul_le_mul_right _ (by omega)
  have h4 : i * sz + sz ≤ c * sz := by rw [← Nat.succ_mul]; exact Nat.mul_le_mul_right _ (by omega)
  have hin : ((cur.take (n * sz)).drop (i * sz)).length = (n - i) * sz := by rw [List.length_drop, List.length_take, hc, Nat.sub_mul, Nat.min_eq_left h3]
  have e1 := Raw.put_len cur ((i + 1) * sz) ((cur.take (n * sz)).drop (i * sz)) (by rw [hin, hc]; omega)
  rw [Raw.put_len _ _ _ (by rw [e1, hins, hc]; exact h4), e1]
theorem putAtGroup_take (cur ins : List Value) (i n c sz : Nat) (hc : cur.length = c * sz) (hi : i < n) (hn : n + 1 ≤ c) (hins : ins.length = sz) : (putAtGroup cur ins i n sz).take ((n + 1) * sz) = (cur.take (n * sz)).take (i * sz) ++ (ins ++ (cur.take (n * sz)).drop (i * sz)) := by
  have h1 : (i + 1) * sz + (n - i) * sz = (n + 1) * sz := by rw [← Nat.add_mul]; congr 1; omega
  have h2 : (n + 1) * sz ≤ c * sz := Nat.mul_le_mul_right _ hn
  have h3 : n * sz ≤ c * sz := Nat.mul_le_mul_right _ (by omega)
  have h5 : (i + 1) * sz = i * sz + sz := Nat.succ_mul _ _
  have h6 : i * sz ≤ n * sz := Nat.mul_le_mul_right _ (by omega)
  have hin : ((cur.take (n * sz)).drop (i * sz)).length = (n - i) * sz := by rw [List.length_drop, List.length_take, hc, Nat.sub_mul, Nat.min_eq_left h3]
  unfold putAtGroup
  generalize hmid : (cur.take (n * sz)).drop (i * sz) = mid at *
  rw [List.take_take, Nat.min_eq_left h6]
  unfold Raw.put
  have e1 : (cur.take ((i + 1) * sz) ++ mid ++ cur.drop ((i + 1) * sz + mid.length)).take (i * sz) = cur.take (i * sz) := by
    rw [List.append_assoc, List.take_append_of_le_length (by rw [List.length_take]; omega), List.take_take, Nat.min_eq_left (by omega)]
  have e2 : (cur.take ((i + 1) * sz) ++ mid ++ cur.drop ((i + 1) * sz + mid.length)).drop (i * sz + ins.length) = mid ++ cur.drop ((i + 1) * sz + mid.length) := by
    rw [hins, ← h5, List.append_assoc, List.drop_left' (by rw [List.length_take]; omega)]
  rw [e1, e2, show cur.take (i * sz) ++ ins ++ (mid ++ cur.drop ((i + 1) * sz + mid.length)) = (cur.take (i * sz) ++ (ins ++ mid)) ++ cur.drop ((i + 1) * sz + mid.length) by simp]
  rw [List.take_left' (by simp only [List.length_append, List.length_take]; rw [hins, hin]; omega)]
set_option maxRecDepth 100000 in
set_option maxHeartbeats 4000000 in
theorem api_Group_32.room (base g n c vb : Nat) (l : List S29) (x : S29) (w0 w : World) (okp : Nat → Prop) (i : Nat) (hR : k29.R 29 w base okp (.slice (some ⟨g, 0, none⟩) n c) l) (cv : List Value) (d : Nat) (hv : Raw.Blk w 29 vb cv) (hcv : cv.length = d * 3) (hd1 : 1 ≤ d) (hxv : cv.take 3 = enc29 x) (hne : vb ≠ g) (hB : Below base w0 w) (hbase : base ≤ w.heap.size) (hi : i < n) (hroom : n + 1 ≤ c) :
    Calls Tryd.prog 32 #[.slice (some ⟨g, 0, none⟩) n c, .int .i64 i, .slice (some ⟨vb, 0, none⟩) 1 d] w fun e w' => ∃ v0_ : Value, e = .returned (v0_) ∧ Kd.R k29 29 w' base (fun k_ => (okp k_ ∨ w.heap.size ≤ k_)) v0_ (l.take i ++ x :: l.drop i) ∧ Below base w0 w' ∧ Kept w w' (fun k_ => okp k_) := by
  obtain ⟨cur, hb0, hokg, hnl, hnc, hcm, hg, hcs, hr⟩ := Raw.R_open hR
  have hc63 : c ≤ 9223372036854775807 := by unfold maxLen at hcm; omega
  have hsz4 : k29.sz = 3 := rfl
  rw [hsz4] at hcs hr
  obtain ⟨i0, hi0, hsz⟩ := Option.map_eq_some_iff.1 info29
  simp only [Prod.mk.injEq] at hsz
  obtain ⟨-, hz1, -⟩ := hsz
  have hinfo : (Tryd.prog.info? 29).map (·.size) = some 3 := by rw [hi0]; exact congrArg some hz1
  have hsize : ∀ w, (Go.sizeOf 29).run Tryd.prog w = .ok 3 w := fun w => by simp [sizeOf, typeInfo, hi0, hz1]
  have hov : ∀ (W : World) lb cb, W.heap = w.heap → (callFunc 45 #[.slice (some ⟨vb, 0, none⟩) 1 d, .slice (some ⟨g, (i + 1) * 3, none⟩) lb cb]).run Tryd.prog W = .ok (.value (.bool false)) W := fun W lb cb hW => by
    rw [run_callFunc_extern Tryd.func45 (by kernel_rfl) (by kernel_rfl) (by kernel_rfl) (e := Extern.SlicesOverlaps.overlaps #[22, 22] #[4]) (by kernel_rfl),
      Lib.run_overlaps_apart W 22 4 29 Tryd.underlying22 3 hsize ⟨vb, 0, none⟩ ⟨g, (i + 1) * 3, none⟩ 1 d lb cb hne 29 29 (d * 3) (c * 3) (by unfold Raw.Blk at hv; simp [World.shape?, hW, hv, hcv]) (by unfold Raw.Blk at hg; simp [World.shape?, hW, hg, hcs]) (by omega) (by unfold Raw.Blk at hv; simp [World.frozen?, hW, hv]) (by unfold Raw.Blk at hv; simp [World.frozen?, hW, hv])]
    rfl
  have hin : ((cur.take (n * 3)).drop (i * 3)).length = (n - i) * 3 := by rw [List.length_drop, List.length_take, hcs]; omega
  have hcp1 : ∀ (W : World) ty dc sc, Raw.Blk W 29 g cur → (Builtin.copy_ #[22, 22] ty #[.slice (some ⟨g, (i + 1) * 3, none⟩) (n - i) dc, .slice (some ⟨g, i * 3, none⟩) (n + 1 - i) sc]).run Tryd.prog W = .ok (goInt (n - i)) (W.setRow g (Raw.put cur ((i + 1) * 3) ((cur.take (n * 3)).drop (i * 3))).toArray) := fun W ty dc sc hW => by
    have := Raw.run_copy (P := Tryd.prog) W 22 22 ty 29 3 g ((i + 1) * 3) (n - i) dc ⟨g, i * 3, none⟩ (n + 1 - i) sc cur ((cur.take (n * 3)).drop (i * 3)) Tryd.underlying22 hinfo hW (by rw [hin]; congr 1; omega)
      (fun j v hj => by
        have hjl := (List.getElem?_eq_some_iff.1 hj).1
        rw [hin] at hjl
        rw [add_at, Raw.blk_cell hW]
        rw [List.getElem?_drop, List.getElem?_take, if_pos (by omega)] at hj
        exact hj) (by rw [hin, hcs]; omega) (fun v hv => Raw.reps_cell hr v (List.mem_of_mem_drop hv))
    rw [this]
    congr 2
    omega
  have cvx : ∀ j v, (enc29 x)[j]? = some v → cv[j]? = some v := fun j v hj => by
    rw [← hxv, List.getElem?_take] at hj
    split at hj
    · exact hj
    · cases hj
  have hins : (enc29 x).length = 3 := rfl
  have hcp2 : ∀ (W : World) ty dc, Raw.Blk W 29 g (Raw.put cur ((i + 1) * 3) ((cur.take (n * 3)).drop (i * 3))) → Raw.Blk W 29 vb cv → (Builtin.copy_ #[22, 22] ty #[.slice (some ⟨g, i * 3, none⟩) (n + 1 - i) dc, .slice (some ⟨vb, 0, none⟩) 1 d]).run Tryd.prog W = .ok (goInt 1) (W.setRow g (putAtGroup cur (enc29 x) i n 3).toArray) := fun W ty dc hW hV => by
    have := Raw.run_copy (P := Tryd.prog) W 22 22 ty 29 3 g (i * 3) (n + 1 - i) dc ⟨vb, 0, none⟩ 1 d _ (enc29 x) Tryd.underlying22 hinfo hW (by rw [hins, Nat.min_eq_left (by omega)])
      (fun j v hj => by rw [add_at, Raw.blk_cell hV, Nat.zero_add]; exact cvx j v hj) (by rw [hins, Raw.put_len _ _ _ (by rw [hin, hcs]; omega), hcs]; omega) (by intro v hv; unfold enc29 at hv; simp at hv; rcases hv with rfl | rfl | rfl <;> rfl)
    rw [this, show (min ((1 : Nat) : Int) ((n + 1 - i : Nat) : Int)) = 1 by omega]
    rfl
  have hgd : Raw.Blk w.drew 29 g cur := hg
  obtain ⟨W1, hW1⟩ : ∃ W1, W1 = w.drew.setRow g (Raw.put cur ((i + 1) * 3) ((cur.take (n * 3)).drop (i * 3))).toArray := ⟨_, rfl⟩
  have hc1 : ∀ ty dc sc, (Builtin.copy_ #[22, 22] ty #[.slice (some ⟨g, (i + 1) * 3, none⟩) (n - i) dc, .slice (some ⟨g, i * 3, none⟩) (n + 1 - i) sc]).run Tryd.prog w.drew = .ok (goInt (n - i)) W1 := fun ty dc sc => by rw [hW1]; exact hcp1 _ ty dc sc hgd
  have hg1 : Raw.Blk W1 29 g (Raw.put cur ((i + 1) * 3) ((cur.take (n * 3)).drop (i * 3))) := by rw [hW1]; exact Raw.blk_put hgd _
  have hv1 : Raw.Blk W1 29 vb cv := by rw [hW1]; exact Raw.blk_far hv _ hne
  obtain ⟨W2, hW2⟩ : ∃ W2, W2 = W1.setRow g (putAtGroup cur (enc29 x) i n 3).toArray := ⟨_, rfl⟩
  have hc2 : ∀ ty dc, (Builtin.copy_ #[22, 22] ty #[.slice (some ⟨g, i * 3, none⟩) (n + 1 - i) dc, .slice (some ⟨vb, 0, none⟩) 1 d]).run Tryd.prog W1 = .ok (goInt 1) W2 := fun ty dc => by rw [hW2]; exact hcp2 _ ty dc hg1 hv1
  have hlen : (l.take i ++ x :: l.drop i).length = n + 1 := by simp only [List.length_append, List.length_cons, List.length_take, List.length_drop]; omega
  have hlast : k29.R 29 W2 base okp (.slice (some ⟨g, 0, none⟩) (n + 1) c) (l.take i ++ x :: l.drop i) := by
    have := Raw.R_close (d := k29) (e := 29) (g := g) (c := c) (base := base) (w := w) (w' := W2) (ok := okp) (xs := l.take i ++ x :: l.drop i) (cur := putAtGroup cur (enc29 x) i n 3)
      (by rw [hW2]; exact Raw.blk_put hg1 _) hb0 hokg (by rw [hlen]; exact hroom) hcm (by rw [putAtGroup_len cur (enc29 x) i n c 3 hcs hi hroom hins]; exact hcs)
      (by
        rw [hlen, hsz4, putAtGroup_take cur (enc29 x) i n c 3 hcs hi hroom hins]
        exact Kd.reps_append (Kd.reps_take hr (by omega)) (Reps.front (k29_mkM _ _ _ x) rfl (Kd.reps_drop hr) rfl))
      (fun k _ hk _ => by rw [hW2, hW1, setRow_other _ _ _ _ hk, setRow_other _ _ _ _ hk]; rfl)
    rw [hlen] at this
    exact this
  have hbel : Below base w0 W2 := by rw [hW2, hW1]; exact Raw.below_setRow (Raw.below_setRow (below_drew hB) hb0 _) hb0 _
  have hkep : Kept w W2 (fun k_ => okp k_) := ⟨by rw [hW2, hW1]; simp [World.setRow], fun k _ hk => by
    have hkg : k ≠ g := fun e => hk (by rw [e]; exact hokg)
    rw [hW2, hW1, setRow_other _ _ _ _ hkg, setRow_other _ _ _ _ hkg]
    rfl⟩
  have HKP := Aside0.mk hkep
  have HL := Aside0.mk hlast
  have HBL := Aside0.mk hbel
  have HC1 := Aside0.mk hc1
  have HC2 := Aside0.mk hc2
  have HOV := Aside0.mk (fun (W : World) lb cb (h : W.heap = w.heap) => hov W lb cb h)
  have mixed : Tryd.prog.follows Departure.mixedOrders = true := by kernel_rfl
  have q1 : IntKind.i64.wrap ((i : Int) + 1) = (i : Int) + 1 := by rw [IntKind.wrap_i64]; omega
  have q2 : IntKind.i64.wrap ((n : Int) + 1) = (n : Int) + 1 := by rw [IntKind.wrap_i64]; omega
  have p1 : (0 : Int) ≤ (i : Int) := by omega
  have p2 : (i : Int) ≤ (n : Int) := by omega
  have p3 : ((i : Int) == (n : Int)) = false := by rw [beq_eq_false_iff_ne]; omega
  have p4 : ¬ ((c : Int) < (n : Int) + 1) := by omega
  have p5 : (n : Int) + 1 ≤ (c : Int) := by omega
  have p6 : (0 : Int) ≤ (n : Int) + 1 := by omega
  have p7 : (i : Int) + 1 ≤ (n : Int) + 1 := by omega
  have p8 : (0 : Int) ≤ (i : Int) + 1 := by omega
  have p9 : (i : Int) ≤ (n : Int) + 1 := by omega
  have p10 : ¬ (c = i + 1) := by omega
  have p11 : ¬ (c = i) := by omega
  have hov0 : ∀ lb cb, (callFunc 45 #[.slice (some ⟨vb, 0, none⟩) 1 d, .slice (some ⟨g, (i + 1) * 3, none⟩) lb cb]).run Tryd.prog w = .ok (.value (.bool false)) w := fun lb cb => hov w lb cb rfl
  clear hov hcp1 hcp2 hc1 hc2 hlast hbel hkep cvx hxv hcv hR hr hB hg hg1 hv hv1 hgd hW1 hW2 hlen hin hcs hnl hi0 hz1 hinfo hsize HOV hins hsz4
  go_enter Tryd.func32, Tryd.ntmps32
  go_wp2_with (simp only [hov0])
  go_region_law_o (refine Raw.step_copy rfl (.tmp 73) (.tmp 76) 22 22 rfl _ _ (by simp [Act.eval, Act.put]) (by simp [Act.eval, Act.put]) (HC1.out _ (c - (i + 1)) (c - i)) ?_)
  go_wp2_with (first | ((with_reducible refine gate_builtin (b := .copy) (xs := #[.tmp 80, .tmp 81]) rfl ?_); go_loud (refine Raw.wpList_copy rfl (.tmp 80) (.tmp 81) 22 22 rfl _ _ rfl rfl (HC2.out _ _) ?_)))
  go_ret
  exact ⟨_, rfl, Kd.R_mono HL.out (fun _ hk => .inl hk), HBL.out, HKP.out⟩

theorem grow_takeGroup (a ins mid tail : List Value) (i n sz G : Nat) (hi : i < n) (ha : a.length = i * sz) (hins : ins.length = sz) (hmid : mid.length = (n - i) * sz) (ht : tail.length = (G - i) * sz) (hG : n + 1 ≤ G) :
    (Raw.put (Raw.put (a ++ tail) (i * sz) ins) ((i + 1) * sz) mid).length = G * sz ∧ (Raw.put (Raw.put (a ++ tail) (i * sz) ins) ((i + 1) * sz) mid).take ((n + 1) * sz) = a ++ (ins ++ mid) := by
  have h5 : (i + 1) * sz = i * sz + sz := Nat.succ_mul _ _
  have h1 : (i + 1) * sz + (n - i) * sz = (n + 1) * sz := by rw [← Nat.add_mul]; congr 1; omega
  have h2 : (n + 1) * sz ≤ G * sz := Nat.mul_le_mul_right _ hG
  have h3 : i * sz + (G - i) * sz = G * sz := by rw [← Nat.add_mul]; congr 1; omega
  have hl : (a ++ tail).length = G * sz := by rw [List.length_append, ha, ht]; exact h3
  have e1 := Raw.put_len (a ++ tail) (i * sz) ins (by rw [hl, hins]; omega)
  refine ⟨by rw [Raw.put_len _ _ _ (by rw [e1, hl, hmid]; omega), e1, hl], ?_⟩
  have e2 : Raw.put (a ++ tail) (i * sz) ins = a ++ ins ++ tail.drop sz := by
    unfold Raw.put
    rw [hins, List.take_left' ha, List.drop_append, ha, show i * sz + sz - i * sz = sz by omega, List.drop_eq_nil_of_le (by omega), List.nil_append]
  have e3 : (a ++ ins).length = (i + 1) * sz := by rw [List.length_append, ha, hins]; omega
  rw [e2]
  unfold Raw.put
  rw [List.take_left' e3]
  rw [List.take_left' (by rw [List.length_append, e3, hmid]; exact h1), List.append_assoc]
set_option maxRecDepth 100000 in
set_option maxHeartbeats 4000000 in
theorem api_Group_32.grow (base g n c vb : Nat) (l : List S29) (x : S29) (w0 w : World) (okp : Nat → Prop) (i : Nat) (hR : k29.R 29 w base okp (.slice (some ⟨g, 0, none⟩) n c) l) (cv : List Value) (d : Nat) (hv : Raw.Blk w 29 vb cv) (hcv : cv.length = d * 3) (hd1 : 1 ≤ d) (hxv : cv.take 3 = enc29 x) (hne : vb ≠ g) (hB : Below base w0 w) (hbase : base ≤ w.heap.size) (hi : i < n) (hroom : c < n + 1) (hbig : (n + 1) * 40 ≤ 140737488355328) :
    Calls Tryd.prog 32 #[.slice (some ⟨g, 0, none⟩) n c, .int .i64 i, .slice (some ⟨vb, 0, none⟩) 1 d] w fun e w' => ∃ v0_ : Value, e = .returned (v0_) ∧ Kd.R k29 29 w' base (fun k_ => (okp k_ ∨ w.heap.size ≤ k_)) v0_ (l.take i ++ x :: l.drop i) ∧ Below base w0 w' ∧ Kept w w' (fun k_ => okp k_) := by
  obtain ⟨cur, hb0, hokg, hnl, hnc, hcm, hg, hcs, hr⟩ := Raw.R_open hR
  obtain rfl : c = n := by omega
  have hc63 : c ≤ 9223372036854775807 := by unfold maxLen at hcm; omega
  have hsz4 : k29.sz = 3 := rfl
  rw [hsz4] at hcs hr
  obtain ⟨i0, hi0, hsz⟩ := Option.map_eq_some_iff.1 info29
  simp only [Prod.mk.injEq] at hsz
  obtain ⟨hz0, hz1, hz2⟩ := hsz
  have hinfo : (Tryd.prog.info? 29).map (·.size) = some 3 := by rw [hi0]; exact congrArg some hz1
  have hgw : g < w.heap.size := (Array.getElem?_eq_some_iff.1 hg).1
  have hvw : vb < w.heap.size := (Array.getElem?_eq_some_iff.1 hv).1
  have hkk : (c : Int) + 1 - (i : Int) = ((c + 1 - i : Nat) : Int) := by omega
  have hik : i + (c + 1 - i) = c + 1 := by omega
  have hold : (Builtin.firstCells i0.size i (.slice (some ⟨g, 0, none⟩) i c)).run Tryd.prog w.drew = .ok (cur.take (i * 3)).toArray w.drew := by
    rw [hz1]
    exact run_firstCells_some w.drew 3 i ⟨g, 0, none⟩ i c (cur.take (i * 3)) (by rw [List.length_take, hcs]; omega) (fun j v hj => by
      rw [add_at, Nat.zero_add]
      show w.cell? _ = _
      rw [Raw.blk_cell hg]
      rw [List.getElem?_take] at hj
      split at hj
      · exact hj
      · cases hj)
  obtain ⟨G, hG⟩ : ∃ G, G = grownCap w (c + 1) c 29 := ⟨_, rfl⟩
  have hGn : c + 1 ≤ G := by rw [hG]; exact grownCap_ge w _ _ _
  have hGm : G ≤ maxLen := by rw [hG]; exact grownCap_le_maxLen w (c + 1) c 29 (by unfold maxLen; omega)
  have hG63 : G ≤ 9223372036854775807 := by unfold maxLen at hGm; omega
  obtain ⟨tail, htail⟩ : ∃ tail, tail = (Builtin.zeroCells zi29.cells (c + 1 - i)).toList ++ (Builtin.zeroCells zi29.cells (G - (c + 1))).toList := ⟨_, rfl⟩
  have htl : tail.length = (G - i) * 3 := by rw [htail, List.length_append, Array.length_toList, Array.length_toList, size_zeroCells, size_zeroCells]; show (c + 1 - i) * 3 + (G - (c + 1)) * 3 = (G - i) * 3; omega
  obtain ⟨W0, hW0⟩ : ∃ W0, W0 = w.drew.alloc (.cells (cur.take (i * 3) ++ tail).toArray 29) := ⟨_, rfl⟩
  have hrz : ∀ ty, (Builtin.append_ #[22, 3] ty #[.slice (some ⟨g, 0, none⟩) i c, .int .i64 ((c : Int) + 1 - (i : Int))]).run Tryd.prog w = .ok (.slice (some ⟨w.heap.size, 0, none⟩) (c + 1) G) W0 := fun ty => by
    have h := Lib.run_append_grow_zeros w 22 3 ty 29 i0 zi29 .i64 .i64 Tryd.underlying22 Tryd.underlying3 hi0 hz0 (some ⟨g, 0, none⟩) i c (cur.take (i * 3)) hold (c + 1 - i) (by omega) (by rw [hz1]; decide) (by omega) (by omega) (by rw [hz2]; omega) (by rw [hz2, hik]; exact growslice_fits hroom hbig)
    rw [hik] at h
    rw [hkk, h, hW0, ← hG, htail]
    congr 3
    apply Array.ext'
    simp
  have hg0 : Raw.Blk W0 29 w.heap.size (cur.take (i * 3) ++ tail) := by rw [hW0]; exact Raw.blk_new w.drew 29 _
  have hgo : Raw.Blk W0 29 g cur := by rw [hW0]; exact (heap_alloc_old w.drew _ hgw).trans hg
  have hvo : Raw.Blk W0 29 vb cv := by rw [hW0]; exact (heap_alloc_old w.drew _ hvw).trans hv
  have cvx : ∀ j v, (enc29 x)[j]? = some v → cv[j]? = some v := fun j v hj => by
    rw [← hxv, List.getElem?_take] at hj
    split at hj
    · exact hj
    · cases hj
  have hins : (enc29 x).length = 3 := rfl
  have hal : (cur.take (i * 3)).length = i * 3 := by rw [List.length_take, hcs]; omega
  have hrow : (cur.take (i * 3) ++ tail).length = G * 3 := by rw [List.length_append, hal, htl]; omega
  have hin : ((cur.take (c * 3)).drop (i * 3)).length = (c - i) * 3 := by rw [List.length_drop, List.length_take, hcs]; omega
  obtain ⟨W1, hW1⟩ : ∃ W1, W1 = W0.setRow w.heap.size (Raw.put (cur.take (i * 3) ++ tail) (i * 3) (enc29 x)).toArray := ⟨_, rfl⟩
  have hc1 : ∀ ty dc, (Builtin.copy_ #[22, 22] ty #[.slice (some ⟨w.heap.size, i * 3, none⟩) (c + 1 - i) dc, .slice (some ⟨vb, 0, none⟩) 1 d]).run Tryd.prog W0 = .ok (goInt 1) W1 := fun ty dc => by
    have := Raw.run_copy (P := Tryd.prog) W0 22 22 ty 29 3 w.heap.size (i * 3) (c + 1 - i) dc ⟨vb, 0, none⟩ 1 d _ (enc29 x) Tryd.underlying22 hinfo hg0 (by rw [hins, Nat.min_eq_left (by omega)])
      (fun j v hj => by rw [add_at, Raw.blk_cell hvo, Nat.zero_add]; exact cvx j v hj) (by rw [hins, hrow]; omega) (by intro v hv; unfold enc29 at hv; simp at hv; rcases hv with rfl | rfl | rfl <;> rfl)
    rw [this, show (min ((1 : Nat) : Int) ((c + 1 - i : Nat) : Int)) = 1 by omega, hW1]
  have hl1 : (Raw.put (cur.take (i * 3) ++ tail) (i * 3) (enc29 x)).length = G * 3 := by rw [Raw.put_len _ _ _ (by rw [hrow, hins]; omega), hrow]
  have hg1 : Raw.Blk W1.drew 29 w.heap.size (Raw.put (cur.take (i * 3) ++ tail) (i * 3) (enc29 x)) := by rw [hW1]; exact Raw.blk_put hg0 _
  have hgo1 : Raw.Blk W1.drew 29 g cur := by rw [hW1]; exact Raw.blk_far hgo _ (by omega)
  obtain ⟨W2, hW2⟩ : ∃ W2, W2 = W1.drew.setRow w.heap.size (Raw.put (Raw.put (cur.take (i * 3) ++ tail) (i * 3) (enc29 x)) ((i + 1) * 3) ((cur.take (c * 3)).drop (i * 3))).toArray := ⟨_, rfl⟩
  have hc2 : ∀ ty dc sc, (Builtin.copy_ #[22, 22] ty #[.slice (some ⟨w.heap.size, (i + 1) * 3, none⟩) (c - i) dc, .slice (some ⟨g, i * 3, none⟩) (c - i) sc]).run Tryd.prog W1.drew = .ok (goInt (c - i)) W2 := fun ty dc sc => by
    have := Raw.run_copy (P := Tryd.prog) W1.drew 22 22 ty 29 3 w.heap.size ((i + 1) * 3) (c - i) dc ⟨g, i * 3, none⟩ (c - i) sc _ ((cur.take (c * 3)).drop (i * 3)) Tryd.underlying22 hinfo hg1 (by rw [hin]; congr 1; omega)
      (fun j v hj => by
        have hjl := (List.getElem?_eq_some_iff.1 hj).1
        rw [hin] at hjl
        rw [add_at, Raw.blk_cell hgo1]
        rw [List.getElem?_drop, List.getElem?_take, if_pos (by omega)] at hj
        exact hj) (by rw [hin, hl1]; omega) (fun v hv => Raw.reps_cell hr v (List.mem_of_mem_drop hv))
    rw [this, hW2, show (min ((c - i : Nat) : Int) ((c - i : Nat) : Int)) = (c : Int) - (i : Int) by omega]
  have hlen : (l.take i ++ x :: l.drop i).length = c + 1 := by simp only [List.length_append, List.length_cons, List.length_take, List.length_drop]; omega
  obtain ⟨hl2, ht2⟩ := grow_takeGroup (cur.take (i * 3)) (enc29 x) ((cur.take (c * 3)).drop (i * 3)) tail i c 3 G hi hal hins hin htl hGn
  have hlast : k29.R 29 W2 base (fun k_ => (okp k_ ∨ w.heap.size ≤ k_)) (.slice (some ⟨w.heap.size, 0, none⟩) (c + 1) G) (l.take i ++ x :: l.drop i) := by
    have := Raw.R_close (d := k29) (e := 29) (g := w.heap.size) (c := G) (base := base) (w := w) (w' := W2) (ok := fun k_ => (okp k_ ∨ w.heap.size ≤ k_)) (xs := l.take i ++ x :: l.drop i) (cur := Raw.put (Raw.put (cur.take (i * 3) ++ tail) (i * 3) (enc29 x)) ((i + 1) * 3) ((cur.take (c * 3)).drop (i * 3)))
      (by rw [hW2]; exact Raw.blk_put hg1 _) hbase (.inr (Nat.le_refl _)) (by rw [hlen]; exact hGn) hGm hl2
      (by
        rw [hlen, hsz4, ht2]
        refine Kd.reps_append ?_ (Reps.front (k29_mkM _ _ _ x) rfl ((Kd.reps_drop hr).imp_ fun p q h => by rw [k29_openM h]; exact k29_mkM _ _ _ p) rfl)
        have := (Kd.reps_take hr (m := i) (by omega)).imp_ (R' := k29.M w base (fun k => (okp k ∨ w.heap.size ≤ k) ∧ k ≠ w.heap.size)) fun p q h => by rw [k29_openM h]; exact k29_mkM _ _ _ p
        rwa [List.take_take, Nat.min_eq_left (by omega)] at this)
      (fun k _ hk hlt => by
        rw [hW2, setRow_other _ _ _ _ hk]
        show W1.heap[k]? = _
        rw [hW1, setRow_other _ _ _ _ hk, hW0]
        exact heap_alloc_old w.drew _ hlt)
    rw [hlen] at this
    exact this
  have hbel : Below base w0 W2 := by
    rw [hW2]
    refine Raw.below_setRow (below_drew ?_) hbase _
    rw [hW1]
    refine Raw.below_setRow ?_ hbase _
    rw [hW0]
    exact (below_drew hB).alloc hbase _
  have hbelw : Below w.heap.size w W2 := by
    rw [hW2]
    refine Raw.below_setRow (below_drew ?_) (Nat.le_refl _) _
    rw [hW1]
    refine Raw.below_setRow ?_ (Nat.le_refl _) _
    rw [hW0]
    exact (below_drew (Below.refl w.heap.size w)).alloc (Nat.le_refl _) _
  have HKP := Aside0.mk (Kept.of_below hbelw (fun k_ => okp k_))
  have HL := Aside0.mk hlast
  have HBL := Aside0.mk hbel
  have HC1 := Aside0.mk hc1
  have HC2 := Aside0.mk hc2
  have HRZ := Aside0.mk hrz
  have mixed : Tryd.prog.follows Departure.mixedOrders = true := by kernel_rfl
  have q1 : IntKind.i64.wrap ((i : Int) + 1) = (i : Int) + 1 := by rw [IntKind.wrap_i64]; omega
  have q2 : IntKind.i64.wrap ((c : Int) + 1) = (c : Int) + 1 := by rw [IntKind.wrap_i64]; omega
  have q3 : IntKind.i64.wrap ((c : Int) + 1 - (i : Int)) = (c : Int) + 1 - (i : Int) := by rw [IntKind.wrap_i64]; omega
  have p1 : (0 : Int) ≤ (i : Int) := by omega
  have p2 : (i : Int) ≤ (c : Int) := by omega
  have p3 : ((i : Int) == (c : Int)) = false := by rw [beq_eq_false_iff_ne]; omega
  have p4 : (c : Int) < (c : Int) + 1 := by omega
  have p7 : (i : Int) + 1 ≤ (c : Int) + 1 := by omega
  have p8 : (0 : Int) ≤ (i : Int) + 1 := by omega
  have p9 : (i : Int) ≤ (c : Int) + 1 := by omega
  have p10 : ¬ (G = i + 1) := by omega
  have p11 : ¬ (G = i) := by omega
  have p12 : ¬ (c = i) := by omega
  clear hc1 hc2 hlast hbel hbelw cvx hxv hcv hR hr hB hg hg1 hv hvo hgo hgo1 hg0 hW0 hW1 hW2 hlen hin hcs hnl hi0 hz0 hz1 hz2 hinfo hins hsz4 hrz hold hkk hik hG htail htl hal hrow hl1 hl2 ht2
  go_enter Tryd.func32, Tryd.ntmps32
  go_wp2_with (first
    | ((with_reducible refine gate_builtin (b := .append) (xs := #[.tmp 34, .tmp 39]) rfl ?_); go_loud (refine Lib.wpList_append_run _ rfl (.tmp 34) (.tmp 39) 22 3 rfl _ _ rfl rfl _ _ (HRZ.out _) ?_))
    | ((with_reducible refine gate_builtin (b := .copy) (xs := #[.tmp 43, .tmp 44]) rfl ?_); go_loud (refine Raw.wpList_copy rfl (.tmp 43) (.tmp 44) 22 22 rfl _ _ rfl rfl (HC1.out _ _) ?_)))
  go_region_law_o (refine Raw.step_copy rfl (.tmp 50) (.tmp 53) 22 22 rfl _ _ (by simp [Act.eval, Act.put]) (by simp [Act.eval, Act.put]) (HC2.out _ (G - (i + 1)) (c - i)) ?_)
  go_wp2
  go_ret
  exact ⟨_, rfl, HL.out, HBL.out, HKP.out⟩

set_option maxRecDepth 100000 in
set_option maxHeartbeats 4000000 in
theorem api_Group_32.last (base vb : Nat) (v : Value) (l : List S29) (x : S29) (w0 w : World) (okp : Nat → Prop) (hR : k29.R 29 w base okp v l) (cv : List Value) (d : Nat) (hv : Raw.Blk w 29 vb cv) (hcv : cv.length = d * 3) (hd1 : 1 ≤ d) (hxv : cv.take 3 = enc29 x) (hB : Below base w0 w) (hbase : base ≤ w.heap.size) (hbig : (l.length + 1) * 40 ≤ 140737488355328) :
    Calls Tryd.prog 32 #[v, .int .i64 l.length, .slice (some ⟨vb, 0, none⟩) 1 d] w fun e w' => ∃ v0_ : Value, e = .returned (v0_) ∧ Kd.R k29 29 w' base (fun k_ => (okp k_ ∨ w.heap.size ≤ k_)) v0_ (l ++ [x]) ∧ Below base w0 w' ∧ Kept w w' (fun k_ => okp k_) := by
  have hx : ReadsRow (k29.K w) k29.sz w (some ⟨vb, 0, none⟩) 1 [x] := ⟨rfl, by decide, fun _ => ⟨_, rfl, fun j p hj => by
    obtain rfl : j = 0 := by
      have := (List.getElem?_eq_some_iff.1 hj).1
      simpa using this
    obtain rfl : x = p := by simpa using hj
    refine ⟨enc29 x, rfl, k29_mk w x, fun q u hu => ?_⟩
    rw [add_at, Raw.blk_cell hv]
    rw [← hxv, List.getElem?_take] at hu
    split at hu
    · simpa using hu
    · cases hu⟩⟩
  have HX := Aside0.mk hx
  have HR := Aside0.mk hR
  have HB := Aside0.mk hB
  have HS := Aside0.mk hbase
  have HZ := Aside0.mk hbig
  have hs0 : 0 < k29.sz := Nat.succ_pos _
  have hb0 : 0 < 40 := Nat.succ_pos _
  rcases Raw.R_cases hR with ⟨rfl, rfl⟩ | ⟨g, c, rfl⟩
  · clear hR hx hv hcv hxv hB hbase hbig
    go_enter Tryd.func32, Tryd.ntmps32
    go_wp2_with (first | ((with_reducible refine gate_builtin (b := .append) (xs := #[.tmp 23, .tmp 24]) rfl ?_); at_builtin; go_loud (refine Kd.R_append_rows k29 (Rr := k29.K w) (w0 := w0) base rfl (.tmp 23) (.tmp 24) 22 29 _ 40 rfl Tryd.underlying22 info29 rfl hs0 hb0 _ [] [x] (some ⟨vb, 0, none⟩) 1 d (fun k_ => (okp k_ ∨ w.heap.size ≤ k_)) (fun _ => False) rfl rfl ?aO ?aR ?aK (fun _ hk => hk.elim) (fun _ hk => .inr hk) ?aB ?aS ?aL ?_); (case aO => exact Kd.R_mono HR.out (fun _ hk => .inl hk)); (case aR => exact HX.out); (case aK => exact fun x cs hx => by rw [k29_open hx]; exact k29_mkM _ _ _ _); (case aB => exact HB.out); (case aS => exact HS.out); (case aL => decide); intro v1 w1 ho hb1 hg hat; have HO1 := Aside0.mk ho; have HB1 := Aside0.mk hb1; have HK1 := Aside0.mk (Kept.of_grown hg (Kept.refl w (fun k_ => okp k_)) (fun k_ he_ => .inl (HR.out.1 k_ he_))); clear ho hb1 hg hat))
    go_ret
    exact ⟨_, rfl, by simpa using HO1.out, HB1.out, HK1.out⟩
  · obtain ⟨cur, hb1, -, -, hnc, hcm, -, -, -⟩ := Raw.R_open hR
    have hc63 : c ≤ 9223372036854775807 := by unfold maxLen at hcm; omega
    obtain ⟨n, hn⟩ : ∃ n, n = l.length := ⟨_, rfl⟩
    rw [← hn] at hnc ⊢
    have HN := Aside0.mk hn
    have p1 : (n : Int) ≤ (n : Int) := Int.le_refl _
    have p2 : (0 : Int) ≤ (n : Int) := by omega
    clear hR hx hv hcv hxv hB hbase hbig hn
    go_enter Tryd.func32, Tryd.ntmps32
    go_wp2_with (first | ((with_reducible refine gate_builtin (b := .append) (xs := #[.tmp 23, .tmp 24]) rfl ?_); at_builtin; go_loud (refine Kd.R_append_rows k29 (Rr := k29.K w) (w0 := w0) base rfl (.tmp 23) (.tmp 24) 22 29 _ 40 rfl Tryd.underlying22 info29 rfl hs0 hb0 _ l [x] (some ⟨vb, 0, none⟩) 1 d (fun k_ => (okp k_ ∨ w.heap.size ≤ k_)) (fun _ => False) rfl rfl ?aO ?aR ?aK (fun _ hk => hk.elim) (fun _ hk => .inr hk) ?aB ?aS ?aL ?_); (case aO => rw [HN.out]; exact Kd.R_mono HR.out (fun _ hk => .inl hk)); (case aR => exact HX.out); (case aK => exact fun x cs hx => by rw [k29_open hx]; exact k29_mkM _ _ _ _); (case aB => exact HB.out); (case aS => exact HS.out); (case aL => exact HZ.out); intro v1 w1 ho hb1 hg hat; have HO1 := Aside0.mk ho; have HB1 := Aside0.mk hb1; have HK1 := Aside0.mk (Kept.of_grown hg (Kept.refl w (fun k_ => okp k_)) (fun k_ he_ => .inl (HR.out.1 k_ he_))); clear ho hb1 hg hat))
    all_goals (go_ret; exact ⟨_, rfl, HO1.out, HB1.out, HK1.out⟩)
theorem api_Group_32.own (base vb : Nat) (v : Value) (l : List S29) (x : S29) (w0 w : World) (okp : Nat → Prop) (i : Nat) (hR : k29.R 29 w base okp v l) (cv : List Value) (d : Nat) (hv : Raw.Blk w 29 vb cv) (hcv : cv.length = d * 3) (hd1 : 1 ≤ d) (hxv : cv.take 3 = enc29 x) (hne : v.ownBlock ≠ some vb) (hB : Below base w0 w) (hbase : base ≤ w.heap.size) (hi : i ≤ l.length) (hbig : (l.length + 1) * 40 ≤ 140737488355328) :
    Calls Tryd.prog 32 #[v, .int .i64 i, .slice (some ⟨vb, 0, none⟩) 1 d] w fun e w' => ∃ v0_ : Value, e = .returned (v0_) ∧ Kd.R k29 29 w' base (fun k_ => (okp k_ ∨ w.heap.size ≤ k_)) v0_ (l.take i ++ x :: l.drop i) ∧ Below base w0 w' ∧ Kept w w' (fun k_ => okp k_) := by
  rcases Nat.lt_or_ge i l.length with h | h
  · rcases Raw.R_cases hR with ⟨rfl, rfl⟩ | ⟨g, c, rfl⟩
    · exact absurd h (by simp)
    · have hng : vb ≠ g := fun e => hne (by rw [e]; rfl)
      rcases Nat.lt_or_ge c (l.length + 1) with hc | hc
      · exact api_Group_32.grow base g l.length c vb l x w0 w okp i hR cv d hv hcv hd1 hxv hng hB hbase h hc hbig
      · exact api_Group_32.room base g l.length c vb l x w0 w okp i hR cv d hv hcv hd1 hxv hng hB hbase h hc
  · obtain rfl : i = l.length := by omega
    rw [List.take_length, List.drop_length]
    exact api_Group_32.last base vb v l x w0 w okp hR cv d hv hcv hd1 hxv hB hbase hbig
/-- In the form of a printed function that writes what it is given: both rows are handed over. -/
def api_Group_32.f (l : List S29) (a1 : Int) (l2 : List S29) : Option (List S29) :=
  if 0 ≤ a1 ∧ a1 ≤ l.length ∧ l2.length = 1 ∧ (l.length + 1) * 40 ≤ 140737488355328 then some (l.take a1.toNat ++ l2 ++ l.drop a1.toNat) else none
theorem api_Group_32.calls (P0_ : Nat → Prop) (u9000_ : Value) (l0 : List S29) (a1 : Int) (P2_ : Nat → Prop) (u9001_ : Value) (l2 : List S29) (r : List S29) (w0 w : World) (hB : Below w0.heap.size w0 w) (ho0 : Kd.R k29 29 w w0.heap.size P0_ u9000_ l0) (hp0_2 : ∀ k_, P0_ k_ → ¬ P2_ k_) (ho2 : Kd.R k29 29 w w0.heap.size P2_ u9001_ l2) (hp2_0 : ∀ k_, P2_ k_ → ¬ P0_ k_) (h : api_Group_32.f l0 a1 l2 = some r) :
    Calls Tryd.prog 32 #[u9000_, .int .i64 a1, u9001_] w fun e w' => ∃ v0_ : Value, e = .returned (v0_) ∧ Kd.R k29 29 w' w0.heap.size (fun k_ => ((P0_ k_ ∨ P2_ k_) ∨ w.heap.size ≤ k_)) v0_ r ∧ Below w0.heap.size w0 w' ∧ Kept w w' (fun k_ => P0_ k_ ∨ P2_ k_) := by
  unfold api_Group_32.f at h
  split at h
  · rename_i hh
    obtain ⟨h0, h1, h2, hb⟩ := hh
    obtain rfl := Option.some.inj h
    obtain ⟨x, rfl⟩ := List.length_eq_one_iff.1 h2
    obtain ⟨i, rfl⟩ := Int.eq_ofNat_of_zero_le h0
    rcases Raw.R_cases ho2 with ⟨_, e⟩ | ⟨vb, d, rfl⟩
    · cases e
    · obtain ⟨cv, -, hokv, -, hd1, -, hv, hcv, hr⟩ := Raw.R_open ho2
      have hxv : cv.take 3 = enc29 x := by
        have hM := hr.2 0 x rfl
        have hM2 : k29.M w w0.heap.size (fun k => P2_ k ∧ k ≠ vb) x (cv.take 3) := by
          have e1 : k29.sz = 3 := rfl
          rw [e1] at hM
          simpa [List.take_take] using hM
        exact k29_openM hM2
      have hne : u9000_.ownBlock ≠ some vb := fun e => hp0_2 vb (ho0.1 vb e) hokv
      refine (api_Group_32.own w0.heap.size vb u9000_ l0 x w0 w P0_ i ho0 cv d hv hcv hd1 hxv hne hB hB.size (by omega) hb).mono ?_
      rintro e w' ⟨v0_, rfl, hr1, hb1, hk1⟩
      refine ⟨v0_, rfl, ?_, hb1, hk1.mono (fun _ hk => .inl hk)⟩
      rw [Int.toNat_natCast, List.append_assoc]
      exact Kd.R_mono hr1 (fun _ hk => hk.imp_left .inl)
  · cases h
end Go.Proofs.YtoflajekfpggbaaDoor.P
