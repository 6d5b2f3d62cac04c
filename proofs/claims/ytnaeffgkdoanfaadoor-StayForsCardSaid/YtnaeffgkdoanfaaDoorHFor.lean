/- By hand, in the printed form: stay.For, with slices.DeleteFunc and slices.IndexFunc at its closure. -/
import Derived.Test.YtnaeffgkdoanfaaDoorP7
import Derived.Test.YtnaeffgkdoanfaaDoorP6
import Derived.Test.YtnaeffgkdoanfaaDoorS4
import Derived.Test.YtnaeffgkdoanfaaDoorHPut
namespace Go.Proofs.YtnaeffgkdoanfaaDoor.P
open Go.RowKit Go.Proofs.YtnaeffgkdoanfaaDoorW.PrintWords Go.Proofs.YtnaeffgkdoanfaaDoorW.PrintLast Go.Proofs.YtnaeffgkdoanfaaDoorW.PrintMore
open Go.Proofs.YtnaeffgkdoanfaaDoor
set_option linter.unusedSimpArgs false
set_option linter.unusedVariables false
theorem rd50_at0 (l : List S50) (i : Nat) (h : i < l.length) : rd_T50 l (i : Int) = l[i] := by
  unfold rd_T50
  simp [List.getElem?_eq_getElem h]
theorem below_tabs {w w' : World} {base : Nat} (h : Tabs w) (hs : w.heap.size ≤ base) (hb : Below base w w') : Tabs w' := Tabs_below h ⟨hb.os, hb.tape, hb.output, hb.size, fun k hk => hb.block k (by omega)⟩
set_option maxRecDepth 100000 in
set_option maxHeartbeats 4000000 in
theorem stay_For_1.calls (x : S50) (f : ByteArray) (b : Nat) (w : World) (hf : w.heap[b]? = some (.cells #[.string f] 9 (0, 0))) (hT : Tabs w) :
    Calls Tryd.prog 59 #[.agg #[.string x.f0, .string x.f1, .int .i64 x.f2, .int .i64 x.f3], .pointer (some ⟨b, 0, none⟩)] w fun e w' => e = .returned (.bool (!matchS f x.f0)) ∧ Below w.heap.size w w' := by
  have hm := nMatch_is f x.f0 100 (Nat.le_refl _)
  have hf0 : w.cell? ⟨b, 0, none⟩ = some (.string f) := by rw [cell_of_row w b 0 _ 9 (0, 0) hf]; rfl
  have hlt := blk_lt hf
  have hne : b ≠ w.heap.size := by omega
  have HM := Aside0.mk hm
  have HT := Aside0.mk hT
  clear hm hT hf
  go_enter Tryd.func59, Tryd.ntmps59
  go_wp2_with (first | (go_at_call 11; (with_reducible refine (name_Match.calls 100 f x.f0 _ _ HM.out ?s1).mono ?_); (case s1 => exact Tabs_below HT.out (below_alloc (Below.refl _ _) _)); rintro _ w2 ⟨rfl, hb⟩; have HB2 := Aside0.mk (below_then (below_alloc (Below.refl _ w) _) (below_alloc (Below.refl _ w) (.cells #[.string x.f0, .string x.f1, .int .i64 x.f2, .int .i64 x.f3] 50)).size hb); clear hb))
  go_ret
  exact ⟨rfl, HB2.out⟩
/-- The first that goes. -/
def idxFrom (p : S50 → Bool) : List S50 → Nat → Int
  | [], _ => -1
  | x :: l, i => if p x = true then (i : Int) else idxFrom p l (i + 1)
set_option maxRecDepth 100000 in
set_option maxHeartbeats 4000000 in
theorem api_Retained_68.calls (f : ByteArray) (b : Nat) (A0 : Option Addr) (c0 : Nat) (l0 : List S50) (w0 w : World) (hr0 : Kd.C k50 w A0 l0.length l0) (hc0 : l0.length ≤ c0) (hB : Below w0.heap.size w0 w) (hf : w0.heap[b]? = some (.cells #[.string f] 9 (0, 0))) (hT : Tabs w0) :
    Calls Tryd.prog 68 #[.slice A0 l0.length c0, .func (.func 59) #[] #[.pointer (some ⟨b, 0, none⟩)]] w fun e w' => e = .returned (.int .i64 (idxFrom (fun x => !matchS f x.f0) l0 0)) ∧ Below w.heap.size w w' := by
  obtain ⟨r, hr⟩ : ∃ r, r = idxFrom (fun x => !matchS f x.f0) l0 0 := ⟨_, rfl⟩
  rw [← hr]
  have HR := Aside0.mk hr0
  have HB := Aside0.mk hB
  have HF := Aside0.mk hf
  have HT := Aside0.mk hT
  have HQ := Aside0.mk hr
  have HM := Aside0.mk (Kd.C_max hr0)
  clear hr0 hB hf hT hr
  go_enter Tryd.func68, Tryd.ntmps68
  go_wp2
  go_loopw [8, 5] (fun v8 _ w' => ∃ (i : Nat), v8 = .int .i64 i ∧ i ≤ l0.length ∧ Aside0 (idxFrom (fun x => !matchS f x.f0) (l0.drop i) i = r) ∧ Aside0 (Below w.heap.size w w')) (fun v8 _ _ => l0.length - (intOf v8).toNat)
  case atStart => exact ⟨0, rfl, by omega, ⟨by rw [List.drop_zero]; exact HQ.out.symm⟩, ⟨Below.refl _ _⟩⟩
  case round =>
    rename_i wr _
    obtain ⟨i, rfl, hi, HS, HW⟩ := hrel
    have hmx := HM.out
    by_cases hlt : i < l0.length
    · have p2 : (0 : Int) ≤ (i : Int) := by omega
      have p3 : (i : Int) < (l0.length : Int) := by omega
      have q1 : IntKind.i64.wrap ((i : Int) + 1) = (i : Int) + 1 := by rw [IntKind.wrap_i64]; omega
      obtain ⟨ad, e0, hx0, hx1, hx2, hx3⟩ := at_T50 (Kd.C_below HR.out HW.out) (i : Int) p2 p3
      subst e0
      simp only [Int.toNat_natCast] at hx0 hx1 hx2 hx3
      have hs := HS.out
      rw [List.drop_eq_getElem_cons hlt, idxFrom, ← rd50_at0 l0 i hlt] at hs
      have HFW : Aside0 (wr.heap[b]? = some (.cells #[.string f] 9 (0, 0))) := ⟨by
        have h1 := blk_lt HF.out
        have h2 := HB.out.size
        rw [HW.out.block b (by omega), HB.out.block b h1]; exact HF.out⟩
      have HTW : Aside0 (Tabs wr) := ⟨Tabs_below (Tabs_below HT.out HB.out) HW.out⟩
      by_cases hm : (!matchS f (rd_T50 l0 (i : Int)).f0) = true
      · rw [if_pos hm] at hs
        have HS2 := Aside0.mk hs
        clear hs
        go_wp2_with (first | (go_at_call 59; (with_reducible refine (stay_For_1.calls (rd_T50 l0 (i : Int)) f b _ HFW.out HTW.out).mono ?_); rintro _ w2 ⟨rfl, hb⟩; have HB2 := Aside0.mk (below_then HW.out HW.out.size hb); clear hb))
        go_ret
        exact ⟨by rw [← HS2.out]; rfl, HB2.out⟩
      · rw [if_neg hm] at hs
        have hm' : (!matchS f (rd_T50 l0 (i : Int)).f0) = false := by simpa using hm
        have HS2 := Aside0.mk hs
        clear hs hm
        go_wp2_with (first | (go_at_call 59; (with_reducible refine (stay_For_1.calls (rd_T50 l0 (i : Int)) f b _ HFW.out HTW.out).mono ?_); rintro _ w2 ⟨rfl, hb⟩; have HB2 := Aside0.mk (below_then HW.out HW.out.size hb); clear hb))
        go_roundw
        case rel => exact ⟨i + 1, by go_num, by omega, HS2, HB2⟩
        case measure => simp [intOf]; omega
    · have p3 : ¬ ((i : Int) < (l0.length : Int)) := by omega
      have hs : r = -1 := by rw [← HS.out, List.drop_eq_nil_of_le (by omega), idxFrom]
      have HS2 := Aside0.mk hs
      clear hs
      go_wp2
      go_ret
      exact ⟨by rw [HS2.out]; rfl, HW.out⟩

theorem idx_cases (p : S50 → Bool) (l : List S50) : (idxFrom p l 0 = -1 ∧ l.filter (fun x => !p x) = l) ∨ ∃ j, ∃ (hj : j < l.length), idxFrom p l 0 = (j : Int) ∧ (l.take j).filter (fun x => !p x) = l.take j ∧ p l[j] = true := by
  have key : ∀ (l : List S50) (i : Nat), (idxFrom p l i = -1 ∧ l.filter (fun x => !p x) = l) ∨ ∃ j, ∃ (hj : j < l.length), idxFrom p l i = ((i + j : Nat) : Int) ∧ (l.take j).filter (fun x => !p x) = l.take j ∧ p l[j] = true := by
    intro l
    induction l with
    | nil => intro i; exact .inl ⟨rfl, rfl⟩
    | cons x l ih =>
      intro i
      by_cases hp : p x = true
      · exact .inr ⟨0, by simp, by rw [idxFrom, if_pos hp]; rfl, rfl, hp⟩
      · have hp' : p x = false := by simpa using hp
        rcases ih (i + 1) with ⟨h1, h2⟩ | ⟨j, hj, a1, a3, a4⟩
        · exact .inl ⟨by rw [idxFrom, if_neg hp]; exact h1, by rw [List.filter_cons_of_pos (by simp [hp']), h2]⟩
        · exact .inr ⟨j + 1, by simpa using hj, by rw [idxFrom, if_neg hp, a1]; omega, by rw [List.take_succ_cons, List.filter_cons_of_pos (by simp [hp']), a3], by simpa using a4⟩
  rcases key l 0 with h | ⟨j, hj, h1, h2, h3⟩
  · exact .inl h
  · exact .inr ⟨j, hj, by rw [h1, Nat.zero_add], h2, h3⟩
set_option maxRecDepth 100000 in
set_option maxHeartbeats 8000000 in
theorem api_Retained_58.own (f : ByteArray) (b : Nat) (v : Value) (l : List S50) (w0 w : World) (hR : k50.R 50 w w0.heap.size (fun _ => True) v l) (hB : Below w0.heap.size w0 w) (hf : w0.heap[b]? = some (.cells #[.string f] 9 (0, 0))) (hT : Tabs w0) :
    Calls Tryd.prog 58 #[v, .func (.func 59) #[] #[.pointer (some ⟨b, 0, none⟩)]] w fun e w' => ∃ v0_ : Value, e = .returned (v0_) ∧ Kd.R k50 50 w' w0.heap.size (fun _ => True) v0_ (l.filter (fun x => matchS f x.f0)) ∧ Below w0.heap.size w0 w' := by
  have eq : (fun x : S50 => !(fun x : S50 => !matchS f x.f0) x) = fun x => matchS f x.f0 := by funext x; simp
  have HF := Aside0.mk hf
  have HT := Aside0.mk hT
  have HB := Aside0.mk hB
  have HR := Aside0.mk hR
  obtain ⟨A, c, hv, hlc, hC⟩ := Kd.R_reads hR
  have HCC := Aside0.mk hC
  have HLC := Aside0.mk hlc
  rcases idx_cases (fun x => !matchS f x.f0) l with ⟨h1, h2⟩ | ⟨q, hq, h1, h2, h3⟩
  · rw [eq] at h2
    subst hv
    have H1 := Aside0.mk h1
    have H2 := Aside0.mk h2
    clear hR hB hf hT hC hlc h1 h2
    go_enter Tryd.func58, Tryd.ntmps58
    go_wp2_with (first | (go_at_call 68; (with_reducible refine (api_Retained_68.calls f b A c l w0 _ HCC.out HLC.out HB.out HF.out HT.out).mono ?_); rintro _ w2 ⟨rfl, hb⟩; rw [H1.out]; have HB2 := Aside0.mk hb; clear hb))
    go_ret
    exact ⟨_, rfl, by rw [H2.out]; exact Kd.R_below HR.out HB2.out, below_then HB.out HB.out.size HB2.out⟩
  · rw [eq] at h2
    rcases Raw.R_cases hR with ⟨_, h0⟩ | ⟨g, c', hv'⟩
    · rw [h0] at hq; exact absurd hq (by simp)
    rw [hv'] at hv
    injection hv with hA _ hc
    obtain rfl : c = c' := hc.symm
    subst hA; subst hv'
    have h68 := api_Retained_68.calls f b (some ⟨g, 0, none⟩) c l w0 w HCC.out HLC.out HB.out HF.out HT.out
    rw [h1] at h68
    obtain ⟨n, hn⟩ : ∃ n, n = l.length := ⟨_, rfl⟩
    obtain ⟨cur0, hb0, -, -, -, hcm, -, -, -⟩ := Raw.R_open hR
    have hc63 : c ≤ 9223372036854775807 := by unfold maxLen at hcm; omega
    have hnc : n ≤ c := by rw [hn]; exact hlc
    have hqn : q < n := by rw [hn]; exact hq
    have hstart : l.take q = (l.take (q + 1)).filter (fun x => matchS f x.f0) := by
      rw [List.take_succ_eq_append_getElem hq, List.filter_append, h2]
      have : ([l[q]].filter fun x => matchS f x.f0) = [] := by
        rw [List.filter_cons_of_neg (by simpa using h3)]; rfl
      rw [this, List.append_nil]
    have HN := Aside0.mk hn
    have H1 := Aside0.mk h1
    have HST := Aside0.mk hstart
    rw [← hn] at hR hC hlc h68 ⊢
    have HR := Aside0.mk hR
    have H68 := Aside0.mk h68
    clear h68
    clear hR hB hf hT hC hlc h1 h2 h3 hstart hn hq hcm
    have q0 : IntKind.i64.wrap ((q : Int) + 1) = (q : Int) + 1 := by rw [IntKind.wrap_i64]; omega
    have p0 : ((q : Int) == -1) = false := by rw [beq_eq_false_iff_ne]; omega
    go_enter Tryd.func58, Tryd.ntmps58
    go_wp2_with (first | (go_at_call 68; (with_reducible refine H68.out.mono ?_); rintro _ w2 ⟨rfl, hb⟩; have HB2 := Aside0.mk hb; clear hb))
    go_loopw [5, 6, 7] (fun v5 v6 _ w' => ∃ (i j : Nat) (xs : List S50), v5 = .int .i64 i ∧ v6 = .int .i64 j ∧ i < j ∧ j ≤ n ∧ Aside0 (xs.length = n) ∧ Aside0 (xs.take i = (l.take j).filter (fun x => matchS f x.f0)) ∧ Aside0 (xs.drop j = l.drop j) ∧ Aside0 (Kd.R k50 50 w' w0.heap.size (fun _ => True) (.slice (some ⟨g, 0, none⟩) n c) xs) ∧ Aside0 (Below w0.heap.size w0 w')) (fun _ v6 _ _ => n - (intOf v6).toNat)
    case atStart => exact ⟨q, q + 1, l, rfl, by go_num, by omega, by omega, ⟨HN.out.symm⟩, HST, ⟨rfl⟩, ⟨Kd.R_below HR.out HB2.out⟩, ⟨below_then HB.out HB.out.size HB2.out⟩⟩
    case round =>
      rename_i wr _
      obtain ⟨i, j, xs, rfl, rfl, hij, hj, HXL, HXT, HXD, HXR, HXB⟩ := hrel
      have hxl := HXL.out
      by_cases hlt : j < n
      · have p2 : (0 : Int) ≤ (j : Int) := by omega
        have p3 : (j : Int) < (n : Int) := by omega
        have q1 : IntKind.i64.wrap ((j : Int) + 1) = (j : Int) + 1 := by rw [IntKind.wrap_i64]; omega
        have q2 : IntKind.i64.wrap ((i : Int) + 1) = (i : Int) + 1 := by rw [IntKind.wrap_i64]; omega
        have p4 : (0 : Int) ≤ (i : Int) := by omega
        have p5 : (i : Int) < (n : Int) := by omega
        obtain ⟨ad, e0, hx0, hx1, hx2, hx3⟩ := at_T50 (Kd.R_reads' HXR.out).2.2 (j : Int) p2 (by rw [hxl]; exact p3)
        obtain rfl : (⟨g, 0, none⟩ : Addr) = ad := Option.some.inj e0
        simp only [Int.toNat_natCast, add_at, Nat.zero_add] at hx0 hx1 hx2 hx3
        have hxj : rd_T50 xs (j : Int) = l[j]'(by rw [← HN.out]; exact hlt) := by
          rw [rd50_at0 xs j (by omega)]
          have h1 : xs.drop j = xs[j]'(by omega) :: xs.drop (j + 1) := List.drop_eq_getElem_cons (by omega)
          have h2 : l.drop j = l[j]'(by rw [← HN.out]; exact hlt) :: l.drop (j + 1) := List.drop_eq_getElem_cons (by rw [← HN.out]; exact hlt)
          have h3 := HXD.out
          rw [h1, h2] at h3
          injection h3
        have hdj : xs.drop (j + 1) = l.drop (j + 1) := by
          have h3 := HXD.out
          have := congrArg (List.drop 1) h3
          simpa [List.drop_drop, Nat.add_comm] using this
        have hfil : ∀ bo : Bool, matchS f (rd_T50 xs (j : Int)).f0 = bo → (l.take (j + 1)).filter (fun x => matchS f x.f0) = xs.take i ++ (if bo = true then [rd_T50 xs (j : Int)] else []) := by
          intro bo hbo
          rw [List.take_succ_eq_append_getElem (by rw [← HN.out]; exact hlt), List.filter_append, ← HXT.out, ← hxj]
          congr 1
          cases bo with
          | true => rw [List.filter_cons_of_pos (by simpa using hbo)]; rfl
          | false => rw [List.filter_cons_of_neg (by simpa using hbo)]; rfl
        have HDJ := Aside0.mk hdj
        have HFI := Aside0.mk hfil
        have HFW : Aside0 (wr.heap[b]? = some (.cells #[.string f] 9 (0, 0))) := ⟨by rw [HXB.out.block b (blk_lt HF.out)]; exact HF.out⟩
        have HTW : Aside0 (Tabs wr) := ⟨Tabs_below HT.out HXB.out⟩
        obtain ⟨x, hxe⟩ : ∃ x, x = rd_T50 xs (j : Int) := ⟨_, rfl⟩
        rw [← hxe] at hx0 hx1 hx2 hx3
        have HXE := Aside0.mk hxe
        clear hxj hdj hfil hxe
        by_cases hm : matchS f x.f0 = true
        · have hm' : (!matchS f x.f0) = false := by rw [hm]; rfl
          have HMM := Aside0.mk hm
          clear hm
          go_wp2_with (first | (go_at_call 59; (with_reducible refine (stay_For_1.calls x f b _ ?s1 ?s2).mono ?_); (case s1 => exact (heap_alloc_old wr _ (blk_lt HFW.out)).trans HFW.out); (case s2 => exact Tabs_below HTW.out (below_alloc (Below.refl _ _) _)); rintro _ w3 ⟨rfl, hb⟩; have HB3 := Aside0.mk (below_then (below_alloc (Below.refl _ wr) _) (below_alloc (Below.refl _ wr) (.cells #[.string x.f0, .string x.f1, .int .i64 x.f2, .int .i64 x.f3] 50)).size hb); have HG3 := Aside0.mk ((hb.block _ (alloc_lt wr _)).trans (heap_alloc_new wr (.cells #[.string x.f0, .string x.f1, .int .i64 x.f2, .int .i64 x.f3] 50))); clear hb; have HX3 := Aside0.mk (Kd.R_below HXR.out HB3.out); obtain ⟨g30, g31, g32, g33⟩ := box50_cells x HG3.out) | ((with_reducible refine gate_store (t := 50) (p := 33) (v := .tmp 32) rfl ?_); obtain ⟨cu, hcl, -, hcc, hfz⟩ := Kd.R_elem HX3.out z50 (i : Int) (Int.natCast_nonneg i) (by omega); go_loud (refine Kd.R_store k50 (w0 := w3) w0.heap.size rfl rfl 50 (.tmp 33) (.tmp 32) rfl 50 (o' := i * 4) (i : Int) 0 xs x (.agg #[.string x.f0, .string x.f1, .int .i64 x.f2, .int .i64 x.f3]) [.string x.f0, .string x.f1, .int .i64 x.f2, .int .i64 x.f3] cu (fun _ => True) (fun _ => False) rfl ?q1 rfl rfl ?q2 ?q3 HX3.out ?q4 ?q5 hcl hcc ?q6 ?q7 (fun _ hk => hk.elim) (Below.refl _ _) ?_); (go_loud (case q1 => simp; rfl)); (go_loud (case q2 => kernel_rfl)); (go_loud (case q3 => intro q hq; simp at hq; rcases hq with rfl | rfl | rfl | rfl <;> rfl)); (go_loud (case q4 => omega)); (go_loud (case q5 => omega)); (go_loud (case q6 => show 0 + 4 ≤ 4; omega)); (go_loud (case q7 => exact k50_mkM_of hcl)); intro w6 hr hb _; have HY := Aside0.mk hr; have HB6 := Aside0.mk hb; clear hr hb))
          go_roundw
          case rel =>
            refine ⟨i + 1, j + 1, xs.set i x, by go_num, by go_num, by omega, by omega, ⟨by rw [List.length_set]; exact HXL.out⟩, ⟨?_⟩, ⟨?_⟩, ⟨by simpa using HY.out⟩, ⟨?_⟩⟩
            · have hx := HXE.out
              have := HFI.out true (by rw [← hx]; exact HMM.out)
              rw [if_pos rfl, ← hx] at this
              rw [this, List.take_succ_eq_append_getElem (by rw [List.length_set]; omega), List.getElem_set_self]
              congr 1
              rw [List.take_set_of_le (Nat.le_refl _)]
            · rw [List.drop_set_of_lt (by omega)]; exact HDJ.out
            · exact (below_then HXB.out HXB.out.size HB3.out).trans HB6.out
          case measure => simp [intOf]; omega
        · have hm' : (!matchS f x.f0) = true := by simpa using hm
          have HMM := Aside0.mk hm
          clear hm
          go_wp2_with (first | (go_at_call 59; (with_reducible refine (stay_For_1.calls x f b _ ?s1 ?s2).mono ?_); (case s1 => exact (heap_alloc_old wr _ (blk_lt HFW.out)).trans HFW.out); (case s2 => exact Tabs_below HTW.out (below_alloc (Below.refl _ _) _)); rintro _ w3 ⟨rfl, hb⟩; have HB3 := Aside0.mk (below_then (below_alloc (Below.refl _ wr) _) (below_alloc (Below.refl _ wr) (.cells #[.string x.f0, .string x.f1, .int .i64 x.f2, .int .i64 x.f3] 50)).size hb); clear hb; have HX3 := Aside0.mk (Kd.R_below HXR.out HB3.out)))
          go_roundw
          case rel =>
            refine ⟨i, j + 1, xs, rfl, by go_num, by omega, by omega, HXL, ⟨?_⟩, HDJ, HX3, ⟨below_then HXB.out HXB.out.size HB3.out⟩⟩
            have hx := HXE.out
            have := HFI.out false (by rw [← hx]; simpa using HMM.out)
            rw [if_neg (by decide), List.append_nil] at this
            exact this.symm
          case measure => simp [intOf]; omega
      · obtain rfl : j = n := by omega
        obtain ⟨cur, hbg, -, -, -, -, hgb, hcs, -⟩ := Raw.R_open HXR.out
        have hT2 := Kd.R_take HXR.out (m := i) (by omega)
        have hzl : ((Builtin.zeroCells zv50.cells (j - i)).toList).length = (j - i) * 4 := by rw [Array.length_toList, size_zeroCells]; rfl
        have hij4 : i * 4 + (j - i) * 4 ≤ c * 4 := by omega
        have hcs4 : cur.length = c * 4 := hcs
        have hclr : ∀ ty cc, (Builtin.clear_ #[41] ty #[.slice (some ⟨g, i * 4, none⟩) (j - i) cc]).run Tryd.prog wr = .ok (.tuple #[]) (wr.setRow g (Raw.put cur (i * 4) (Builtin.zeroCells zv50.cells (j - i)).toList).toArray) := fun ty cc =>
          Raw.run_clear wr 41 50 ty zv50 g (i * 4) (j - i) cc cur Tryd.underlying41 (by kernel_rfl) (by omega) hgb (by rw [hcs4]; exact hij4) (by decide)
        have hlast : k50.R 50 (wr.setRow g (Raw.put cur (i * 4) (Builtin.zeroCells zv50.cells (j - i)).toList).toArray) w0.heap.size (fun _ => True) (.slice (some ⟨g, 0, none⟩) i c) (xs.take i) :=
          Raw.R_tail hT2 hgb (Raw.put_len _ _ _ (by rw [hcs4, hzl]; exact hij4)) (by
            unfold Raw.put
            show List.take (i * 4) _ = List.take (i * 4) _
            rw [List.append_assoc, List.take_left' (by rw [List.length_take, hcs4]; omega)])
        have hbl : Below w0.heap.size w0 (wr.setRow g (Raw.put cur (i * 4) (Builtin.zeroCells zv50.cells (j - i)).toList).toArray) := Raw.below_setRow HXB.out hbg _
        have hres : xs.take i = l.filter (fun x => matchS f x.f0) := by
          have := HXT.out
          rw [HN.out, List.take_length] at this
          exact this
        rw [hres] at hlast
        have HL := Aside0.mk hlast
        have HBL := Aside0.mk hbl
        have HC := Aside0.mk hclr
        have p3 : ¬ ((j : Int) < (j : Int)) := by omega
        have p4 : (0 : Int) ≤ (i : Int) := by omega
        have p5 : (i : Int) ≤ (j : Int) := by omega
        have p6 : ¬ (c = i) := by omega
        have p7 : (i : Int) ≤ (c : Int) := by omega
        generalize wr.setRow g (Raw.put cur (i * 4) (Builtin.zeroCells zv50.cells (j - i)).toList).toArray = w9 at *
        clear hlast hbl hclr hT2 hgb hcs hres hzl hij4 hcs4
        go_wp2_with (first | ((with_reducible refine gate_builtin (b := .clear) (xs := #[.tmp 38]) rfl ?_); go_loud (refine Raw.wpList_clear rfl (.tmp 38) 41 rfl _ rfl (HC.out _ _) ?_)))
        go_ret
        exact ⟨_, rfl, HL.out, HBL.out⟩

def stay_For.f (l : List S50) (a1 : ByteArray) : Option (List S50 × Int) :=
  if l.length ≤ 1000000 then (stay_Check.f 20 l).bind fun e => if e = 0 then (name_Filter.f 30 a1).bind fun q => if q = 0 then some (l.filter (fun x => matchS a1 x.f0), 0) else some ([], 1) else some ([], 1) else none
set_option maxRecDepth 100000 in
set_option maxHeartbeats 8000000 in
theorem stay_For.calls (A0 : Option Addr) (c0 : Nat) (l0 : List S50) (a1 : ByteArray) (r1 : List S50) (r2 : Int) (w : World) (hr0 : Kd.C k50 w A0 l0.length l0) (hc0 : l0.length ≤ c0) (h : stay_For.f l0 a1 = some (r1, r2)) (hT : Tabs w) :
    Calls Tryd.prog 35 #[.slice A0 l0.length c0, .string a1] w fun e w' => ∃ v0_ : Value, e = .returned (.tuple #[v0_, .int .i64 r2]) ∧ Kd.R k50 50 w' w.heap.size (fun _ => True) v0_ r1 ∧ Below w.heap.size w w' := by
  unfold stay_For.f at h
  by_cases hl : l0.length ≤ 1000000
  · rw [if_pos hl] at h
    obtain ⟨e, he, h⟩ := Option.bind_eq_some_iff.1 h
    have HR := Aside0.mk hr0
    have HC := Aside0.mk hc0
    have HT := Aside0.mk hT
    have HE := Aside0.mk he
    have HL := Aside0.mk hl
    clear hr0 hc0 hT he hl
    by_cases h0 : e = 0
    · subst h0
      rw [if_pos rfl] at h
      obtain ⟨q, hm, h⟩ := Option.bind_eq_some_iff.1 h
      have HM := Aside0.mk hm
      clear hm
      by_cases hq : q = 0
      · subst hq
        rw [if_pos rfl] at h
        have h' := Option.some.inj h
        obtain rfl : l0.filter (fun x => matchS a1 x.f0) = r1 := congrArg Prod.fst h'
        obtain rfl : 0 = r2 := congrArg Prod.snd h'
        clear h h'
        have HCL : Aside0 (api_Retained_54.f l0 = some l0) := ⟨by have := HL.out; unfold api_Retained_54.f; rw [if_pos (by omega)]⟩
        go_enter Tryd.func35, Tryd.ntmps35
        go_wp2_with (first | (go_at_call 32; (with_reducible refine (stay_Check.calls 20 A0 c0 l0 0 _ ?s1 ?s2 HE.out ?s3).mono ?_); (case s1 => exact Kd.C_below HR.out (below_alloc (Below.refl _ _) _)); (case s2 => exact HC.out); (case s3 => exact Tabs_below HT.out (below_alloc (Below.refl _ _) _)); rintro _ w2 ⟨rfl, hb⟩; have HB2 := Aside0.mk (below_then (below_alloc (Below.refl _ w) _) (below_alloc (Below.refl _ w) (.cells #[.string a1] 9)).size hb); have HG2 := Aside0.mk ((hb.block _ (alloc_lt w _)).trans (heap_alloc_new w (.cells #[.string a1] 9))); clear hb; have g20 : w2.cell? ⟨w.heap.size, 0, none⟩ = some (.string a1) := by rw [cell_of_row w2 _ 0 _ 9 (0, 0) HG2.out]; rfl) | (go_at_call 17; (with_reducible refine (name_Filter.calls 30 a1 0 _ HM.out ?s3).mono ?_); (case s3 => exact Tabs_below HT.out HB2.out); rintro _ w3 ⟨rfl, hb⟩; have HB3 := Aside0.mk (below_then HB2.out HB2.out.size hb); have HG3 := Aside0.mk (box_below HG2.out hb); clear hb; have HT3 := Aside0.mk (Tabs_below HT.out HB3.out)) | (go_at_call 54; (with_reducible refine (api_Retained_54.calls A0 c0 l0 l0 _ ?s1 ?s2 ?s4).mono ?_); (case s1 => exact Kd.C_below HR.out HB3.out); (case s2 => exact HC.out); (case s4 => exact HCL.out); rintro _ w5 ⟨x, rfl, hr, hb⟩; have HX := Aside0.mk hr; have HB35 := Aside0.mk hb; clear hr hb) | (go_at_call 58; (with_reducible refine (api_Retained_58.own a1 w.heap.size x l0 w3 _ HX.out HB35.out HG3.out HT3.out).mono ?_); rintro _ w6 ⟨y, rfl, hr, hb⟩; have HY := Aside0.mk hr; have HB36 := Aside0.mk hb; clear hr hb))
        go_ret2
        exact ⟨_, rfl, Kd.R_lower HY.out HB3.out.size, below_then HB3.out HB3.out.size HB36.out⟩
      · rw [if_neg hq] at h
        have h' := Option.some.inj h
        obtain rfl : [] = r1 := congrArg Prod.fst h'
        obtain rfl : 1 = r2 := congrArg Prod.snd h'
        have b0 : (q != 0) = true := bne_iff_ne.mpr hq
        have b1 : (q == 0) = false := beq_eq_false_iff_ne.mpr hq
        clear h h' hq
        go_enter Tryd.func35, Tryd.ntmps35
        go_wp2_with (first | (go_at_call 32; (with_reducible refine (stay_Check.calls 20 A0 c0 l0 0 _ ?s1 ?s2 HE.out ?s3).mono ?_); (case s1 => exact Kd.C_below HR.out (below_alloc (Below.refl _ _) _)); (case s2 => exact HC.out); (case s3 => exact Tabs_below HT.out (below_alloc (Below.refl _ _) _)); rintro _ w2 ⟨rfl, hb⟩; have HB2 := Aside0.mk (below_then (below_alloc (Below.refl _ w) _) (below_alloc (Below.refl _ w) (.cells #[.string a1] 9)).size hb); have HG2 := Aside0.mk ((hb.block _ (alloc_lt w _)).trans (heap_alloc_new w (.cells #[.string a1] 9))); clear hb; have g20 : w2.cell? ⟨w.heap.size, 0, none⟩ = some (.string a1) := by rw [cell_of_row w2 _ 0 _ 9 (0, 0) HG2.out]; rfl) | (go_at_call 17; (with_reducible refine (name_Filter.calls 30 a1 q _ HM.out ?s3).mono ?_); (case s3 => exact Tabs_below HT.out HB2.out); rintro _ w3 ⟨rfl, hb⟩; have HB3 := Aside0.mk (below_then HB2.out HB2.out.size hb); have HG3 := Aside0.mk (box_below HG2.out hb); clear hb; have HT3 := Aside0.mk (Tabs_below HT.out HB3.out)))
        go_ret2
        exact ⟨_, rfl, Kd.R_nil _ _ _ _ _, HB3.out⟩
    · rw [if_neg h0] at h
      have h' := Option.some.inj h
      obtain rfl : [] = r1 := congrArg Prod.fst h'
      obtain rfl : 1 = r2 := congrArg Prod.snd h'
      have b0 : (e != 0) = true := bne_iff_ne.mpr h0
      have b1 : (e == 0) = false := beq_eq_false_iff_ne.mpr h0
      clear h h' h0
      go_enter Tryd.func35, Tryd.ntmps35
      go_wp2_with (first | (go_at_call 32; (with_reducible refine (stay_Check.calls 20 A0 c0 l0 e _ ?s1 ?s2 HE.out ?s3).mono ?_); (case s1 => exact Kd.C_below HR.out (below_alloc (Below.refl _ _) _)); (case s2 => exact HC.out); (case s3 => exact Tabs_below HT.out (below_alloc (Below.refl _ _) _)); rintro _ w2 ⟨rfl, hb⟩; have HB2 := Aside0.mk (below_then (below_alloc (Below.refl _ w) _) (below_alloc (Below.refl _ w) (.cells #[.string a1] 9)).size hb); have HG2 := Aside0.mk ((hb.block _ (alloc_lt w _)).trans (heap_alloc_new w (.cells #[.string a1] 9))); clear hb; have g20 : w2.cell? ⟨w.heap.size, 0, none⟩ = some (.string a1) := by rw [cell_of_row w2 _ 0 _ 9 (0, 0) HG2.out]; rfl))
      go_ret2
      exact ⟨_, rfl, Kd.R_nil _ _ _ _ _, HB2.out⟩
  · rw [if_neg hl] at h
    cases h
end Go.Proofs.YtnaeffgkdoanfaaDoor.P
