/- By hand, in the printed form: stay.Put. -/
import Derived.Test.YtnaeffgkdoanfaaDoorP6
import Derived.Test.YtnaeffgkdoanfaaDoorHClone
import Derived.Test.YtnaeffgkdoanfaaDoorHSearch
import Derived.Test.YtnaeffgkdoanfaaDoorHDelete
import Derived.Test.YtnaeffgkdoanfaaDoorHInsert
import Derived.Test.YtnaeffgkdoanfaaDoorHTabs
namespace Go.Proofs.YtnaeffgkdoanfaaDoor.P
open Go.RowKit Go.Proofs.YtnaeffgkdoanfaaDoorW.PrintWords Go.Proofs.YtnaeffgkdoanfaaDoorW.PrintLast Go.Proofs.YtnaeffgkdoanfaaDoorW.PrintMore
open Go.Proofs.YtnaeffgkdoanfaaDoor
set_option linter.unusedSimpArgs false
set_option linter.unusedVariables false
theorem box50_cells {W : World} {b : Nat} (x : S50) (h : W.heap[b]? = some (.cells #[.string x.f0, .string x.f1, .int .i64 x.f2, .int .i64 x.f3] 50 (0, 0))) :
    W.cell? ⟨b, 0, none⟩ = some (.string x.f0) ∧ W.cell? ⟨b, 1, none⟩ = some (.string x.f1) ∧ W.cell? ⟨b, 2, none⟩ = some (.int .i64 x.f2) ∧ W.cell? ⟨b, 3, none⟩ = some (.int .i64 x.f3) :=
  ⟨by rw [cell_of_row W _ 0 _ 50 (0, 0) h]; rfl, by rw [cell_of_row W _ 1 _ 50 (0, 0) h]; rfl, by rw [cell_of_row W _ 2 _ 50 (0, 0) h]; rfl, by rw [cell_of_row W _ 3 _ 50 (0, 0) h]; rfl⟩
theorem box_below {W W' : World} {b : Nat} {o : Obj} (h : W.heap[b]? = some o) (hb : Below W.heap.size W W') : W'.heap[b]? = some o := (hb.block b (blk_lt h)).trans h
theorem alloc_lt (w : World) (o : Obj) : w.heap.size < (w.alloc o).heap.size := blk_lt (heap_alloc_new w o)
theorem row_some {e base : Nat} {W : World} {ok : Nat → Prop} {v : Value} {xs : List S50} {i : Nat} (h : k50.R e W base ok v xs) (hi : i < xs.length) : ∃ g c, v = .slice (some ⟨g, 0, none⟩) xs.length c := by
  rcases Raw.R_cases h with ⟨_, h0⟩ | h0
  · rw [h0] at hi; exact absurd hi (by simp)
  · exact h0
theorem k50_mkM_of {W : World} {base : Nat} {okp : Nat → Prop} {x : S50} {c : List Value} (hc : c.length = k50.sz) : k50.M W base okp x (c.take 0 ++ [.string x.f0, .string x.f1, .int .i64 x.f2, .int .i64 x.f3] ++ c.drop (0 + 4)) := by
  have h4 : c.length = 4 := hc
  rw [List.take_zero, List.nil_append, List.drop_eq_nil_of_le (by omega), List.append_nil]
  exact k50_mkM _ _ _ x
def putS (l : List S50) (r : S50) : List S50 × Int :=
  if r.f1.toList = [] then (if foundS l r.f0 (searchR l r.f0 l.length 0 l.length) = true then (l.eraseIdx (searchR l r.f0 l.length 0 l.length), 0) else (l, 0))
  else if foundS l r.f0 (searchR l r.f0 l.length 0 l.length) = true then (l.set (searchR l r.f0 l.length 0 l.length) r, 0)
  else if 12 ≤ l.length then ([], 5) else (l.take (searchR l r.f0 l.length 0 l.length) ++ r :: l.drop (searchR l r.f0 l.length 0 l.length), 0)
def stay_Put.f (l : List S50) (a1_0 a1_1 : ByteArray) (a1_2 a1_3 : Int) : Option (List S50 × Int) :=
  if l.length ≤ 1000000 then (stay_Check.f 20 l).bind fun e => if e = 0 then (stay_may.f a1_0 a1_1 a1_2 a1_3).bind fun ok => if ok = true then some (putS l ⟨a1_0, a1_1, a1_2, a1_3⟩) else some ([], 1) else some ([], 1) else none
set_option maxRecDepth 100000 in
set_option maxHeartbeats 8000000 in
theorem stay_Put.calls (A0 : Option Addr) (c0 : Nat) (l0 : List S50) (a1_0 : ByteArray) (a1_1 : ByteArray) (a1_2 : Int) (a1_3 : Int) (r1 : List S50) (r2 : Int) (w : World) (hr0 : Kd.C k50 w A0 l0.length l0) (hc0 : l0.length ≤ c0) (h : stay_Put.f l0 a1_0 a1_1 a1_2 a1_3 = some (r1, r2)) (hT : Tabs w) :
    Calls Tryd.prog 28 #[.slice A0 l0.length c0, .agg #[.string a1_0, .string a1_1, .int .i64 a1_2, .int .i64 a1_3]] w fun e w' => ∃ v0_ : Value, e = .returned (.tuple #[v0_, .int .i64 r2]) ∧ Kd.R k50 50 w' w.heap.size (fun _ => True) v0_ r1 ∧ Below w.heap.size w w' := by
  unfold stay_Put.f at h
  by_cases hl : l0.length ≤ 1000000
  · rw [if_pos hl] at h
    obtain ⟨e, he, h⟩ := Option.bind_eq_some_iff.1 h
    have HR := Aside0.mk hr0
    have HC := Aside0.mk hc0
    have HT := Aside0.mk hT
    have HE := Aside0.mk he
    have HL := Aside0.mk hl
    clear hr0 hc0 hT he hl
    by_cases h0 : e = 0
    · subst h0
      rw [if_pos rfl] at h
      obtain ⟨ok, hm, h⟩ := Option.bind_eq_some_iff.1 h
      have HM := Aside0.mk hm
      clear hm
      cases ok with
      | false =>
        rw [if_neg (by decide)] at h
        have h' := Option.some.inj h
        obtain rfl : [] = r1 := congrArg Prod.fst h'
        obtain rfl : 1 = r2 := congrArg Prod.snd h'
        clear h h'
        go_enter Tryd.func28, Tryd.ntmps28
        go_wp2_with (first | (go_at_call 32; (with_reducible refine (stay_Check.calls 20 A0 c0 l0 0 _ ?s1 ?s2 HE.out ?s3).mono ?_); (case s1 => exact Kd.C_below HR.out (below_alloc (Below.refl _ _) _)); (case s2 => exact HC.out); (case s3 => exact Tabs_below HT.out (below_alloc (Below.refl _ _) _)); rintro _ w2 ⟨rfl, hb⟩; have HB2 := Aside0.mk (below_then (below_alloc (Below.refl _ w) _) (below_alloc (Below.refl _ w) (.cells #[.string a1_0, .string a1_1, .int .i64 a1_2, .int .i64 a1_3] 50)).size hb); have HG2 := Aside0.mk ((hb.block _ (alloc_lt w _)).trans (heap_alloc_new w (.cells #[.string a1_0, .string a1_1, .int .i64 a1_2, .int .i64 a1_3] 50))); clear hb; obtain ⟨g20, g21, g22, g23⟩ := box50_cells ⟨a1_0, a1_1, a1_2, a1_3⟩ HG2.out) | (go_at_call 50; (with_reducible refine (stay_may.calls a1_0 a1_1 a1_2 a1_3 false _ HM.out ?s3).mono ?_); (case s3 => exact Tabs_below HT.out HB2.out); rintro _ w3 ⟨rfl, hb⟩; have HB3 := Aside0.mk (below_then HB2.out HB2.out.size hb); have HG3 := Aside0.mk (box_below HG2.out hb); clear hb; obtain ⟨g30, g31, g32, g33⟩ := box50_cells ⟨a1_0, a1_1, a1_2, a1_3⟩ HG3.out))
        go_ret2
        exact ⟨_, rfl, Kd.R_nil _ _ _ _ _, HB3.out⟩
      | true =>
        rw [if_pos rfl] at h
        have h' := Option.some.inj h
        clear h
        obtain ⟨i, hi⟩ : ∃ i, i = searchR l0 a1_0 l0.length 0 l0.length := ⟨_, rfl⟩
        obtain ⟨th, hth⟩ : ∃ th, th = foundS l0 a1_0 i := ⟨_, rfl⟩
        have hin : i ≤ l0.length := by rw [hi]; exact (searchR_le l0 a1_0 l0.length 0 l0.length (Nat.zero_le _)).2
        have hs : api_Retained_51.f l0 a1_0 a1_1 a1_2 a1_3 = some ((i : Int), th) := by rw [hth, hi]; rfl
        unfold putS at h'
        simp only at h'
        rw [← hi, ← hth] at h'
        have hlt : th = true → i < l0.length := by
          intro e
          rw [hth] at e
          unfold foundS at e
          simp only [Bool.and_eq_true, decide_eq_true_eq] at e
          exact e.1
        have HCL : Aside0 (api_Retained_54.f l0 = some l0) := ⟨by have := HL.out; unfold api_Retained_54.f; rw [if_pos (by omega)]⟩
        have HS := Aside0.mk hs
        clear hs hi hth
        by_cases hb : a1_1.toList = []
        · rw [if_pos hb] at h'
          have bE : (a1_1.toList == ([] : List UInt8)) = true := beq_iff_eq.mpr hb
          clear hb
          cases th with
          | true =>
            rw [if_pos rfl] at h'
            obtain rfl : l0.eraseIdx i = r1 := congrArg Prod.fst h'
            obtain rfl : 0 = r2 := congrArg Prod.snd h'
            have HI := Aside0.mk (hlt rfl)
            have q1 : IntKind.i64.wrap ((i : Int) + 1) = (i : Int) + 1 := by have := HL.out; rw [IntKind.wrap_i64]; omega
            clear h' hlt hin
            go_enter Tryd.func28, Tryd.ntmps28
            go_wp2_with (first | (go_at_call 32; (with_reducible refine (stay_Check.calls 20 A0 c0 l0 0 _ ?s1 ?s2 HE.out ?s3).mono ?_); (case s1 => exact Kd.C_below HR.out (below_alloc (Below.refl _ _) _)); (case s2 => exact HC.out); (case s3 => exact Tabs_below HT.out (below_alloc (Below.refl _ _) _)); rintro _ w2 ⟨rfl, hb⟩; have HB2 := Aside0.mk (below_then (below_alloc (Below.refl _ w) _) (below_alloc (Below.refl _ w) (.cells #[.string a1_0, .string a1_1, .int .i64 a1_2, .int .i64 a1_3] 50)).size hb); have HG2 := Aside0.mk ((hb.block _ (alloc_lt w _)).trans (heap_alloc_new w (.cells #[.string a1_0, .string a1_1, .int .i64 a1_2, .int .i64 a1_3] 50))); clear hb; obtain ⟨g20, g21, g22, g23⟩ := box50_cells ⟨a1_0, a1_1, a1_2, a1_3⟩ HG2.out) | (go_at_call 50; (with_reducible refine (stay_may.calls a1_0 a1_1 a1_2 a1_3 true _ HM.out ?s3).mono ?_); (case s3 => exact Tabs_below HT.out HB2.out); rintro _ w3 ⟨rfl, hb⟩; have HB3 := Aside0.mk (below_then HB2.out HB2.out.size hb); have HG3 := Aside0.mk (box_below HG2.out hb); clear hb; obtain ⟨g30, g31, g32, g33⟩ := box50_cells ⟨a1_0, a1_1, a1_2, a1_3⟩ HG3.out) | (go_at_call 51; (with_reducible refine (api_Retained_51.calls A0 c0 l0 a1_0 a1_1 a1_2 a1_3 (i : Int) true _ ?s1 ?s2 ?s4 HS.out).mono ?_); (case s1 => exact Kd.C_below HR.out HB3.out); (case s2 => exact HC.out); (case s4 => have := HL.out; omega); rintro _ w4 ⟨rfl, hb⟩; have HB4 := Aside0.mk (below_then HB3.out HB3.out.size hb); have HG4 := Aside0.mk (box_below HG3.out hb); clear hb; obtain ⟨g40, g41, g42, g43⟩ := box50_cells ⟨a1_0, a1_1, a1_2, a1_3⟩ HG4.out) | (go_at_call 54; (with_reducible refine (api_Retained_54.calls A0 c0 l0 l0 _ ?s1 ?s2 ?s4).mono ?_); (case s1 => exact Kd.C_below HR.out HB4.out); (case s2 => exact HC.out); (case s4 => exact HCL.out); rintro _ w5 ⟨x, rfl, hr, hb⟩; have HX := Aside0.mk hr; have HS4 := Aside0.mk (blk_lt HG4.out); have HB5 := Aside0.mk (below_then HB4.out HB4.out.size hb); have HB45 := Aside0.mk hb; have HG5 := Aside0.mk (box_below HG4.out hb); clear hr hb; obtain ⟨g50, g51, g52, g53⟩ := box50_cells ⟨a1_0, a1_1, a1_2, a1_3⟩ HG5.out) | (go_at_call 55; (with_reducible refine (api_Retained_55.own w4.heap.size x l0 w5 w5 i HX.out (Below.refl _ _) HB45.out.size ?s1).mono ?_); (case s1 => exact HI.out); rintro _ w6 ⟨y, rfl, hr, hb⟩; have HY := Aside0.mk hr; have HB6 := Aside0.mk hb; clear hr hb))
            go_ret2
            exact ⟨_, rfl, Kd.R_lower HY.out HB4.out.size, below_then HB4.out HB4.out.size (HB45.out.trans HB6.out)⟩
          | false =>
            rw [if_neg (by decide)] at h'
            obtain rfl : l0 = r1 := congrArg Prod.fst h'
            obtain rfl : 0 = r2 := congrArg Prod.snd h'
            clear h' hlt hin
            go_enter Tryd.func28, Tryd.ntmps28
            go_wp2_with (first | (go_at_call 32; (with_reducible refine (stay_Check.calls 20 A0 c0 l0 0 _ ?s1 ?s2 HE.out ?s3).mono ?_); (case s1 => exact Kd.C_below HR.out (below_alloc (Below.refl _ _) _)); (case s2 => exact HC.out); (case s3 => exact Tabs_below HT.out (below_alloc (Below.refl _ _) _)); rintro _ w2 ⟨rfl, hb⟩; have HB2 := Aside0.mk (below_then (below_alloc (Below.refl _ w) _) (below_alloc (Below.refl _ w) (.cells #[.string a1_0, .string a1_1, .int .i64 a1_2, .int .i64 a1_3] 50)).size hb); have HG2 := Aside0.mk ((hb.block _ (alloc_lt w _)).trans (heap_alloc_new w (.cells #[.string a1_0, .string a1_1, .int .i64 a1_2, .int .i64 a1_3] 50))); clear hb; obtain ⟨g20, g21, g22, g23⟩ := box50_cells ⟨a1_0, a1_1, a1_2, a1_3⟩ HG2.out) | (go_at_call 50; (with_reducible refine (stay_may.calls a1_0 a1_1 a1_2 a1_3 true _ HM.out ?s3).mono ?_); (case s3 => exact Tabs_below HT.out HB2.out); rintro _ w3 ⟨rfl, hb⟩; have HB3 := Aside0.mk (below_then HB2.out HB2.out.size hb); have HG3 := Aside0.mk (box_below HG2.out hb); clear hb; obtain ⟨g30, g31, g32, g33⟩ := box50_cells ⟨a1_0, a1_1, a1_2, a1_3⟩ HG3.out) | (go_at_call 51; (with_reducible refine (api_Retained_51.calls A0 c0 l0 a1_0 a1_1 a1_2 a1_3 (i : Int) false _ ?s1 ?s2 ?s4 HS.out).mono ?_); (case s1 => exact Kd.C_below HR.out HB3.out); (case s2 => exact HC.out); (case s4 => have := HL.out; omega); rintro _ w4 ⟨rfl, hb⟩; have HB4 := Aside0.mk (below_then HB3.out HB3.out.size hb); have HG4 := Aside0.mk (box_below HG3.out hb); clear hb; obtain ⟨g40, g41, g42, g43⟩ := box50_cells ⟨a1_0, a1_1, a1_2, a1_3⟩ HG4.out) | (go_at_call 54; (with_reducible refine (api_Retained_54.calls A0 c0 l0 l0 _ ?s1 ?s2 ?s4).mono ?_); (case s1 => exact Kd.C_below HR.out HB4.out); (case s2 => exact HC.out); (case s4 => exact HCL.out); rintro _ w5 ⟨x, rfl, hr, hb⟩; have HX := Aside0.mk hr; have HS4 := Aside0.mk (blk_lt HG4.out); have HB5 := Aside0.mk (below_then HB4.out HB4.out.size hb); have HB45 := Aside0.mk hb; have HG5 := Aside0.mk (box_below HG4.out hb); clear hr hb; obtain ⟨g50, g51, g52, g53⟩ := box50_cells ⟨a1_0, a1_1, a1_2, a1_3⟩ HG5.out))
            go_ret2
            exact ⟨_, rfl, Kd.R_lower HX.out HB4.out.size, HB5.out⟩
        · rw [if_neg hb] at h'
          have bE : (a1_1.toList == ([] : List UInt8)) = false := beq_eq_false_iff_ne.mpr hb
          have bE2 : a1_1.toList.isEmpty = false := List.isEmpty_eq_false_iff.mpr hb
          clear hb
          cases th with
          | true =>
            rw [if_pos rfl] at h'
            obtain rfl : l0.set i ⟨a1_0, a1_1, a1_2, a1_3⟩ = r1 := congrArg Prod.fst h'
            obtain rfl : 0 = r2 := congrArg Prod.snd h'
            have HI := Aside0.mk (hlt rfl)
            clear h' hlt hin
            go_enter Tryd.func28, Tryd.ntmps28
            go_wp2_with (first | (go_at_call 32; (with_reducible refine (stay_Check.calls 20 A0 c0 l0 0 _ ?s1 ?s2 HE.out ?s3).mono ?_); (case s1 => exact Kd.C_below HR.out (below_alloc (Below.refl _ _) _)); (case s2 => exact HC.out); (case s3 => exact Tabs_below HT.out (below_alloc (Below.refl _ _) _)); rintro _ w2 ⟨rfl, hb⟩; have HB2 := Aside0.mk (below_then (below_alloc (Below.refl _ w) _) (below_alloc (Below.refl _ w) (.cells #[.string a1_0, .string a1_1, .int .i64 a1_2, .int .i64 a1_3] 50)).size hb); have HG2 := Aside0.mk ((hb.block _ (alloc_lt w _)).trans (heap_alloc_new w (.cells #[.string a1_0, .string a1_1, .int .i64 a1_2, .int .i64 a1_3] 50))); clear hb; obtain ⟨g20, g21, g22, g23⟩ := box50_cells ⟨a1_0, a1_1, a1_2, a1_3⟩ HG2.out) | (go_at_call 50; (with_reducible refine (stay_may.calls a1_0 a1_1 a1_2 a1_3 true _ HM.out ?s3).mono ?_); (case s3 => exact Tabs_below HT.out HB2.out); rintro _ w3 ⟨rfl, hb⟩; have HB3 := Aside0.mk (below_then HB2.out HB2.out.size hb); have HG3 := Aside0.mk (box_below HG2.out hb); clear hb; obtain ⟨g30, g31, g32, g33⟩ := box50_cells ⟨a1_0, a1_1, a1_2, a1_3⟩ HG3.out) | (go_at_call 51; (with_reducible refine (api_Retained_51.calls A0 c0 l0 a1_0 a1_1 a1_2 a1_3 (i : Int) true _ ?s1 ?s2 ?s4 HS.out).mono ?_); (case s1 => exact Kd.C_below HR.out HB3.out); (case s2 => exact HC.out); (case s4 => have := HL.out; omega); rintro _ w4 ⟨rfl, hb⟩; have HB4 := Aside0.mk (below_then HB3.out HB3.out.size hb); have HG4 := Aside0.mk (box_below HG3.out hb); clear hb; obtain ⟨g40, g41, g42, g43⟩ := box50_cells ⟨a1_0, a1_1, a1_2, a1_3⟩ HG4.out) | (go_at_call 54; (with_reducible refine (api_Retained_54.calls A0 c0 l0 l0 _ ?s1 ?s2 ?s4).mono ?_); (case s1 => exact Kd.C_below HR.out HB4.out); (case s2 => exact HC.out); (case s4 => exact HCL.out); rintro _ w5 ⟨x, rfl, hr, hb⟩; have HX := Aside0.mk hr; have HS4 := Aside0.mk (blk_lt HG4.out); have HB5 := Aside0.mk (below_then HB4.out HB4.out.size hb); have HB45 := Aside0.mk hb; have HG5 := Aside0.mk (box_below HG4.out hb); clear hr hb; obtain ⟨g50, g51, g52, g53⟩ := box50_cells ⟨a1_0, a1_1, a1_2, a1_3⟩ HG5.out; obtain ⟨gx, cx, hvx⟩ := row_some HX.out HI.out; subst hvx; have i0 : (0 : Int) ≤ (i : Int) := Int.natCast_nonneg i; have i1 : (i : Int) < (l0.length : Int) := by have := HI.out; omega) | ((with_reducible refine gate_store (t := 50) (p := 51) (v := .tmp 50) rfl ?_); obtain ⟨cu, hcl, -, hcc, hfz⟩ := Kd.R_elem HX.out z50 (i : Int) (Int.natCast_nonneg i) (by have := HI.out; omega); go_loud (refine Kd.R_store k50 (w0 := w5) w4.heap.size rfl rfl 50 (.tmp 51) (.tmp 50) rfl 50 (o' := i * 4) (i : Int) 0 l0 ⟨a1_0, a1_1, a1_2, a1_3⟩ (.agg #[.string a1_0, .string a1_1, .int .i64 a1_2, .int .i64 a1_3]) [.string a1_0, .string a1_1, .int .i64 a1_2, .int .i64 a1_3] cu (fun _ => True) (fun _ => False) rfl ?q1 rfl rfl ?q2 ?q3 HX.out ?q4 ?q5 hcl hcc ?q6 ?q7 (fun _ hk => hk.elim) (Below.refl _ _) ?_); (go_loud (case q1 => simp; rfl)); (go_loud (case q2 => kernel_rfl)); (go_loud (case q3 => intro q hq; simp at hq; rcases hq with rfl | rfl | rfl | rfl <;> rfl)); (go_loud (case q4 => omega)); (go_loud (case q5 => have := HI.out; omega)); (go_loud (case q6 => show 0 + 4 ≤ 4; omega)); (go_loud (case q7 => exact k50_mkM_of hcl)); intro w6 hr hb _; have HY := Aside0.mk hr; have HB6 := Aside0.mk hb; clear hr hb))
            go_ret2
            exact ⟨_, rfl, Kd.R_lower HY.out HB4.out.size, below_then HB4.out HB4.out.size (HB45.out.trans HB6.out)⟩
          | false =>
            rw [if_neg (by decide)] at h'
            by_cases h12 : 12 ≤ l0.length
            · rw [if_pos h12] at h'
              obtain rfl : [] = r1 := congrArg Prod.fst h'
              obtain rfl : 5 = r2 := congrArg Prod.snd h'
              have p12 : (12 : Int) ≤ (l0.length : Int) := by omega
              clear h' hlt hin
              go_enter Tryd.func28, Tryd.ntmps28
              go_wp2_with (first | (go_at_call 32; (with_reducible refine (stay_Check.calls 20 A0 c0 l0 0 _ ?s1 ?s2 HE.out ?s3).mono ?_); (case s1 => exact Kd.C_below HR.out (below_alloc (Below.refl _ _) _)); (case s2 => exact HC.out); (case s3 => exact Tabs_below HT.out (below_alloc (Below.refl _ _) _)); rintro _ w2 ⟨rfl, hb⟩; have HB2 := Aside0.mk (below_then (below_alloc (Below.refl _ w) _) (below_alloc (Below.refl _ w) (.cells #[.string a1_0, .string a1_1, .int .i64 a1_2, .int .i64 a1_3] 50)).size hb); have HG2 := Aside0.mk ((hb.block _ (alloc_lt w _)).trans (heap_alloc_new w (.cells #[.string a1_0, .string a1_1, .int .i64 a1_2, .int .i64 a1_3] 50))); clear hb; obtain ⟨g20, g21, g22, g23⟩ := box50_cells ⟨a1_0, a1_1, a1_2, a1_3⟩ HG2.out) | (go_at_call 50; (with_reducible refine (stay_may.calls a1_0 a1_1 a1_2 a1_3 true _ HM.out ?s3).mono ?_); (case s3 => exact Tabs_below HT.out HB2.out); rintro _ w3 ⟨rfl, hb⟩; have HB3 := Aside0.mk (below_then HB2.out HB2.out.size hb); have HG3 := Aside0.mk (box_below HG2.out hb); clear hb; obtain ⟨g30, g31, g32, g33⟩ := box50_cells ⟨a1_0, a1_1, a1_2, a1_3⟩ HG3.out) | (go_at_call 51; (with_reducible refine (api_Retained_51.calls A0 c0 l0 a1_0 a1_1 a1_2 a1_3 (i : Int) false _ ?s1 ?s2 ?s4 HS.out).mono ?_); (case s1 => exact Kd.C_below HR.out HB3.out); (case s2 => exact HC.out); (case s4 => have := HL.out; omega); rintro _ w4 ⟨rfl, hb⟩; have HB4 := Aside0.mk (below_then HB3.out HB3.out.size hb); have HG4 := Aside0.mk (box_below HG3.out hb); clear hb; obtain ⟨g40, g41, g42, g43⟩ := box50_cells ⟨a1_0, a1_1, a1_2, a1_3⟩ HG4.out) | (go_at_call 54; (with_reducible refine (api_Retained_54.calls A0 c0 l0 l0 _ ?s1 ?s2 ?s4).mono ?_); (case s1 => exact Kd.C_below HR.out HB4.out); (case s2 => exact HC.out); (case s4 => exact HCL.out); rintro _ w5 ⟨x, rfl, hr, hb⟩; have HX := Aside0.mk hr; have HS4 := Aside0.mk (blk_lt HG4.out); have HB5 := Aside0.mk (below_then HB4.out HB4.out.size hb); have HB45 := Aside0.mk hb; have HG5 := Aside0.mk (box_below HG4.out hb); clear hr hb; obtain ⟨g50, g51, g52, g53⟩ := box50_cells ⟨a1_0, a1_1, a1_2, a1_3⟩ HG5.out))
              go_ret2
              exact ⟨_, rfl, Kd.R_nil _ _ _ _ _, HB5.out⟩
            · rw [if_neg h12] at h'
              obtain rfl : l0.take i ++ ⟨a1_0, a1_1, a1_2, a1_3⟩ :: l0.drop i = r1 := congrArg Prod.fst h'
              obtain rfl : 0 = r2 := congrArg Prod.snd h'
              have p12 : ¬ ((12 : Int) ≤ (l0.length : Int)) := by omega
              have HI := Aside0.mk hin
              have H12 := Aside0.mk h12
              clear h' hlt hin h12
              go_enter Tryd.func28, Tryd.ntmps28
              go_wp2_with (first | (go_at_call 32; (with_reducible refine (stay_Check.calls 20 A0 c0 l0 0 _ ?s1 ?s2 HE.out ?s3).mono ?_); (case s1 => exact Kd.C_below HR.out (below_alloc (Below.refl _ _) _)); (case s2 => exact HC.out); (case s3 => exact Tabs_below HT.out (below_alloc (Below.refl _ _) _)); rintro _ w2 ⟨rfl, hb⟩; have HB2 := Aside0.mk (below_then (below_alloc (Below.refl _ w) _) (below_alloc (Below.refl _ w) (.cells #[.string a1_0, .string a1_1, .int .i64 a1_2, .int .i64 a1_3] 50)).size hb); have HG2 := Aside0.mk ((hb.block _ (alloc_lt w _)).trans (heap_alloc_new w (.cells #[.string a1_0, .string a1_1, .int .i64 a1_2, .int .i64 a1_3] 50))); clear hb; obtain ⟨g20, g21, g22, g23⟩ := box50_cells ⟨a1_0, a1_1, a1_2, a1_3⟩ HG2.out) | (go_at_call 50; (with_reducible refine (stay_may.calls a1_0 a1_1 a1_2 a1_3 true _ HM.out ?s3).mono ?_); (case s3 => exact Tabs_below HT.out HB2.out); rintro _ w3 ⟨rfl, hb⟩; have HB3 := Aside0.mk (below_then HB2.out HB2.out.size hb); have HG3 := Aside0.mk (box_below HG2.out hb); clear hb; obtain ⟨g30, g31, g32, g33⟩ := box50_cells ⟨a1_0, a1_1, a1_2, a1_3⟩ HG3.out) | (go_at_call 51; (with_reducible refine (api_Retained_51.calls A0 c0 l0 a1_0 a1_1 a1_2 a1_3 (i : Int) false _ ?s1 ?s2 ?s4 HS.out).mono ?_); (case s1 => exact Kd.C_below HR.out HB3.out); (case s2 => exact HC.out); (case s4 => have := HL.out; omega); rintro _ w4 ⟨rfl, hb⟩; have HB4 := Aside0.mk (below_then HB3.out HB3.out.size hb); have HG4 := Aside0.mk (box_below HG3.out hb); clear hb; obtain ⟨g40, g41, g42, g43⟩ := box50_cells ⟨a1_0, a1_1, a1_2, a1_3⟩ HG4.out) | (go_at_call 54; (with_reducible refine (api_Retained_54.calls A0 c0 l0 l0 _ ?s1 ?s2 ?s4).mono ?_); (case s1 => exact Kd.C_below HR.out HB4.out); (case s2 => exact HC.out); (case s4 => exact HCL.out); rintro _ w5 ⟨x, rfl, hr, hb⟩; have HX := Aside0.mk hr; have HS4 := Aside0.mk (blk_lt HG4.out); have HB5 := Aside0.mk (below_then HB4.out HB4.out.size hb); have HB45 := Aside0.mk hb; have HG5 := Aside0.mk (box_below HG4.out hb); clear hr hb; obtain ⟨g50, g51, g52, g53⟩ := box50_cells ⟨a1_0, a1_1, a1_2, a1_3⟩ HG5.out) | (go_at_call 56; (go_loud (refine (api_Retained_56.own w4.heap.size w5.heap.size x l0 ⟨a1_0, a1_1, a1_2, a1_3⟩ w5 _ i ?s1 ?s2 ?s3 ?s4 ?s5 HI.out ?s6).mono ?_)); (go_loud (case s1 => exact Kd.R_below HX.out (below_alloc (Below.refl _ _) _))); (go_loud (case s2 => exact heap_alloc_new _ _)); (go_loud (case s3 => exact fun e => by have := Kd.R_lt HX.out _ e; omega)); (go_loud (case s4 => exact (Below.refl _ _).alloc HB45.out.size _)); (go_loud (case s5 => exact Nat.le_trans HB45.out.size (below_alloc (Below.refl _ _) _).size)); (go_loud (case s6 => have := H12.out; omega)); rintro _ w6 ⟨y, rfl, hr, hb⟩; have HY := Aside0.mk hr; have HB6 := Aside0.mk hb; clear hr hb))
              go_ret2
              exact ⟨_, rfl, Kd.R_lower HY.out HB4.out.size, below_then HB4.out HB4.out.size (HB45.out.trans HB6.out)⟩
    · rw [if_neg h0] at h
      have h' := Option.some.inj h
      obtain rfl : [] = r1 := congrArg Prod.fst h'
      obtain rfl : 1 = r2 := congrArg Prod.snd h'
      have b0 : (e != 0) = true := bne_iff_ne.mpr h0
      have b1 : (e == 0) = false := beq_eq_false_iff_ne.mpr h0
      clear h h' h0
      go_enter Tryd.func28, Tryd.ntmps28
      go_wp2_with (first | (go_at_call 32; (with_reducible refine (stay_Check.calls 20 A0 c0 l0 e _ ?s1 ?s2 HE.out ?s3).mono ?_); (case s1 => exact Kd.C_below HR.out (below_alloc (Below.refl _ _) _)); (case s2 => exact HC.out); (case s3 => exact Tabs_below HT.out (below_alloc (Below.refl _ _) _)); rintro _ w2 ⟨rfl, hb⟩; have HB2 := Aside0.mk (below_then (below_alloc (Below.refl _ w) _) (below_alloc (Below.refl _ w) (.cells #[.string a1_0, .string a1_1, .int .i64 a1_2, .int .i64 a1_3] 50)).size hb); have HG2 := Aside0.mk ((hb.block _ (alloc_lt w _)).trans (heap_alloc_new w (.cells #[.string a1_0, .string a1_1, .int .i64 a1_2, .int .i64 a1_3] 50))); clear hb; obtain ⟨g20, g21, g22, g23⟩ := box50_cells ⟨a1_0, a1_1, a1_2, a1_3⟩ HG2.out))
      go_ret2
      exact ⟨_, rfl, Kd.R_nil _ _ _ _ _, HB2.out⟩
  · rw [if_neg hl] at h
    cases h
end Go.Proofs.YtnaeffgkdoanfaaDoor.P
