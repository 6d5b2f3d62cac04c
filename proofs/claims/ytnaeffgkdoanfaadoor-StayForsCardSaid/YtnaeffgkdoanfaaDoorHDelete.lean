/- By hand: slices.Delete of one element of a row of one's own. -/
import Derived.Test.YtnaeffgkdoanfaaDoorP0
import Derived.Test.YtnaeffgkdoanfaaDoorRaw
namespace Go.Proofs.YtnaeffgkdoanfaaDoor.P
open Go.RowKit Go.Proofs.YtnaeffgkdoanfaaDoorW.PrintWords Go.Proofs.YtnaeffgkdoanfaaDoorW.PrintLast Go.Proofs.YtnaeffgkdoanfaaDoorW.PrintMore
open Go.Proofs.YtnaeffgkdoanfaaDoor
set_option linter.unusedSimpArgs false
set_option linter.unusedVariables false
def zv50 : Value := .agg #[(.string ⟨#[]⟩), (.string ⟨#[]⟩), (.int .i64 0), (.int .i64 0)]
set_option maxRecDepth 100000 in
set_option maxHeartbeats 4000000 in
theorem api_Retained_55.own (base : Nat) (v : Value) (l : List S50) (w0 w : World) (i : Nat) (hR : k50.R 50 w base (fun _ => True) v l) (hB : Below base w0 w) (hbase : base ≤ w.heap.size) (hi : i < l.length) :
    Calls Tryd.prog 55 #[v, .int .i64 i, .int .i64 (i + 1)] w fun e w' => ∃ v0_ : Value, e = .returned (v0_) ∧ Kd.R k50 50 w' base (fun _ => True) v0_ (l.eraseIdx i) ∧ Below base w0 w' := by
  rcases Raw.R_cases hR with ⟨rfl, rfl⟩ | ⟨g, c, rfl⟩
  · exact absurd hi (by simp)
  obtain ⟨cur0, hb0, -, -, hnc, hcm, hg0, hcs0, -⟩ := Raw.R_open hR
  have hc63 : c ≤ 9223372036854775807 := by unfold maxLen at hcm; omega
  obtain ⟨n, hn⟩ : ∃ n, n = l.length := ⟨_, rfl⟩
  rw [← hn] at hR hi hnc ⊢
  have hel : (l.eraseIdx i).length = n - 1 := by rw [List.length_eraseIdx_of_lt (by omega), hn]
  have HEL := Aside0.mk hel
  have HN := Aside0.mk hn
  have mixed : Tryd.prog.follows Departure.mixedOrders = true := by kernel_rfl
  have HR := Aside0.mk hR
  have HB := Aside0.mk hB
  have HS := Aside0.mk hbase
  have hbase2 : base ≤ w.heap.size := hbase
  have HG0 := Aside0.mk hg0
  have HC0 := Aside0.mk hcs0
  clear hR hB hbase hg0 hcs0 hn hel
  have p1 : (i : Int) ≤ (i : Int) + 1 := by omega
  have p2 : (i : Int) + 1 ≤ (n : Int) := by omega
  have p3 : (n : Int) ≤ (c : Int) := by omega
  have p4 : ((i : Int) == (i : Int) + 1) = false := by rw [beq_eq_false_iff_ne]; omega
  have p5 : (0 : Int) ≤ (i : Int) := by omega
  have p6 : (0 : Int) ≤ (i : Int) + 1 := by omega
  have p7 : (i : Int) ≤ (c : Int) := by omega
  have q1 : IntKind.i64.wrap ((i : Int) + 1) = (i : Int) + 1 := by rw [IntKind.wrap_i64]; omega
  obtain ⟨i0, hi0, hsz⟩ := Option.map_eq_some_iff.1 info50
  simp only [Prod.mk.injEq] at hsz
  obtain ⟨hz0, hz1, hz2⟩ := hsz
  have hz4 : 0 < k50.sz := Nat.succ_pos _
  have hzero : (Tryd.prog.info? 50).map (·.zero) = some (some zv50) := by rw [hi0]; exact congrArg some hz0
  have r1 : (n : Int) - 1 = ((n - 1 : Nat) : Int) := by omega
  have r2 : ((n - 1 : Nat) : Int) ≤ (n : Int) := by omega
  have r3 : (0 : Int) ≤ ((n - 1 : Nat) : Int) := by omega
  have r4 : (n : Int) ≤ (c : Int) := by omega
  have r5 : n - (n - 1) = 1 := by omega
  have r6 : ¬ (c = n - 1) := by omega
  obtain ⟨A, c2, hA, hA1, hA2⟩ : ∃ A c2, (A = if c = i + 1 then some (⟨g, 0, none⟩ : Addr) else (some (⟨g, 0, none⟩ : Addr)).map (·.add ((i + 1) * 4))) ∧ (c = i + 1 → A = some (⟨g, 0, none⟩ : Addr) ∧ c2 = 0) ∧ (c ≠ i + 1 → A = some (⟨g, (i + 1) * 4, none⟩ : Addr) ∧ c2 = c - (i + 1)) :=
    ⟨_, c - (i + 1), rfl, fun h => ⟨by rw [if_pos h], by omega⟩, fun h => ⟨by rw [if_neg h]; simp [add_at], rfl⟩⟩
  obtain ⟨w1, hr, h1, h2⟩ := Kd.R_delete_run (P := Tryd.prog) k50 base 41 41 50 i0 Tryd.underlying41 hi0 hz1 (Kd.R_drew HR.out) hi hA c2
  obtain ⟨cur1, -, -, -, -, -, hg1, hcs1, -⟩ := Raw.R_open h1
  have hb1 : Below base w0 w1 := (below_drew HB.out).grown h2 (by simpa using hbase2) (fun k hk => by obtain rfl := Option.some.inj hk; exact hb0)
  have hclr : ∀ ty cc, (Builtin.clear_ #[41] ty #[.slice (some ⟨g, (n - 1) * 4, none⟩) 1 cc]).run Tryd.prog w1 = .ok (.tuple #[]) (w1.setRow g (Raw.put cur1 ((n - 1) * 4) (Builtin.zeroCells zv50.cells 1).toList).toArray) := fun ty cc =>
    Raw.run_clear w1 41 50 ty _ g ((n - 1) * 4) 1 cc cur1 Tryd.underlying41 hzero (by decide) hg1 (by rw [hcs1]; show (n - 1) * 4 + 1 * 4 ≤ c * 4; omega) (by decide)
  have hlast : k50.R 50 (w1.setRow g (Raw.put cur1 ((n - 1) * 4) (Builtin.zeroCells zv50.cells 1).toList).toArray) base (fun _ => True) (.slice (some ⟨g, 0, none⟩) (n - 1) c) (l.eraseIdx i) :=
    Raw.R_tail h1 hg1 (Raw.put_len _ _ _ (by rw [hcs1, Array.length_toList, size_zeroCells]; show (n - 1) * 4 + 1 * 4 ≤ c * 4; omega)) (by
      unfold Raw.put
      rw [List.append_assoc, List.take_left' (by rw [List.length_take, hcs1]; show min ((n - 1) * 4) (c * 4) = (n - 1) * 4; omega)]
      rfl)
  have HL := Aside0.mk hlast
  have HC := Aside0.mk hclr
  have HB1 := Aside0.mk (Raw.below_setRow hb1 hb0 (Raw.put cur1 ((n - 1) * 4) (Builtin.zeroCells zv50.cells 1).toList).toArray)
  have HRUN := Aside0.mk hr
  clear hr h1 h2 hA hz0 hz1 hz2 hi0 hlast hclr hb1 hg1 hcs1 hzero
  generalize w1.setRow g (Raw.put cur1 ((n - 1) * 4) (Builtin.zeroCells zv50.cells 1).toList).toArray = w2 at *
  by_cases hci : c = i + 1
  · obtain ⟨rfl, rfl⟩ := hA1 hci
    subst hci
    obtain rfl : n = i + 1 := by omega
    clear hA1 hA2
    go_enter Tryd.func55, Tryd.ntmps55
    go_wp2
    go_region_law_o (refine Raw.step_append rfl (.tmp 22) (.tmp 25) 41 41 rfl _ _ (by simp [Act.eval, Act.put]) (by simp [Act.eval, Act.put]) HRUN.out ?_)
    go_wp2_with (first | ((with_reducible refine gate_builtin (b := .clear) (xs := #[.tmp 31]) rfl ?_); go_loud (refine Raw.wpList_clear rfl (.tmp 31) 41 rfl _ rfl (HC.out _ _) ?_)))
    go_ret
    exact ⟨_, rfl, HL.out, HB1.out⟩
  · obtain ⟨rfl, rfl⟩ := hA2 hci
    clear hA1 hA2
    go_enter Tryd.func55, Tryd.ntmps55
    go_wp2
    go_region_law_o (refine Raw.step_append rfl (.tmp 22) (.tmp 25) 41 41 rfl _ _ (by simp [Act.eval, Act.put]) (by simp [Act.eval, Act.put]) HRUN.out ?_)
    go_wp2_with (first | ((with_reducible refine gate_builtin (b := .clear) (xs := #[.tmp 31]) rfl ?_); go_loud (refine Raw.wpList_clear rfl (.tmp 31) 41 rfl _ rfl (HC.out _ _) ?_)))
    go_ret
    exact ⟨_, rfl, HL.out, HB1.out⟩
end Go.Proofs.YtnaeffgkdoanfaaDoor.P
