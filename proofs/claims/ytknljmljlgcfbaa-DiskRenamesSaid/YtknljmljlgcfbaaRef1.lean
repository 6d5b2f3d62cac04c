/- By hand: the page's own disk: its state; whether the power has gone; where a file is. -/
import Derived.Test.YtknljmljlgcfbaaDiskA
import Derived.Test.YtknljmljlgcfbaaRaw
namespace Go.Proofs.Ytknljmljlgcfbaa.P
open Go.RowKit Go.Proofs.YtknljmljlgcfbaaW.PrintWords Go.Proofs.YtknljmljlgcfbaaW.PrintLast Go.Proofs.YtknljmljlgcfbaaW.PrintMore
open Go.Proofs.Ytknljmljlgcfbaa
set_option linter.unusedSimpArgs false
set_option linter.unusedVariables false
theorem toL_inj {a b : ByteArray} (h : a.toList = b.toList) : a = b := by
  rw [Go.ByteArray.toList_eq, Go.ByteArray.toList_eq] at h
  exact ByteArray.ext (Array.toList_inj.1 h)
theorem eqL_true {a b : ByteArray} (h : a = b) : (a.toList == b.toList) = true := by rw [h]; exact beq_self_eq_true _
theorem eqL_false {a b : ByteArray} (h : ¬ a = b) : (a.toList == b.toList) = false := beq_eq_false_iff_ne.2 fun e => h (toL_inj e)
def zF : DFile := ⟨⟨#[]⟩, ⟨#[]⟩, 0⟩
def kF : Kd DFile := Kd.iso (Kd.pair Kd.string (Kd.pair Kd.string (Kd.int .i64))) (fun x : DFile => (x.name, x.text, x.safe))
theorem kF_open {w : World} {x : DFile} {cs : List Value} (h : kF.K w x cs) : cs = [.string x.name, .string x.text, .int .i64 x.safe] := by
  obtain ⟨_, _, rfl, rfl, ⟨_, _, rfl, rfl, rfl⟩⟩ := h
  rfl
theorem kF_openM {w : World} {base : Nat} {ok : Nat → Prop} {x : DFile} {cs : List Value} (h : kF.M w base ok x cs) : cs = [.string x.name, .string x.text, .int .i64 x.safe] := by
  obtain ⟨_, _, rfl, rfl, ⟨_, _, rfl, rfl, rfl⟩⟩ := h
  rfl
theorem kF_mk (w : World) (x : DFile) : kF.K w x [.string x.name, .string x.text, .int .i64 x.safe] := ⟨[.string x.name], [.string x.text, .int .i64 x.safe], rfl, rfl, ⟨[.string x.text], [.int .i64 x.safe], rfl, rfl, rfl⟩⟩
theorem kF_mkM (w : World) (base : Nat) (ok : Nat → Prop) (x : DFile) : kF.M w base ok x [.string x.name, .string x.text, .int .i64 x.safe] := ⟨[.string x.name], [.string x.text, .int .i64 x.safe], rfl, rfl, ⟨[.string x.text], [.int .i64 x.safe], rfl, rfl, rfl⟩⟩
def rdF (xs : List DFile) (i : Int) : DFile := xs.getD i.toNat zF
theorem rdF_at {xs : List DFile} {i : Nat} {f : DFile} (h : xs[i]? = some f) : rdF xs (i : Int) = f := by unfold rdF; simp [List.getD_eq_getElem?_getD, h]
theorem at_F {w : World} {A : Option Addr} {n : Nat} {xs : List DFile} (h : Kd.C kF w A n xs) (i : Int) (h0 : 0 ≤ i) (h1 : i < n) : ∃ ad, A = some ad ∧ w.cell? (ad.add (i.toNat * 3)) = some (.string (rdF xs i).name) ∧ w.cell? ⟨(ad.add (i.toNat * 3)).block, (ad.add (i.toNat * 3)).off + 1, none⟩ = some (.string (rdF xs i).text) ∧ w.cell? ⟨(ad.add (i.toNat * 3)).block, (ad.add (i.toNat * 3)).off + 2, none⟩ = some (.int .i64 (rdF xs i).safe) := by
  obtain ⟨ad, c, e, _, hK, hc0⟩ := Kd.C_get h zF i h0 h1
  have hc : ∀ j u, c[j]? = some u → w.cell? (ad.add (i.toNat * 3 + j)) = some u := hc0
  obtain rfl := kF_open hK
  exact ⟨ad, e, hc 0 _ rfl, by rw [← add_field _ _ 1 (by omega)]; exact hc 1 _ rfl, by rw [← add_field _ _ 2 (by omega)]; exact hc 2 _ rfl⟩
theorem at_N {w : World} {A : Option Addr} {n : Nat} {xs : List DFile} (h : Kd.C kF w A n xs) {i : Nat} {f : DFile} (h1 : i < n) (hf : xs[i]? = some f) : ∃ ad, A = some ad ∧ w.cell? (ad.add (i * 3)) = some (.string f.name) ∧ w.cell? ⟨(ad.add (i * 3)).block, (ad.add (i * 3)).off + 1, none⟩ = some (.string f.text) ∧ w.cell? ⟨(ad.add (i * 3)).block, (ad.add (i * 3)).off + 2, none⟩ = some (.int .i64 f.safe) := by
  have := at_F h (i : Int) (by omega) (by omega)
  rw [rdF_at hf] at this
  exact this
theorem infoF : (Try.prog.info? 90).map (fun i => (i.zero, i.size, i.bytes)) = some (some (.agg #[(.string ⟨#[]⟩), (.string ⟨#[]⟩), (.int .i64 0)]), 3, 40) := by kernel_rfl
abbrev RBlk (w : World) (r : Nat) (v : Value) (off : Bool) : Prop := w.heap[r]? = some (.cells #[v, .int .i64 0, .bool false, .bool off] 87 (0, 0))
abbrev RK (d : Nat) (m : Nat → Prop) (r : Nat) (k : Nat) : Prop := k ≠ r ∧ k ≠ d ∧ ¬ m k
/-- What the page's disk may write: all of its own making, but not what is another's. -/
abbrev RS (d : Nat) (m : Nat → Prop) (B : Nat) (k : Nat) : Prop := B ≤ k ∧ k ≠ d ∧ ¬ m k
structure RefAt (w : World) (d : Nat) (m : Nat → Prop) (r B : Nat) (v : Value) (G : List DFile) : Prop where
  blk : RBlk w r v false
  row : kF.R 90 w B (RK d m r) v G
  base : B ≤ w.heap.size
  r0 : B ≤ r
  ltd : d < w.heap.size
  ltm : ∀ k, m k → k < w.heap.size
  nd : r ≠ d
  nm : ¬ m r
theorem RefAt.fr {w w' : World} {d : Nat} {m : Nat → Prop} {r B : Nat} {v : Value} {G : List DFile} {S : Nat → Prop} (h : RefAt w d m r B v G) (hf : Fr w w' S) (hS : ∀ k, S k → k = d ∨ m k) : RefAt w' d m r B v G :=
  ⟨hf.block h.blk (fun e => by rcases hS _ e with e | e; exact h.nd e; exact h.nm e), Kd.R_kept h.row hf.kept (fun k hk e => by rcases hS _ e with e | e; exact hk.2.1 e; exact hk.2.2 e), Nat.le_trans h.base hf.size, h.r0, Nat.lt_of_lt_of_le h.ltd hf.size, fun k hk => Nat.lt_of_lt_of_le (h.ltm k hk) hf.size, h.nd, h.nm⟩
theorem RefAt.below {w w' : World} {d : Nat} {m : Nat → Prop} {r B : Nat} {v : Value} {G : List DFile} (h : RefAt w d m r B v G) (hb : Below w.heap.size w w') : RefAt w' d m r B v G := h.fr (Fr.of_below hb (fun _ => False)) (fun _ e => e.elim)
/-- What else lies there may be another's, too. -/
theorem RefAt.more {w : World} {d : Nat} {m m' : Nat → Prop} {r B : Nat} {v : Value} {G : List DFile} (h : RefAt w d m r B v G) (hm : ∀ k, m' k → k < w.heap.size) (hr : ¬ m' r) (hv : ∀ k, m' k → some k ≠ v.ownBlock) : RefAt w d m' r B v G :=
  ⟨h.blk, ⟨fun k hk => ⟨(h.row.1 k hk).1, (h.row.1 k hk).2.1, fun e => hv k e hk.symm⟩, h.row.2.imp_ (fun p c hp => by rw [kF_openM hp]; exact kF_mkM _ _ _ _)⟩, h.base, h.r0, h.ltd, hm, h.nd, hr⟩
theorem RefAt.reads {w : World} {d : Nat} {m : Nat → Prop} {r B : Nat} {v : Value} {G : List DFile} (h : RefAt w d m r B v G) : ∃ A c, v = .slice A G.length c ∧ G.length ≤ c ∧ Kd.C kF w A G.length G := Kd.R_reads h.row
theorem RefAt.lt {w : World} {d : Nat} {m : Nat → Prop} {r B : Nat} {v : Value} {G : List DFile} (h : RefAt w d m r B v G) : r < w.heap.size := blk_lt h.blk
/-- Where a file is. -/
def ixG : List DFile → ByteArray → Option Nat
  | [], _ => none
  | f :: G, n => if f.name = n then some 0 else (ixG G n).map (· + 1)
def ixI : Option Nat → Int
  | none => -1
  | some i => i
theorem ixG_drop {G : List DFile} {n : ByteArray} {i : Nat} {f : DFile} (h : G[i]? = some f) : ixG (G.drop i) n = if f.name = n then some 0 else (ixG (G.drop (i + 1)) n).map (· + 1) := by
  obtain ⟨hl, rfl⟩ := List.getElem?_eq_some_iff.1 h
  rw [List.drop_eq_getElem_cons hl, ixG]
set_option maxRecDepth 100000 in
set_option maxHeartbeats 4000000 in
theorem ref_counts.calls (w : World) (r : Nat) (v : Value) (h : RBlk w r v false) :
    Calls Try.prog 60 #[.pointer (some ⟨r, 0, none⟩)] w fun e w' => e = .returned (.bool false) ∧ Drawn0 w w' := by
  have g1 : w.cell? ⟨r, 2, none⟩ = some (.bool false) := (blk_cell h 2).trans rfl
  have g2 : w.cell? ⟨r, 3, none⟩ = some (.bool false) := (blk_cell h 3).trans rfl
  go_enter Try.func60, Try.ntmps60
  go_wp2
  go_ret
  exact ⟨rfl, ⟨0, rfl⟩⟩
set_option maxRecDepth 100000 in
set_option maxHeartbeats 4000000 in
theorem ref_find.calls (w : World) (r : Nat) (A : Option Addr) (c : Nat) (G : List DFile) (n : ByteArray) (h : RBlk w r (.slice A G.length c) false) (hC : Kd.C kF w A G.length G) (hl : G.length ≤ 4000000000000000000) :
    Calls Try.prog 59 #[.pointer (some ⟨r, 0, none⟩), .string n] w fun e w' => e = .returned (.int .i64 (ixI (ixG G n))) ∧ Drawn0 w w' := by
  have g0 : w.cell? ⟨r, 0, none⟩ = some (.slice A G.length c) := (blk_cell h 0).trans rfl
  have HC := Aside0.mk hC
  have HL := Aside0.mk hl
  clear h hC hl
  go_enter Try.func59, Try.ntmps59
  go_wp2
  go_loop [5, 4] (fun v5 _ => ∃ i : Nat, v5 = .int .i64 i ∧ i ≤ G.length ∧ Aside0 (ixG G n = (ixG (G.drop i) n).map (· + i))) (fun v5 _ => (G.length - intOf v5).toNat)
  case atStart => exact ⟨0, rfl, by omega, ⟨by simp⟩⟩
  case round =>
    obtain ⟨i, rfl, hi, HI⟩ := hrel
    by_cases hlt : i < G.length
    · have d0 : decide ((i : Int) < (G.length : Int)) = true := by simp; omega
      have w1_ : IntKind.i64.wrap ((i : Int) + 1) = ((i + 1 : Nat) : Int) := by have := HL.out; rw [IntKind.wrap_i64]; omega
      obtain ⟨f, hf⟩ : ∃ f, G[i]? = some f := ⟨_, List.getElem?_eq_getElem hlt⟩
      obtain ⟨ad, e0, x0, x1, x2⟩ := at_N HC.out hlt hf
      subst e0
      have HF := Aside0.mk hf
      clear hf
      by_cases hn : f.name = n
      · have d1 := eqL_true hn
        have HR : Aside0 (ixI (ixG G n) = i) := ⟨by rw [HI.out, ixG_drop HF.out, if_pos hn]; simp [ixI]⟩
        clear hn
        go_wp2
        go_ret
        exact ⟨by rw [HR.out]; rfl, ⟨0, rfl⟩⟩
      · have d1 := eqL_false hn
        have HR : Aside0 (ixG G n = (ixG (G.drop (i + 1)) n).map (· + (i + 1))) := ⟨by rw [HI.out, ixG_drop HF.out, if_neg hn, Option.map_map]; congr 1; funext k; simp; omega⟩
        clear hn
        go_wp2
        go_round
        case rel => exact ⟨i + 1, rfl, by omega, HR⟩
        case measure => simp [intOf]; omega
    · have d0 : decide ((i : Int) < (G.length : Int)) = false := by simp; omega
      have HR : Aside0 (ixI (ixG G n) = -1) := ⟨by rw [HI.out, List.drop_eq_nil_of_le (by omega)]; rfl⟩
      go_wp2
      go_ret
      exact ⟨by rw [HR.out]; rfl, ⟨0, rfl⟩⟩
end Go.Proofs.Ytknljmljlgcfbaa.P
