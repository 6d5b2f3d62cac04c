/- Rows of one's own, written in place: copy, clear, append, cuts, at whatever element size. No program in sight. -/
import Derived.Test.YtknljmljlgcfbaaWWords
import Derived.Test.YtknljmljlgcfbaaWMore
import Derived.Test.YtknljmljlgcfbaaWLast
import Derived.Test.YtknljmljlgcfbaaWZeros
import Derived.Laws.CopyRow
import Derived.Deep.AppendSrc
import Derived.Lib.AppendZerosOnto
import Derived.Deep.RegionLaw
namespace Go.Proofs.Ytknljmljlgcfbaa.P
open Go.RowKit Go.Proofs.YtknljmljlgcfbaaW.PrintWords Go.Proofs.YtknljmljlgcfbaaW.PrintLast Go.Proofs.YtknljmljlgcfbaaW.PrintMore
set_option linter.unusedSimpArgs false
set_option linter.unusedVariables false
namespace Raw
variable {P : Program} {α : Type}

/-- A row's block. -/
def Blk (w : World) (e g : Nat) (cur : List Value) : Prop := w.heap[g]? = some (.cells cur.toArray e (0, 0))

theorem R_open {d : Kd α} {e g n c base : Nat} {w : World} {ok : Nat → Prop} {xs : List α} (h : d.R e w base ok (.slice (some ⟨g, 0, none⟩) n c) xs) :
    ∃ cur : List Value, base ≤ g ∧ ok g ∧ n = xs.length ∧ n ≤ c ∧ c ≤ maxLen ∧ Blk w e g cur ∧ cur.length = c * d.sz ∧ Reps (d.M w base (fun k => ok k ∧ k ≠ g)) d.sz xs (cur.take (n * d.sz)) := by
  obtain ⟨hn, hnc, _⟩ := Kd.R_reads' h
  obtain ⟨hok, inner, hown, hr⟩ := h
  rcases hown.2 with ⟨hv, _⟩ | ⟨g', cap', cur, hv, hb, hh, _, hcm, hcs, htake⟩
  · cases hv
  injection hv with ha _ hc
  injection ha with ha
  injection ha with hg
  subst hg; subst hc
  refine ⟨cur.toList, hb, hok _ (by simp [Value.ownBlock]), hn, hnc, hcm, by unfold Blk; rw [Array.toArray_toList]; exact hh, by rw [Array.length_toList]; exact hcs, ?_⟩
  rw [hn, htake]
  refine hr.imp_ fun _ _ hp => d.M_mono (fun k hk => ⟨hk.1, fun e => hk.2 (by rw [e]; simp [Value.ownBlock])⟩) hp
theorem R_close {d : Kd α} {e g c base : Nat} {w w' : World} {ok : Nat → Prop} {xs : List α} {cur : List Value} (hg : Blk w' e g cur) (hb : base ≤ g) (hok : ok g) (hn : xs.length ≤ c) (hc : c ≤ maxLen) (hcs : cur.length = c * d.sz)
    (hr : Reps (d.M w base (fun k => ok k ∧ k ≠ g)) d.sz xs (cur.take (xs.length * d.sz))) (hm : ∀ k, ok k → k ≠ g → k < w.heap.size → w'.heap[k]? = w.heap[k]?) :
    d.R e w' base ok (.slice (some ⟨g, 0, none⟩) xs.length c) xs := by
  refine ⟨fun k hk => ?_, cur.take (xs.length * d.sz), ⟨?_, .inr ⟨g, c, cur.toArray, rfl, hb, hg, hn, hc, by rw [List.size_toArray]; exact hcs, by simp⟩⟩, ?_⟩
  · have : g = k := by simpa [Value.ownBlock] using hk
    rw [← this]; exact hok
  · rw [List.length_take, hcs]
    exact Nat.min_eq_left (Nat.mul_le_mul_right _ hn)
  · refine hr.imp_ fun p q hp => d.M_mono (fun k hk => ⟨hk.1, fun e => hk.2 ?_⟩) (Kd.M_step hp (fun k hk hlt => hm k hk.1 hk.2 hlt))
    have : k = g := by simpa [Value.ownBlock] using e
    exact this
theorem R_cases {d : Kd α} {e base : Nat} {w : World} {ok : Nat → Prop} {v : Value} {xs : List α} (h : d.R e w base ok v xs) : (v = .slice none 0 0 ∧ xs = []) ∨ ∃ g c, v = .slice (some ⟨g, 0, none⟩) xs.length c := by
  obtain ⟨_, inner, hown, hr⟩ := h
  rcases hown.2 with ⟨hv, h0⟩ | ⟨g, cap, cur, hv, _⟩
  · exact .inl ⟨hv, List.eq_nil_of_length_eq_zero h0⟩
  · exact .inr ⟨g, cap, hv⟩
theorem reps_one {d : Kd α} {w : World} {base : Nat} {ok : Nat → Prop} {x : α} {cs : List Value} (h : d.M w base ok x cs) : Reps (d.M w base ok) d.sz [x] cs := by
  have := Reps.snoc (Reps.none (d.M w base ok) d.sz) h (d.K_len (d.K_of_M h))
  simpa using this
theorem reps_cell {d : Kd α} {w : World} {base : Nat} {ok : Nat → Prop} {xs : List α} {cs : List Value} (h : Reps (d.M w base ok) d.sz xs cs) : ∀ u ∈ cs, u.oneCell' = true := by
  intro u hu
  obtain ⟨q, hq, rfl⟩ := List.mem_iff_getElem.1 hu
  have hl := h.1
  have hs0 : 0 < d.sz := by
    rcases Nat.eq_zero_or_pos d.sz with h0 | h0
    · rw [h0, Nat.mul_zero] at hl; omega
    · exact h0
  have hql : q / d.sz < xs.length := by
    rw [Nat.div_lt_iff_lt_mul hs0, ← hl]
    exact hq
  refine d.K_one (d.K_of_M (h.2 (q / d.sz) _ (List.getElem?_eq_getElem hql))) _ ?_
  rw [List.mem_iff_getElem?]
  refine ⟨q % d.sz, ?_⟩
  rw [List.getElem?_take, if_pos (Nat.mod_lt _ hs0), List.getElem?_drop, Nat.mul_comm, Nat.div_add_mod, List.getElem?_eq_getElem hq]

theorem blk_new (w : World) (e : Nat) (cur : List Value) : Blk (w.alloc (.cells cur.toArray e)) e w.heap.size cur := heap_alloc_new w _
/-- What stands in a row behind a write. -/
def put (cur : List Value) (o : Nat) (vs : List Value) : List Value := cur.take o ++ vs ++ cur.drop (o + vs.length)
theorem put_len (cur : List Value) (o : Nat) (vs : List Value) (h : o + vs.length ≤ cur.length) : (put cur o vs).length = cur.length := by
  unfold put
  simp [List.length_take, List.length_drop]
  omega
theorem blk_put {w : World} {e g : Nat} {cur : List Value} (h : Blk w e g cur) (cs : List Value) : Blk (w.setRow g cs.toArray) e g cs := setRow_heap w g _ _ e _ h
theorem blk_far {w : World} {e g g' : Nat} {cur : List Value} (h : Blk w e g cur) (cs : List Value) (hne : g ≠ g') : Blk (w.setRow g' cs.toArray) e g cur := (setRow_other w g' g _ hne).trans h
theorem blk_cell {w : World} {e g : Nat} {cur : List Value} (h : Blk w e g cur) (j : Nat) : w.cell? ⟨g, j, none⟩ = cur[j]? := by
  rw [cell_of_row w g j _ e _ h]
  simp
theorem run_store {w : World} {e g o : Nat} {cur : List Value} (h : Blk w e g cur) (vs : List Value) (hl : o + vs.length ≤ cur.length) (h1 : ∀ v ∈ vs, v.oneCell' = true) :
    (storeCells ⟨g, o, none⟩ vs 0).run P w = .ok () (w.setRow g (put cur o vs).toArray) := by
  have := run_storeCells_at P g o e vs 0 cur.toArray w h (by simpa using hl) h1
  simpa [put] using this

theorem run_copy (w : World) (dT sT ty elem : TypeId) (sz g o dLen dCap : Nat) (a : Addr) (sLen sCap : Nat) (cur cs : List Value) {e : Nat}
    (hu : P.underlying dT = some (.slice elem)) (hs : (P.info? elem).map (·.size) = some sz) (hg : Blk w e g cur) (hn : cs.length = min sLen dLen * sz)
    (hsrc : ∀ j v, cs[j]? = some v → w.cell? (a.add j) = some v) (hfit : o + cs.length ≤ cur.length) (h1 : ∀ v ∈ cs, v.oneCell' = true) :
    (Builtin.copy_ #[dT, sT] ty #[.slice (some ⟨g, o, none⟩) dLen dCap, .slice (some a) sLen sCap]).run P w = .ok (goInt (min sLen dLen)) (w.setRow g (put cur o cs).toArray) := by
  have hl := run_loadCells_list (P := P) w a cs hsrc
  have hst := run_store (P := P) hg cs hfit h1
  rw [hn] at hl
  cases hq : P.info? elem with
  | none => simp [hq] at hs
  | some i =>
    have hi : i.size = sz := by simpa [hq] using hs
    have hm : Nat.min sLen dLen = min sLen dLen := rfl
    simp [Builtin.copy_, run_underlying hu, Builtin.lenOf, Builtin.firstCells, sizeOf, typeInfo, hq, hi, hm, hl, hst]
    congr 1
    omega

theorem zero_cells {z : Value} (h1 : ∀ u ∈ z.cells.toList, u.oneCell' = true) (n : Nat) : ∀ u ∈ (Builtin.zeroCells z.cells n).toList, u.oneCell' = true := by
  intro u hu
  unfold Builtin.zeroCells at hu
  simp only [Array.toList_map, List.mem_map] at hu
  obtain ⟨i, hi, rfl⟩ := hu
  have hz : 0 < z.cells.size := by
    rcases Nat.eq_zero_or_pos z.cells.size with h0 | h0
    · rw [h0, Nat.mul_zero] at hi; simp at hi
    · exact h0
  have hm := Nat.mod_lt i hz
  rw [getElem!_pos z.cells _ hm]
  exact h1 _ (by simp)

theorem run_clear (w : World) (t elem ty : TypeId) (z : Value) (g o n c : Nat) (cur : List Value) {e : Nat} (ht : P.underlying t = some (.slice elem)) (hz : (P.info? elem).map (·.zero) = some (some z)) (hn : 0 < n)
    (hg : Blk w e g cur) (hfit : o + n * z.cells.size ≤ cur.length) (h1 : ∀ u ∈ z.cells.toList, u.oneCell' = true) :
    (Builtin.clear_ #[t] ty #[.slice (some ⟨g, o, none⟩) n c]).run P w = .ok (.tuple #[]) (w.setRow g (put cur o (Builtin.zeroCells z.cells n).toList).toArray) := by
  have hst := run_store (P := P) hg (Builtin.zeroCells z.cells n).toList (o := o) (by rw [Array.length_toList, size_zeroCells]; exact hfit) (zero_cells h1 n)
  obtain ⟨m, rfl⟩ : ∃ m, n = m + 1 := ⟨n - 1, by omega⟩
  cases hq : P.info? elem with
  | none => simp [hq] at hz
  | some i =>
    have hi : i.zero = some z := by simpa [hq] using hz
    simp [Builtin.clear_, run_underlying ht, zeroValue, typeInfo, hq, hi, hst]

/-! the two builtins as steps of a walk, their runs known -/
theorem wpList_copy {w : World} {ops : Array Oper} {rest : List Oper} {o : Oper} {a : Act} {Q : Exit → Act → World → Prop} (hgd : o.guard = none) (d s : Operand) (t t' : TypeId)
    (ho : o.op = .call { callee := .builtin .copy, args := #[d, s], argTypes := #[t, t'] }) (v u : Value) (hd : a.eval d = v) (hs : a.eval s = u) {v' : Value} {w' : World}
    (hr : (Builtin.copy_ #[t, t'] o.type #[v, u]).run P w = .ok v' w') (h : wpList P ops Q rest (a.put o.dst v') w') : wpList P ops Q (o :: rest) a w := by
  refine wpList_plain hgd fun K hK => ?_
  unfold Oper.wp execOp
  simp only [ho, resolve, invoke, builtin, Sem.run_bind, Sem.run_pure, Result.andThen_ok, List.map_toArray, List.map_cons, List.map_nil, hd, hs, hr]
  exact hK _ _ h
theorem wpList_clear {w : World} {ops : Array Oper} {rest : List Oper} {o : Oper} {a : Act} {Q : Exit → Act → World → Prop} (hgd : o.guard = none) (d : Operand) (t : TypeId)
    (ho : o.op = .call { callee := .builtin .clear, args := #[d], argTypes := #[t] }) (v : Value) (hd : a.eval d = v) {v' : Value} {w' : World}
    (hr : (Builtin.clear_ #[t] o.type #[v]).run P w = .ok v' w') (h : wpList P ops Q rest (a.put o.dst v') w') : wpList P ops Q (o :: rest) a w := by
  refine wpList_plain hgd fun K hK => ?_
  unfold Oper.wp execOp
  simp only [ho, resolve, invoke, builtin, Sem.run_bind, Sem.run_pure, Result.andThen_ok, List.map_toArray, List.map_cons, List.map_nil, hd, hr]
  exact hK _ _ h
theorem step_copy {ops : Array Oper} {o : Oper} {a : Act} {w : World} {K : Act → World → Prop} {Q : Exit → Act → World → Prop} {E : Prop}
    (hg : o.guard = none) (d x : Operand) (dT sT : TypeId) (hop : o.op = Op.call { callee := Callee.builtin Builtin.copy, args := #[d, x], argTypes := #[dT, sT] })
    (v u : Value) (hd : a.eval d = v) (hx : a.eval x = u) {v' : Value} {w' : World} (hr : (Builtin.copy_ #[dT, sT] o.type #[v, u]).run P w = .ok v' w') (hK : K (a.put o.dst v') w') :
    if Region.wanted o (yielded ops a.tmps) = true then Oper.wp P o a w K Q else E := by
  have hw : Region.wanted o (yielded ops a.tmps) = true := by simp [Region.wanted, hg]
  rw [if_pos hw]
  unfold Oper.wp
  simp [execOp, hop, resolve, invoke, builtin, hd, hx, hr, Result.andThen]
  exact hK
theorem step_append {ops : Array Oper} {o : Oper} {a : Act} {w : World} {K : Act → World → Prop} {Q : Exit → Act → World → Prop} {E : Prop}
    (hg : o.guard = none) (d x : Operand) (dT sT : TypeId) (hop : o.op = Op.call { callee := Callee.builtin Builtin.append, args := #[d, x], argTypes := #[dT, sT] })
    (v u : Value) (hd : a.eval d = v) (hx : a.eval x = u) {v' : Value} {w' : World} (hr : (Builtin.append_ #[dT, sT] o.type #[v, u]).run P w = .ok v' w') (hK : K (a.put o.dst v') w') :
    if Region.wanted o (yielded ops a.tmps) = true then Oper.wp P o a w K Q else E := by
  have hw : Region.wanted o (yielded ops a.tmps) = true := by simp [Region.wanted, hg]
  rw [if_pos hw]
  unfold Oper.wp
  simp [execOp, hop, resolve, invoke, builtin, hd, hx, hr, Result.andThen]
  exact hK
/-- A call of a function value (no captures) in a region that draws. -/
theorem goesV_ {ops : Array Oper} {Q : Exit → Act → World → Prop} {oi : Oper} {N : Option Tmp} {a : Act} {w : World} {K : Act → World → Prop} {f : FuncId} {fn : Func} {c : Operand} {as : Array Operand} {ts : Array TypeId} (hf : P.funcs[f]? = some fn) (hname : (fn.name == "runtime.NumGoroutine") = false) (hb : fn.body.isSome = true) (args : Array Value)
    (hw : Region.wanted oi (yielded ops a.tmps) = true) (hN : oi.dst = N) (hop : oi.op = .call { callee := .value c, args := as, argTypes := ts }) (hc : a.eval c = .func (.func f) #[] #[]) (hargs : as.map a.eval = args)
    (h : Calls P f args w fun e w' => ∃ v, e = .returned v ∧ K (a.put N v) w') : if Region.wanted oi (yielded ops a.tmps) = true then Oper.wp P oi a w K Q else K (a.put N undef) w := by
  refine call_ f args hw hN ?_ h
  have he := enters_ hf hname hb args w
  unfold execOp
  simp [hop, resolve, Deferred.ofValue, invoke, hc, hargs, he]
theorem below_setRow {B g : Nat} {w0 w : World} (hb : Below B w0 w) (hBg : B ≤ g) (cs : Array Value) : Below B w0 (w.setRow g cs) :=
  ⟨hb.os, hb.tape, hb.output, by have := hb.size; simpa [World.setRow] using this, fun k hk => (setRow_other w g k cs (by omega)).trans (hb.block k hk)⟩
/-- What lies behind a row's elements may be written. -/
theorem R_tail {d : Kd α} {e g n c base : Nat} {w : World} {ok : Nat → Prop} {xs : List α} (h : d.R e w base ok (.slice (some ⟨g, 0, none⟩) n c) xs) {cur cs : List Value} (hg : Blk w e g cur)
    (hl : cs.length = cur.length) (ht : cs.take (n * d.sz) = cur.take (n * d.sz)) : d.R e (w.setRow g cs.toArray) base ok (.slice (some ⟨g, 0, none⟩) n c) xs := by
  obtain ⟨cur', hb, hok, hn, hnc, hcm, hg', hcs, hr⟩ := R_open h
  have e1 : cur' = cur := by
    unfold Blk at hg hg'
    rw [hg] at hg'
    injection hg' with hg'
    injection hg' with hg' _
    simpa using hg'.symm
  subst e1
  subst hn
  exact R_close (blk_put hg cs) hb hok hnc hcm (by rw [hl]; exact hcs) (by rw [ht]; exact hr) (fun k _ hk _ => setRow_other w g k _ hk)
end Raw
end Go.Proofs.Ytknljmljlgcfbaa.P
