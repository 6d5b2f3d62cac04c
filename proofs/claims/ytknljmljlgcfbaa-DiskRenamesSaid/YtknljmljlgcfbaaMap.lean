/- Maps of strings, as lists of entries in the order in which they came. No program in sight. -/
import Derived.Maps.Own
import Derived.Maps.RangeRun
import Derived.MapKept
import Derived.Test.YtknljmljlgcfbaaWKept
import Derived.Test.YtknljmljlgcfbaaWMore
namespace Go.Proofs.Ytknljmljlgcfbaa.P
open Go Go.RowKit Go.MapKept Go.Proofs.YtknljmljlgcfbaaW.PrintWords Go.Proofs.YtknljmljlgcfbaaW.PrintLast Go.Proofs.YtknljmljlgcfbaaW.PrintMore
set_option linter.unusedSimpArgs false
set_option linter.unusedVariables false
/-- What a call leaves: all blocks but those of S, and no more of the outer world. -/
structure Fr (w w' : World) (S : Nat → Prop) : Prop where
  os : w'.os = w.os
  tape : w'.tape = w.tape
  output : w'.output = w.output
  kept : Kept w w' S
theorem Fr.refl (w : World) (S : Nat → Prop) : Fr w w S := ⟨rfl, rfl, rfl, Kept.refl w S⟩
theorem Fr.size {w w' : World} {S : Nat → Prop} (h : Fr w w' S) : w.heap.size ≤ w'.heap.size := h.kept.1
theorem Fr.block {w w' : World} {S : Nat → Prop} (h : Fr w w' S) {k : Nat} {o : Obj} (hk : w.heap[k]? = some o) (hn : ¬ S k) : w'.heap[k]? = some o := (h.kept.2 k (blk_lt hk) hn).trans hk
theorem Fr.mono {w w' : World} {S S' : Nat → Prop} (h : Fr w w' S) (hs : ∀ k, S k → S' k) : Fr w w' S' := ⟨h.os, h.tape, h.output, h.kept.mono hs⟩
theorem Fr.trans {w w1 w2 : World} {S S2 : Nat → Prop} (h : Fr w w1 S) (k : Fr w1 w2 S2) (hs : ∀ k, S2 k → S k ∨ w.heap.size ≤ k) : Fr w w2 S :=
  ⟨k.os.trans h.os, k.tape.trans h.tape, k.output.trans h.output, h.kept.then_ k.kept hs⟩
theorem Fr.of_below {w w' : World} (h : Below w.heap.size w w') (S : Nat → Prop) : Fr w w' S := ⟨h.os, h.tape, h.output, Kept.of_below h S⟩
theorem Fr.below {w0 w w' : World} {S : Nat → Prop} {B : Nat} (hb : Below B w0 w) (h : Fr w w' S) (hB : B ≤ w.heap.size) (hs : ∀ k, S k → B ≤ k) : Below B w0 w' :=
  ⟨h.os.trans hb.os, h.tape.trans hb.tape, h.output.trans hb.output, Nat.le_trans hb.size h.size, fun k hk => (h.kept.2 k (by omega) (fun e => by have := hs k e; omega)).trans (hb.block k hk)⟩
theorem Fr.drew {w w' : World} {S : Nat → Prop} (h : Fr w w' S) : Fr w w'.drew S := ⟨h.os, h.tape, h.output, h.kept⟩
theorem Fr.drewN {w w' : World} {S : Nat → Prop} (h : Fr w w' S) (n : Nat) : Fr w (w'.drewN n) S := ⟨h.os, h.tape, h.output, h.kept⟩
theorem Fr.alloc {w w' : World} {S : Nat → Prop} (h : Fr w w' S) (o : Obj) : Fr w (w'.alloc o) S := ⟨h.os, h.tape, h.output, h.kept.alloc o⟩
theorem Fr.setCell {w w' : World} {S : Nat → Prop} (h : Fr w w' S) {p : Addr} (hp : S p.block ∨ w.heap.size ≤ p.block) (u : Value) : Fr w (w'.setCell p u) S := ⟨h.os, h.tape, h.output, h.kept.setCell hp u⟩
theorem Fr.setBlock {w w' : World} {S : Nat → Prop} (h : Fr w w' S) {b : Nat} (hp : S b ∨ w.heap.size ≤ b) (o : Obj) : Fr w (ChangeMaps.setBlock w' b o) S :=
  h.trans (S2 := fun k => k = b) ⟨rfl, rfl, rfl, by simp [ChangeMaps.setBlock], fun i _ hi => by
    show (w'.heap.setIfInBounds b o)[i]? = _
    exact Array.getElem?_setIfInBounds_ne (fun e => hi e.symm)⟩ (fun k hk => by rw [hk]; exact hp)
abbrev Ent := List (ByteArray × Value)
def SMap (w : World) (m : Nat) (F : Ent) : Prop :=
  ∃ es clock, w.heap[m]? = some (.map es clock) ∧ Stamped es clock ∧ es.toList.map (fun e => (e.key, e.val)) = F.map (fun p => (Value.string p.1, p.2))
theorem SMap.lt {w : World} {m : Nat} {F : Ent} (h : SMap w m F) : m < w.heap.size := by
  obtain ⟨es, clock, hb, _⟩ := h
  exact blk_lt hb
theorem SMap.later {w w' : World} {m : Nat} {F : Ent} (h : SMap w m F) (hb : w'.heap[m]? = w.heap[m]?) : SMap w' m F := by
  obtain ⟨es, clock, hb', h2⟩ := h
  exact ⟨es, clock, hb.trans hb', h2⟩
theorem SMap.fr {w w' : World} {m : Nat} {F : Ent} {S : Nat → Prop} (h : SMap w m F) (hf : Fr w w' S) (hn : ¬ S m) : SMap w' m F := h.later (hf.kept.2 m h.lt hn)
theorem SMap.made (w : World) : SMap (w.alloc (.map #[] 0)) w.heap.size [] := ⟨#[], 0, (MapKept.heap_alloc w _).1, stamped_empty 0, rfl⟩
def ixF : Ent → ByteArray → Option (Nat × Value)
  | [], _ => none
  | p :: F, n => if p.1 = n then some (0, p.2) else (ixF F n).map (fun q => (q.1 + 1, q.2))
def lk (F : Ent) (n : ByteArray) : Option Value := (ixF F n).map (·.2)
def putF (F : Ent) (n : ByteArray) (v : Value) : Ent := match ixF F n with | some q => F.set q.1 (n, v) | none => F ++ [(n, v)]
def delF (F : Ent) (n : ByteArray) : Ent := match ixF F n with | some q => F.eraseIdx q.1 | none => F
theorem ixF_at : ∀ (F : Ent) (n : ByteArray) (j : Nat) (v : Value), ixF F n = some (j, v) → F[j]? = some (n, v)
  | [], _, _, _, h => by cases h
  | p :: F, n, j, v, h => by
    unfold ixF at h
    split at h
    · rename_i e
      cases h
      rw [← e]; rfl
    · obtain ⟨q, hq, e⟩ := Option.map_eq_some_iff.1 h
      cases e
      exact ixF_at F n q.1 q.2 hq
theorem ixF_none : ∀ (F : Ent) (n : ByteArray), ixF F n = none → ∀ p ∈ F, p.1 ≠ n
  | [], _, _, p, hp => by cases hp
  | q :: F, n, h, p, hp => by
    unfold ixF at h
    split at h
    · cases h
    · rename_i e
      cases hp with
      | head => exact e
      | tail _ hp => exact ixF_none F n (Option.map_eq_none_iff.1 h) p hp
theorem findNow_is : ∀ (l : List MapEntry) (F : Ent) (n : ByteArray) (i : Nat), l.map (fun e => (e.key, e.val)) = F.map (fun p => (Value.string p.1, p.2)) → Instr.findNow .string (.string n) l i = some ((ixF F n).map (fun q => (i + q.1, q.2)))
  | [], F, n, i, h => by
    cases F with
    | nil => rfl
    | cons p F => cases h
  | e :: l, F, n, i, h => by
    cases F with
    | nil => cases h
    | cons p F =>
      simp only [List.map_cons, List.cons.injEq, Prod.mk.injEq] at h
      obtain ⟨⟨hk, hv⟩, ht⟩ := h
      unfold Instr.findNow ixF
      rw [hk]
      simp only [Instr.sameNow]
      by_cases e1 : p.1 = n
      · have b1 : (n == p.1) = true := (bytes_beq _ _).2 e1.symm
        rw [b1, if_pos e1, hv]; rfl
      · have b1 : (n == p.1) = false := by
          cases hb : (n == p.1) with
          | false => rfl
          | true => exact absurd ((bytes_beq _ _).1 hb).symm e1
        rw [b1, if_neg e1]
        simp only [findNow_is l F n (i + 1) ht, Option.map_map]
        congr 1
        cases ixF F n with
        | none => rfl
        | some q => simp; omega
section
variable {P : Program} {T K E : TypeId}
theorem SMap.lookup {w : World} {m : Nat} {F : Ent} (ht : P.underlying T = some (.map K E)) (hk : P.underlying K = some .string) {z : Value} (hz : ∀ w, (zeroValue E).run P w = .ok z w) (h : SMap w m F) (n : ByteArray) :
    (Instr.lookup T (.map (some m)) (.string n) true).run P w = .ok (.tuple #[(lk F n).getD z, .bool (lk F n).isSome]) w := by
  obtain ⟨es, clock, hb, hs, hF⟩ := h
  have hf := findNow_is es.toList F n 0 hF
  cases hx : ixF F n with
  | none =>
    rw [hx] at hf
    simp [Instr.lookup, run_underlying ht, MapKept.run_getObj_map hb, MapKept.run_checkKey hk (show IsKey .string (.string n) from trivial), MapKept.run_findKey hk hf, hz, Result.andThen, lk, hx]
  | some q =>
    rw [hx] at hf
    simp [Instr.lookup, run_underlying ht, MapKept.run_getObj_map hb, MapKept.run_checkKey hk (show IsKey .string (.string n) from trivial), MapKept.run_findKey hk hf, hz, Result.andThen, lk, hx]
theorem SMap.lookup1 {w : World} {m : Nat} {F : Ent} (ht : P.underlying T = some (.map K E)) (hk : P.underlying K = some .string) {z : Value} (hz : ∀ w, (zeroValue E).run P w = .ok z w) (h : SMap w m F) (n : ByteArray) :
    (Instr.lookup T (.map (some m)) (.string n) false).run P w = .ok ((lk F n).getD z) w := by
  obtain ⟨es, clock, hb, hs, hF⟩ := h
  have hf := findNow_is es.toList F n 0 hF
  cases hx : ixF F n with
  | none =>
    rw [hx] at hf
    simp [Instr.lookup, run_underlying ht, MapKept.run_getObj_map hb, MapKept.run_checkKey hk (show IsKey .string (.string n) from trivial), MapKept.run_findKey hk hf, hz, Result.andThen, lk, hx]
  | some q =>
    rw [hx] at hf
    simp [Instr.lookup, run_underlying ht, MapKept.run_getObj_map hb, MapKept.run_checkKey hk (show IsKey .string (.string n) from trivial), MapKept.run_findKey hk hf, hz, Result.andThen, lk, hx]
theorem map_modify (es : Array MapEntry) (j : Nat) (n : ByteArray) (v : Value) (F : Ent) (hF : es.toList.map (fun e => (e.key, e.val)) = F.map (fun p => (Value.string p.1, p.2))) :
    (es.modify j fun e => { e with key := .string n, val := v }).toList.map (fun e => (e.key, e.val)) = (F.set j (n, v)).map (fun p => (Value.string p.1, p.2)) := by
  apply List.ext_getElem?
  intro i
  have hi := congrArg (fun l => l[i]?) hF
  simp only [List.getElem?_map] at hi
  simp only [List.getElem?_map, Array.getElem?_toList, Array.getElem?_modify, List.getElem?_set] at hi ⊢
  by_cases e : j = i
  · subst e
    rw [if_pos rfl, if_pos rfl]
    cases h1 : es[j]? with
    | none =>
      rw [h1] at hi
      have : ¬ j < F.length := by
        intro hl
        rw [List.getElem?_eq_getElem hl] at hi
        cases hi
      rw [if_neg this]; rfl
    | some x =>
      rw [h1] at hi
      have : j < F.length := by
        cases h2 : F[j]? with
        | none => rw [h2] at hi; cases hi
        | some y => exact (List.getElem?_eq_some_iff.1 h2).1
      rw [if_pos this]; rfl
  · rw [if_neg e, if_neg e]
    exact hi
theorem SMap.update {w : World} {m : Nat} {F : Ent} (ht : P.underlying T = some (.map K E)) (hk : P.underlying K = some .string) (h : SMap w m F) (n : ByteArray) (v : Value) :
    ∃ w', (Instr.mapUpdate T (.map (some m)) (.string n) v).run P w = .ok () w' ∧ SMap w' m (putF F n v) ∧ Fr w w' (fun k => k = m) ∧ w'.heap.size = w.heap.size := by
  obtain ⟨es, clock, hb, hs, hF⟩ := h
  have hf := findNow_is es.toList F n 0 hF
  have hkn : IsKey .string (.string n) := trivial
  have fr : ∀ o, Fr w { w with heap := w.heap.setIfInBounds m o } (fun k => k = m) := fun o => (Fr.refl w (fun k => k = m)).setBlock (b := m) (.inl rfl) o
  cases hx : ixF F n with
  | none =>
    rw [hx] at hf
    refine ⟨{ w with heap := w.heap.setIfInBounds m (.map (es.push { key := .string n, val := v, born := clock }) (clock + 1)) }, ?_, ⟨_, _, (heap_set hb).1, stamped_push hs ?_, ?_⟩, fr _, by simp⟩
    · simp [Instr.mapUpdate, run_underlying ht, MapKept.run_getObj_map hb, MapKept.run_checkKey hk hkn, MapKept.run_findKey hk hf, MapKept.run_setObj_map _ hb, Result.andThen]
    · intro x hx' e
      have hm : (x.key, x.val) ∈ F.map (fun p => (Value.string p.1, p.2)) := by rw [← hF]; exact List.mem_map.2 ⟨x, hx', rfl⟩
      obtain ⟨p, hp, e2⟩ := List.mem_map.1 hm
      have := congrArg Prod.fst e2
      simp only at this
      rw [e] at this
      injection this with this
      exact ixF_none F n hx p hp this
    · unfold putF
      rw [hx]
      simp only [Array.toList_push, List.map_append, List.map_cons, List.map_nil, hF]
  | some q =>
    rw [hx] at hf
    have hq := ixF_at F n q.1 q.2 hx
    have hes : ∃ e, es[q.1]? = some e ∧ e.key = .string n := by
      have hi := congrArg (fun l => l[q.1]?) hF
      simp only [List.getElem?_map, Array.getElem?_toList, hq, Option.map_some] at hi
      cases h1 : es[q.1]? with
      | none => rw [h1] at hi; cases hi
      | some e =>
        rw [h1] at hi
        simp only [Option.map_some, Option.some.injEq, Prod.mk.injEq] at hi
        exact ⟨e, rfl, hi.1⟩
    obtain ⟨e, he, hek⟩ := hes
    refine ⟨{ w with heap := w.heap.setIfInBounds m (.map (es.modify q.1 fun e => { e with key := .string n, val := v }) clock) }, ?_, ⟨_, _, (heap_set hb).1, stamped_modify hs _ _ (fun _ _ => rfl) (fun e' _ he' => by rw [he] at he'; cases he'; exact hek.symm), ?_⟩, fr _, by simp⟩
    · simp [Instr.mapUpdate, run_underlying ht, MapKept.run_getObj_map hb, MapKept.run_checkKey hk hkn, MapKept.run_findKey hk hf, he, hek, MapKept.run_keyThatStays hkn, MapKept.run_setObj_map _ hb, Result.andThen]
    · unfold putF
      rw [hx]
      exact map_modify es q.1 n v F hF
theorem SMap.delete {w : World} {m : Nat} {F : Ent} (ht : P.underlying T = some (.map K E)) (hk : P.underlying K = some .string) (h : SMap w m F) (n : ByteArray) (ty : TypeId) :
    ∃ w', (Builtin.delete_ #[T, K] ty #[.map (some m), .string n]).run P w = .ok (.tuple #[]) w' ∧ SMap w' m (delF F n) ∧ Fr w w' (fun k => k = m) ∧ w'.heap.size = w.heap.size := by
  obtain ⟨es, clock, hb, hs, hF⟩ := h
  have hf := findNow_is es.toList F n 0 hF
  have hkn : IsKey .string (.string n) := trivial
  have fr : ∀ o, Fr w { w with heap := w.heap.setIfInBounds m o } (fun k => k = m) := fun o => (Fr.refl w (fun k => k = m)).setBlock (b := m) (.inl rfl) o
  cases hx : ixF F n with
  | none =>
    rw [hx] at hf
    refine ⟨{ w with heap := w.heap.setIfInBounds m (.map es clock) }, ?_, ⟨_, _, (heap_set hb).1, hs, ?_⟩, fr _, by simp⟩
    · simp [Builtin.delete_, run_underlying ht, MapKept.run_getObj_map hb, MapKept.run_checkKey hk hkn, MapKept.run_findKey hk hf, MapKept.run_setObj_map _ hb, Result.andThen]
    · unfold delF
      rw [hx]; exact hF
  | some q =>
    rw [hx] at hf
    refine ⟨{ w with heap := w.heap.setIfInBounds m (.map (es.eraseIdxIfInBounds q.1) clock) }, ?_, ⟨_, _, (heap_set hb).1, stamped_erase hs _, ?_⟩, fr _, by simp⟩
    · simp [Builtin.delete_, run_underlying ht, MapKept.run_getObj_map hb, MapKept.run_checkKey hk hkn, MapKept.run_findKey hk hf, MapKept.run_setObj_map _ hb, Result.andThen]
    · unfold delF
      rw [hx]
      have hq := (List.getElem?_eq_some_iff.1 (ixF_at F n q.1 q.2 hx)).1
      have hl : es.toList.length = F.length := by have := congrArg List.length hF; simpa using this
      unfold Array.eraseIdxIfInBounds
      have hlt : q.1 < es.size := by rw [Array.length_toList] at hl; omega
      rw [dif_pos hlt]
      simp only [Array.toList_eraseIdx]
      rw [ChangeMaps.map_eraseIdx, hF, ChangeMaps.map_eraseIdx]
theorem SMap.len {w : World} {m : Nat} {F : Ent} (ht : P.underlying T = some (.map K E)) (h : SMap w m F) (ty : TypeId) : (Builtin.len_ #[T] ty #[.map (some m)]).run P w = .ok (goInt F.length) w := by
  obtain ⟨es, clock, hb, hs, hF⟩ := h
  have hl : es.size = F.length := by have := congrArg List.length hF; simpa using this
  simp [Builtin.len_, Builtin.lenOf, run_underlying ht, MapKept.run_getObj_map hb, Result.andThen, hl]
/-! ranging over one -/
/-- An iterator at block r over the map at block m: these are still to come. -/
def SIter (w : World) (r m : Nat) (F left : Ent) : Prop :=
  ∃ es clock since seen c0, w.heap[r]? = some (.mapIter (some m) since seen c0) ∧ w.heap[m]? = some (.map es clock) ∧ Stamped es clock ∧ es.toList.map (fun e => (e.key, e.val)) = F.map (fun p => (Value.string p.1, p.2)) ∧ (∀ x ∈ es.toList, x.born < since) ∧ since ≤ c0 ∧ c0 ≤ clock ∧ clock ≤ since ∧
    (leftOf es seen).toList.map (fun e => (e.key, e.val)) = left.map (fun p => (Value.string p.1, p.2))
theorem size_alloc' (w : World) (o : Obj) : (w.alloc o).heap.size = w.heap.size + 1 := Array.size_push _
theorem SMap.range {w : World} {m : Nat} {F : Ent} (ht : P.underlying T = some (.map K E)) (h : SMap w m F) :
    ∃ w', (Instr.range T (.map (some m))).run P w = .ok (.pointer (some ⟨w.heap.size, 0, none⟩)) w' ∧ SIter w' w.heap.size m F F ∧ Below w.heap.size w w' ∧ w'.heap.size = w.heap.size + 1 := by
  obtain ⟨es, clock, hb, hs, hF⟩ := h
  refine ⟨w.alloc (.mapIter (some m) clock #[] clock), ?_, ⟨es, clock, clock, #[], clock, (MapKept.heap_alloc w _).1, ((MapKept.heap_alloc w _).2 m (blk_lt hb)).trans hb, hs, hF, hs.1, Nat.le_refl _, Nat.le_refl _, Nat.le_refl _, ?_⟩, below_alloc (Below.refl _ _) _, size_alloc' _ _⟩
  · simp [Instr.range, run_underlying ht, MapKept.run_getObj_map hb, Result.andThen]
  · rw [← hF]
    congr 1
    simp [leftOf]
theorem filter_eraseIdx : ∀ (L : List MapEntry) (i : Nat) (h : i < L.length), (L.map (·.born)).Nodup → L.filter (fun x => !(x.born == L[i].born)) = L.eraseIdx i
  | [], i, h, _ => absurd h (by simp)
  | x :: L, 0, h, hn => by
    simp only [List.map_cons, List.nodup_cons, List.mem_map, not_exists, not_and] at hn
    simp only [List.getElem_cons_zero, List.eraseIdx_zero, List.tail_cons, List.filter_cons, beq_self_eq_true, Bool.not_true, Bool.false_eq_true, if_false]
    refine List.filter_eq_self.2 (fun y hy => ?_)
    have := hn.1 y hy
    simp [this]
  | x :: L, i + 1, h, hn => by
    simp only [List.map_cons, List.nodup_cons, List.mem_map, not_exists, not_and] at hn
    have hi : i < L.length := by simpa using h
    have := hn.1 L[i] (List.getElem_mem hi)
    have e : (x.born == L[i].born) = false := beq_eq_false_iff_ne.2 (fun e => this e.symm)
    simp only [List.getElem_cons_succ, List.eraseIdx_cons_succ, List.filter_cons, e, Bool.not_false, if_true]
    rw [filter_eraseIdx L i hi hn.2]
theorem SIter.ne {w : World} {r m : Nat} {F left : Ent} (h : SIter w r m F left) : r ≠ m := by
  obtain ⟨es, clock, since, seen, c0, hr, hm, _⟩ := h
  rintro rfl
  rw [hr] at hm
  cases hm
theorem SIter.lt {w : World} {r m : Nat} {F left : Ent} (h : SIter w r m F left) : r < w.heap.size ∧ m < w.heap.size := by
  obtain ⟨es, clock, since, seen, c0, hr, hm, _⟩ := h
  exact ⟨blk_lt hr, blk_lt hm⟩
theorem SIter.later {w w' : World} {r m : Nat} {F left : Ent} (h : SIter w r m F left) (h1 : w'.heap[r]? = w.heap[r]?) (h2 : w'.heap[m]? = w.heap[m]?) : SIter w' r m F left := by
  obtain ⟨es, clock, since, seen, c0, hr, hm, h3⟩ := h
  exact ⟨es, clock, since, seen, c0, h1.trans hr, h2.trans hm, h3⟩
theorem SIter.smap {w : World} {r m : Nat} {F left : Ent} (h : SIter w r m F left) : SMap w m F := by
  obtain ⟨es, clock, since, seen, c0, hr, hm, hs, hF, _⟩ := h
  exact ⟨es, clock, hm, hs, hF⟩
theorem SIter.alloc {w : World} {r m : Nat} {F left : Ent} (h : SIter w r m F left) (o : Obj) : SIter (w.alloc o) r m F left := h.later ((MapKept.heap_alloc w o).2 r h.lt.1) ((MapKept.heap_alloc w o).2 m h.lt.2)
theorem SMap.alloc {w : World} {m : Nat} {F : Ent} (h : SMap w m F) (o : Obj) : SMap (w.alloc o) m F := h.later ((MapKept.heap_alloc w o).2 m h.lt)
theorem SMap.setCell {w : World} {m : Nat} {F : Ent} (h : SMap w m F) (p : Addr) (v : Value) : SMap (w.setCell p v) m F := by
  obtain ⟨es, clock, hb, h2⟩ := h
  refine ⟨es, clock, ?_, h2⟩
  unfold World.setCell
  simp only [Array.getElem?_modify]
  by_cases e : p.block = m
  · rw [if_pos e, hb]; rfl
  · rw [if_neg e, hb]
theorem SMap.drew {w : World} {m : Nat} {F : Ent} (h : SMap w m F) : SMap w.drew m F := h
theorem SMap.drewN {w : World} {m : Nat} {F : Ent} (h : SMap w m F) (n : Nat) : SMap (w.drewN n) m F := h
/-- How many are still to come: a measure. -/
def iterLeft (w : World) (r : Nat) : Nat := match w.heap[r]? with
  | some (.mapIter (some m) _ seen _) => (match w.heap[m]? with
    | some (.map es _) => (leftOf es seen).size
    | _ => 0)
  | _ => 0
theorem SIter.left_eq {w : World} {r m : Nat} {F left : Ent} (h : SIter w r m F left) : iterLeft w r = left.length := by
  obtain ⟨es, clock, since, seen, c0, hr, hm, _, _, _, _, _, _, hl⟩ := h
  have := congrArg List.length hl
  simp only [List.length_map, Array.length_toList] at this
  simp [iterLeft, hr, hm, this]
theorem SIter.next {w : World} {r m : Nat} {F left : Ent} (h : SIter w r m F left) (ty : TypeId) :
    (left = [] ∧ (Instr.next (.pointer (some ⟨r, 0, none⟩)) false ty).run P w = .ok (.tuple #[.bool false]) w) ∨
    ∃ i p w', left[i]? = some p ∧ (Instr.next (.pointer (some ⟨r, 0, none⟩)) false ty).run P w = .ok (.tuple #[.bool true, .string p.1, p.2]) w' ∧ SIter w' r m F (left.eraseIdx i) ∧ Fr w w' (fun k => k = r) ∧ w'.heap.size = w.heap.size ∧
      (Instr.entry (.pointer (some ⟨r, 0, none⟩))).run P w' = .ok (.tuple #[.string p.1, p.2]) w' := by
  have hne := h.ne
  obtain ⟨es, clock, since, seen, c0, hr, hm, hs, hF, hb, h1, h2, h3, hl⟩ := h
  rcases run_next_at (P := P) w ty r m since c0 seen es clock hr hm hb h1 with ⟨h0, hrun⟩ | ⟨e, he, w1, hw1, hrun⟩
  · left
    refine ⟨?_, hrun⟩
    have : (leftOf es seen).toList = [] := by
      apply List.eq_nil_of_length_eq_zero
      rw [Array.length_toList]; exact h0
    rw [this] at hl
    cases left with
    | nil => rfl
    | cons p l => cases hl
  · right
    obtain ⟨i, hi, rfl⟩ := List.mem_iff_getElem.1 he
    have hli : i < left.length := by
      have := congrArg List.length hl
      simp only [List.length_map] at this
      omega
    have hp := congrArg (fun l => l[i]?) hl
    simp only [List.getElem?_map, List.getElem?_eq_getElem hi, List.getElem?_eq_getElem hli, Option.map_some, Option.some.injEq, Prod.mk.injEq] at hp
    obtain ⟨hk, hv⟩ := hp
    obtain ⟨e, he'⟩ : ∃ e, e = (leftOf es seen).toList[i] := ⟨_, rfl⟩
    have hmem : e ∈ es.toList := by
      rw [← he'] at he
      unfold leftOf at he
      simp only [Array.mem_toList_iff, Array.mem_filter] at he ⊢
      exact he.1
    have hw1h : w1.heap = w.heap := by rcases hw1 with rfl | rfl <;> rfl
    have hrl := blk_lt hr
    have b1 : (ChangeMaps.setBlock w1 r (.mapIter (some m) since (seen.push e.born) clock)).heap[r]? = some (.mapIter (some m) since (seen.push e.born) clock) := by
      show (w1.heap.setIfInBounds r _)[r]? = _
      rw [hw1h]
      exact (heap_set hr).1
    have b2 : (ChangeMaps.setBlock w1 r (.mapIter (some m) since (seen.push e.born) clock)).heap[m]? = some (.map es clock) := by
      show (w1.heap.setIfInBounds r _)[m]? = _
      rw [hw1h]
      exact ((heap_set hr).2 m hne.symm).trans hm
    rw [← he'] at hrun hk hv
    refine ⟨i, left[i], _, List.getElem?_eq_getElem hli, by rw [← hk, ← hv]; exact hrun, ⟨es, clock, since, seen.push e.born, clock, b1, b2, hs, hF, hb, by omega, Nat.le_refl _, by omega, ?_⟩, ?_, ?_, by rw [← hk, ← hv]; exact run_entry_at _ r m since seen es clock e b1 b2 hmem hs.2.1⟩
    · have hnd : ((leftOf es seen).toList.map (·.born)).Nodup := by
        refine List.Nodup.sublist (List.Sublist.map _ ?_) hs.2.1
        unfold leftOf
        rw [Array.toList_filter]
        exact List.filter_sublist
      have e2 : (leftOf es (seen.push e.born)).toList = (leftOf es seen).toList.filter (fun x => !(x.born == (leftOf es seen).toList[i].born)) := by
        rw [← he']
        unfold leftOf
        simp only [Array.toList_filter, List.filter_filter]
        congr 1
        funext x
        simp only [Array.contains_push, Bool.not_or]
        rw [Bool.and_comm, Bool.beq_comm (a := x.born)]
      rw [e2, filter_eraseIdx _ i hi hnd, ChangeMaps.map_eraseIdx, hl, ChangeMaps.map_eraseIdx]
    · refine ⟨?_, ?_, ?_, ?_, ?_⟩
      · rcases hw1 with rfl | rfl <;> rfl
      · rcases hw1 with rfl | rfl <;> rfl
      · rcases hw1 with rfl | rfl <;> rfl
      · simp [ChangeMaps.setBlock, hw1h]
      · intro k hk' hn
        show (w1.heap.setIfInBounds r _)[k]? = _
        rw [hw1h]
        exact (heap_set hr).2 k hn
    · simp [ChangeMaps.setBlock, hw1h]
end
end Go.Proofs.Ytknljmljlgcfbaa.P
