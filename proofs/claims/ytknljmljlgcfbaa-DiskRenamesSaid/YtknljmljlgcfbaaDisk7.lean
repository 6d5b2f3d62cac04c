/- By hand: the disk: Names. -/
import Derived.Test.YtknljmljlgcfbaaDisk6
import Derived.Test.YtknljmljlgcfbaaHIter
import Derived.Sort.Walk0
import Derived.StringKeys
namespace Go.Proofs.Ytknljmljlgcfbaa.P
open Go.RowKit Go.Proofs.YtknljmljlgcfbaaW.PrintWords Go.Proofs.YtknljmljlgcfbaaW.PrintLast Go.Proofs.YtknljmljlgcfbaaW.PrintMore
open Go.Proofs.Ytknljmljlgcfbaa
set_option linter.unusedSimpArgs false
set_option linter.unusedVariables false
def lessN (x y : ByteArray) : Bool := Op.bytesLess x.toList y.toList
theorem blN_irrefl : ∀ x : List UInt8, Op.bytesLess x x = false
  | [] => rfl
  | a :: x => by
    unfold Op.bytesLess
    rw [blN_irrefl x]
    simp
theorem blN_trans : ∀ x y z : List UInt8, Op.bytesLess x y = true → Op.bytesLess y z = true → Op.bytesLess x z = true
  | _, [], _, h, _ => by simp [Op.bytesLess] at h
  | _, _ :: _, [], _, h => by simp [Op.bytesLess] at h
  | [], _ :: _, _ :: _, _, _ => rfl
  | a :: x, b :: y, c :: z, h1, h2 => by
    unfold Op.bytesLess at h1 h2 ⊢
    simp only [Bool.or_eq_true, decide_eq_true_eq, Bool.and_eq_true, beq_iff_eq] at h1 h2 ⊢
    rcases h1 with h1 | ⟨rfl, h1⟩
    · rcases h2 with h2 | ⟨rfl, h2⟩
      · exact .inl (UInt8.lt_trans h1 h2)
      · exact .inl h1
    · rcases h2 with h2 | ⟨rfl, h2⟩
      · exact .inl h2
      · exact .inr ⟨rfl, blN_trans x y z h1 h2⟩
theorem blN_tri : ∀ x y : List UInt8, Op.bytesLess x y = false → Op.bytesLess y x = false → x = y
  | [], [], _, _ => rfl
  | [], _ :: _, h, _ => by simp [Op.bytesLess] at h
  | _ :: _, [], _, h => by simp [Op.bytesLess] at h
  | a :: x, b :: y, h1, h2 => by
    unfold Op.bytesLess at h1 h2
    simp only [Bool.or_eq_false_iff, decide_eq_false_iff_not, Bool.and_eq_false_iff, beq_eq_false_iff_ne] at h1 h2
    have e : a = b := by
      have := h1.1
      have := h2.1
      exact UInt8.le_antisymm (UInt8.not_lt.1 (by assumption)) (UInt8.not_lt.1 h1.1)
    subst e
    rw [blN_tri x y (by rcases h1.2 with h | h; exact absurd rfl h; exact h) (by rcases h2.2 with h | h; exact absurd rfl h; exact h)]
theorem ext_list {x y : ByteArray} (h : x.toList = y.toList) : x = y := by
  have h2 : x.data.toList = y.data.toList := by rw [← Lib.toList_data, ← Lib.toList_data, h]
  obtain ⟨x⟩ := x
  obtain ⟨y⟩ := y
  simp only at h2
  rw [Array.toList_inj.1 h2]
/-- Two rising rows of the same things are one. -/
theorem perm_rising {α : Type} {lt : α → α → Prop} (irr : ∀ a, ¬ lt a a) (tr : ∀ a b c, lt a b → lt b c → lt a c) : ∀ {l1 l2 : List α}, l1.Perm l2 → l1.Pairwise lt → l2.Pairwise lt → l1 = l2
  | [], l2, hp, _, _ => (List.Perm.nil_eq hp)
  | a :: l1, [], hp, _, _ => absurd hp.symm (List.not_perm_nil_cons a l1)
  | a :: l1, b :: l2, hp, h1, h2 => by
    rw [List.pairwise_cons] at h1 h2
    have e : a = b := by
      have ha : a ∈ b :: l2 := hp.subset (.head _)
      have hb : b ∈ a :: l1 := hp.symm.subset (.head _)
      cases ha with
      | head => rfl
      | tail _ ha =>
        cases hb with
        | head => rfl
        | tail _ hb => exact absurd (tr _ _ _ (h2.1 a ha) (h1.1 b hb)) (irr b)
    subst e
    rw [perm_rising irr tr (List.Perm.cons_inv hp) h1.2 h2.2]
/-- The names, each once, rising. -/
structure NamesOf (F : List DFile) (xs : List ByteArray) : Prop where
  perm : xs.Perm (F.map (·.name))
  rise : xs.Pairwise (fun x y => lessN x y = true)
structure OkD (F : List DFile) : Prop where
  nd : (F.map (·.name)).Nodup
  named : ∀ f ∈ F, f.name.size ≤ 64
  text : ∀ f ∈ F, f.text.size ≤ 65536 ∧ 0 ≤ f.safe ∧ f.safe ≤ f.text.size
  used : usedD F ≤ 1048576
  many : F.length ≤ 64
open Go.Maps Go.Sort Go.Shelf Go.WideShapes in
theorem SMap.owns {w : World} {m : Nat} {F : List DFile} (h : SMap w m (encF F)) (hk : OkD F) :
    ∃ D : DataW Unit, w.ownsMap Try.prog 9 (fun _ => some (DataW.nil, [])) m 64 D ∧ Maps.size D ≤ 64 ∧ (strKeys D).Perm (F.map (fun f => f.name.data.toList)) := by
  obtain ⟨es, clock, hb, hs, hF⟩ := h
  have hlen : es.toList.length = F.length := by
    have := congrArg List.length hF
    unfold encF at this
    simpa using this
  have h64 := hk.many
  have hrd : ∀ x ∈ es.toList, ∃ n : ByteArray, x.key = .string n ∧ WideElems.rd (H := Unit) Try.prog 9 (fun _ => some (DataW.nil, [])) x = some (.string n.data.toList, .nil) := by
    intro x hx
    have hm : (x.key, x.val) ∈ (encF F).map (fun p => (Value.string p.1, p.2)) := by rw [← hF]; exact List.mem_map.2 ⟨x, hx, rfl⟩
    obtain ⟨p, hp, e⟩ := List.mem_map.1 hm
    obtain ⟨f, hf, rfl⟩ := List.mem_map.1 hp
    have ek : x.key = .string f.name := (congrArg Prod.fst e).symm
    refine ⟨f.name, ek, ?_⟩
    have hsz : f.name.size ≤ maxLen := by have := hk.named f hf; unfold maxLen; omega
    unfold WideElems.rd
    rw [ek, WideMaps.keyOf_string_mk Try.underlying9 hsz]
    rfl
  refine ⟨.map ((es.toList.map (WideElems.rg Try.prog 9 (fun _ => some (DataW.nil, [])))).foldr DataW.insert []), ⟨es, clock, hb, ⟨?_, hs, fun x hx => ?_⟩, ?_, rfl⟩, ?_, ?_⟩
  · have : es.size = F.length := by rw [← hlen, Array.length_toList]
    unfold maxLen; omega
  · obtain ⟨n, _, e⟩ := hrd x hx
    exact ⟨_, e⟩
  · have : es.size = F.length := by rw [← hlen, Array.length_toList]
    omega
  · show ((es.toList.map _).foldr DataW.insert []).length ≤ 64
    rw [(sorted_perm _).length_eq, List.length_map]
    omega
  · show (((es.toList.map _).foldr DataW.insert []).map fun p => strOf p.1).Perm _
    refine ((sorted_perm _).map _).trans ?_
    rw [List.map_map]
    have e1 : es.toList.map ((fun p => strOf p.1) ∘ WideElems.rg (H := Unit) Try.prog 9 (fun _ => some (DataW.nil, []))) = (es.toList.map (fun e => (e.key, e.val))).map (fun kv => match kv.1 with | .string s => s.data.toList | _ => []) := by
      rw [List.map_map]
      refine List.map_congr_left (fun x hx => ?_)
      obtain ⟨n, ek, e⟩ := hrd x hx
      simp only [Function.comp]
      rw [WideElems.rg_of e, ek]
      rfl
    rw [e1, hF]
    unfold encF
    rw [List.map_map, List.map_map]
    exact List.Perm.refl _
open Go.Maps Go.Sort Go.Shelf in
theorem names_sorted {F : List DFile} (hk : OkD F) {ss : List (List UInt8)} (hp : ss.Perm (F.map (fun f => f.name.data.toList))) : NamesOf F ((ss.mergeSort (fun x y => decide (x ≤ y))).map (fun s => (⟨s.toArray⟩ : ByteArray))) := by
  have hps : (ss.mergeSort (fun x y => decide (x ≤ y))).Perm (F.map (fun f => f.name.data.toList)) := (List.mergeSort_perm ss _).trans hp
  have hp2 : ((ss.mergeSort (fun x y => decide (x ≤ y))).map (fun s => (⟨s.toArray⟩ : ByteArray))).Perm (F.map (·.name)) := by
    refine (hps.map _).trans ?_
    rw [List.map_map]
    exact List.Perm.refl _
  refine ⟨hp2, ?_⟩
  have hle : (ss.mergeSort (fun x y => decide (x ≤ y))).Pairwise (fun a b => decide (a ≤ b) = true) := List.pairwise_mergeSort (le := fun x y : List UInt8 => decide (x ≤ y)) (fun a b c h1 h2 => decide_eq_true (List.le_trans (of_decide_eq_true h1) (of_decide_eq_true h2))) (fun a b => by
    rcases List.le_total a b with h | h
    · simp [h]
    · simp [h]) ss
  have hnd : (ss.mergeSort (fun x y => decide (x ≤ y))).Nodup := by
    have := hk.nd
    have h2 := hp2.nodup_iff.2 this
    rw [List.Nodup, List.pairwise_map] at h2
    exact h2.imp (fun h e => h (by rw [e]))
  rw [List.pairwise_map]
  refine (hle.and hnd).imp (fun {a b} h => ?_)
  have h1 := of_decide_eq_true h.1
  unfold lessN
  rw [Lib.toList_data, Lib.toList_data]
  show Op.bytesLess a b = true
  cases hx : Op.bytesLess a b with
  | true => rfl
  | false =>
    refine absurd (blN_tri a b hx ?_) h.2
    rw [bytesLess_eq]
    exact decide_eq_false (List.not_lt.2 h1)
open Go.Maps Go.Sort Go.Shelf in
/-- The sorted keys: a row of the call's own. -/
theorem row_names {W : World} {base : Nat} {v : Value} {xs : List ByteArray} {ss : List (List UInt8)} (hx : xs = ss.map (fun s => (⟨s.toArray⟩ : ByteArray))) (h : W.ownsRow base 9 1 v ss.length (ss.map encStr)) : Kd.R Kd.string 9 W base (fun _ => True) v xs := by
  refine ⟨fun _ _ => trivial, ss.map encStr, ?_, ?_⟩
  · rw [hx, List.length_map]; exact h
  · refine ⟨by rw [hx]; simp [Kd.string, Kd.scalar], fun j p hj => ?_⟩
    rw [hx, List.getElem?_map] at hj
    obtain ⟨q, hq, rfl⟩ := Option.map_eq_some_iff.1 hj
    show Kd.M Kd.string _ _ _ _ _
    have e : ((ss.map encStr).drop (j * 1)).take 1 = [encStr q] := by
      rw [Nat.mul_one, List.drop_eq_getElem_cons (by rw [List.length_map]; exact (List.getElem?_eq_some_iff.1 hq).1)]
      simp only [List.take_succ_cons, List.take_zero, List.getElem_map]
      rw [(List.getElem?_eq_some_iff.1 hq).2]
    have e2 : Kd.string.sz = 1 := rfl
    rw [e2, e]
    exact rfl
open Go.Maps Go.Sort Go.Shelf in
theorem disk_keys (w : World) (m : Nat) (F : List DFile) (h : SMap w m (encF F)) (hk : OkD F) :
    Calls Try.prog 26 #[.func (.func 35) #[] #[.pointer (some ⟨w.heap.size, 0, none⟩)]] (w.alloc (.cells #[.map (some m)] 46)) fun e w' => ∃ (v : Value) (xs : List ByteArray), e = .returned v ∧ NamesOf F xs ∧ Kd.R Kd.string 9 w' (w.heap.size + 1) (fun _ => True) v xs ∧ Below (w.heap.size + 1) (w.alloc (.cells #[.map (some m)] 46)) w' := by
  obtain ⟨D, hown, hsz, hperm⟩ := h.owns hk
  have hc := callsIn_wide.1 (Try.slices_Sorted_keys_26_27 m 64 D _ w hown (by unfold maxLen; omega) (by omega))
  refine hc.mono ?_
  rintro e w' ⟨v, ss, rfl, hS, hrow, _, hb⟩
  have hz : (w.alloc (.cells #[.map (some m)] 46)).heap.size = w.heap.size + 1 := size_alloc' _ _
  rw [hz] at hrow hb
  have hl : ss.length = (ss.mergeSort (fun x y => decide (x ≤ y))).length := (List.length_mergeSort ss).symm
  rw [hl] at hrow
  exact ⟨v, _, rfl, names_sorted hk (hS.trans hperm), row_names rfl hrow, hb⟩
set_option maxRecDepth 100000 in
set_option maxHeartbeats 2000000 in
theorem disk_Names.gone (w : World) (d m : Nat) (F : List DFile) (left : Int) (h : DiskAt w d m F left true) :
    Calls Try.prog 14 #[.pointer (some ⟨d, 0, none⟩)] w fun e w' => e = .returned (.tuple #[.slice none 0 0, .int .i64 10]) ∧ Below w.heap.size w w' := by
  have g2 : w.cell? ⟨d, 2, none⟩ = some (.bool true) := (blk_cell h.cells 2).trans rfl
  clear h
  go_enter Try.func14, Try.ntmps14
  go_wp2
  go_ret2
  exact ⟨rfl, Below.refl _ _⟩
open Go.Maps Go.Sort Go.Shelf in
set_option maxRecDepth 100000 in
set_option maxHeartbeats 2000000 in
theorem disk_Names.here (w : World) (d m : Nat) (F : List DFile) (left : Int) (h : DiskAt w d m F left false) (hk : OkD F) :
    Calls Try.prog 14 #[.pointer (some ⟨d, 0, none⟩)] w fun e w' => ∃ (v : Value) (xs : List ByteArray), e = .returned (.tuple #[v, .int .i64 0]) ∧ NamesOf F xs ∧ Kd.R Kd.string 9 w' w.heap.size (fun _ => True) v xs ∧ Below w.heap.size w w' := by
  have g0 : w.cell? ⟨d, 0, none⟩ = some (.map (some m)) := (blk_cell h.cells 0).trans rfl
  have g2 : w.cell? ⟨d, 2, none⟩ = some (.bool false) := (blk_cell h.cells 2).trans rfl
  have HC := Aside0.mk (disk_keys w m F h.map hk)
  clear h hk
  go_enter Try.func14, Try.ntmps14
  go_wp2_with (first
    | (go_at_call 27; (refine (callsIn_wide.1 (Try.maps_Keys_27 _ _)).mono ?_); rintro _ _ ⟨rfl, rfl⟩)
    | (go_at_call 26; (refine HC.out.mono ?_); rintro _ w1 ⟨v, xs, rfl, hn, hr, hb⟩; have HN := Aside0.mk hn; have HR := Aside0.mk hr; have HB := Aside0.mk hb; clear hn hr hb))
  go_ret2
  exact ⟨v, xs, rfl, HN.out, Kd.R_lower HR.out (Nat.le_succ _), below_then (below_alloc (Below.refl _ w) (.cells #[.map (some m)] 46)) (by rw [size_alloc']; omega) (by rw [size_alloc']; exact HB.out)⟩
end Go.Proofs.Ytknljmljlgcfbaa.P
