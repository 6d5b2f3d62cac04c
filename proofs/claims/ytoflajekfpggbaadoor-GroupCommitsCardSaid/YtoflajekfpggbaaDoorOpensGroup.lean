import Derived.Test.YtoflajekfpggbaaDoorWWords
import Derived.Test.YtoflajekfpggbaaDoorWLast
import Derived.SizedLaws
import Derived.ChangeArms
import Derived.Deep.Slices
import Derived.ChangeSame
import Derived.WideShapes
import Derived.Test.YtoflajekfpggbaaDoorP0
/- What comes in as data is of the printed kinds: type by type (strings, numbers, bools, slices, structs), with the bounds that every reading has. -/
namespace Go.Proofs.YtoflajekfpggbaaDoor.O
open Go Go.RowKit Go.Proofs.YtoflajekfpggbaaDoorW.PrintWords
set_option linter.unusedSimpArgs false
set_option linter.unusedVariables false

def Opens (P : Program) (t : TypeId) {α : Type} (d : Kd α) (nice : α → Prop) : Prop :=
  ∀ (H : Type) (enc : TypeId × Value → H) (w : World) (base fuel : Nat) (cs : List Value) (x : DataW H × List MemPlace),
    DataW.trod enc P w base (fun _ => true) true fuel t cs = some x → (x.1.weights P t).all (· ≤ reachBytes) = true → ∃ a, d.K w a cs ∧ nice a

theorem opens_string {P : Program} {t : TypeId} (ht : P.underlying t = some .string) : Opens P t Kd.string (fun s => s.size ≤ 140737488351232) := by
  intro H enc w base fuel cs x h hw
  cases fuel with
  | zero => simp [DataW.trod] at h
  | succ n =>
    unfold DataW.trod at h
    rw [ht] at h
    split at h <;> simp_all
    rename_i s
    obtain ⟨hs, rfl⟩ := h
    refine ⟨s, rfl, ?_⟩
    simp [DataW.weights, reachBytes] at hw
    have : s.size = s.data.toList.length := by simp [ByteArray.size_data]
    simpa using hw
theorem opens_int {P : Program} {t : TypeId} {k : IntKind} (ht : P.underlying t = some (.int k)) : Opens P t (Kd.int k) (fun n => (Lit.int k n).wf = true) := by
  intro H enc w base fuel cs x h hw
  cases fuel with
  | zero => simp [DataW.trod] at h
  | succ n =>
    unfold DataW.trod at h
    rw [ht] at h
    split at h <;> simp_all
    obtain ⟨⟨rfl, hs⟩, rfl⟩ := h
    exact ⟨_, rfl, hs⟩
theorem opens_bool {P : Program} {t : TypeId} (ht : P.underlying t = some .bool) : Opens P t Kd.bool (fun _ => True) := by
  intro H enc w base fuel cs x h hw
  cases fuel with
  | zero => simp [DataW.trod] at h
  | succ n =>
    unfold DataW.trod at h
    rw [ht] at h
    split at h <;> simp_all
    rename_i b
    cases b
    · exact .inl rfl
    · exact .inr rfl
theorem all_mem {l : List Nat} (h : l.all (· ≤ reachBytes) = true) : ∀ n ∈ l, n ≤ reachBytes := by
  intro n hn
  simpa using List.all_eq_true.1 h n hn
theorem weightsAll_mem {H : Type} {P : Program} {e : TypeId} : ∀ {l : List (DataW H)} {d : DataW H}, d ∈ l → ∀ n ∈ d.weights P e, n ∈ DataW.weightsAll P e l := by
  intro l
  induction l with
  | nil => intro d h; cases h
  | cons a l ih =>
    intro d h n hn
    unfold DataW.weightsAll
    rcases List.mem_cons.1 h with rfl | h
    · exact List.mem_append_left _ hn
    · exact List.mem_append_right _ (ih h n hn)
theorem choose_list {α : Type} {n : Nat} {p : Nat → α → Prop} (h : ∀ i, i < n → ∃ a, p i a) : ∃ l : List α, l.length = n ∧ ∀ j a, l[j]? = some a → p j a := by
  induction n with
  | zero => exact ⟨[], rfl, by intro j a h; simp at h⟩
  | succ n ih =>
    obtain ⟨l, hl, hp⟩ := ih (fun i hi => h i (by omega))
    obtain ⟨a, ha⟩ := h n (by omega)
    refine ⟨l ++ [a], by simp [hl], ?_⟩
    intro j b hj
    by_cases hjn : j < n
    · rw [List.getElem?_append_left (by omega)] at hj; exact hp j b hj
    · have : j = n := by
        have := (List.getElem?_eq_some_iff.1 hj).1
        simp [hl] at this; omega
      subst this
      rw [List.getElem?_append_right (by omega)] at hj
      simp [hl] at hj
      exact hj ▸ ha

theorem addr_add_add (a : Addr) (m n : Nat) : (a.add m).add n = a.add (m + n) := by
  unfold Addr.add
  by_cases hm : m = 0 <;> by_cases hn : n = 0 <;> simp [hm, hn, Nat.add_assoc]

theorem opens_slice {P : Program} {t e : TypeId} {α : Type} {d : Kd α} {nice : α → Prop} (ht : P.underlying t = some (.slice e)) (hz : P.cellsOf e = d.sz) (he : Opens P e d nice) :
    Opens P t (Kd.slice e d) (fun l => l.length * P.bytesOf e ≤ 140737488351232 ∧ l.length ≤ maxLen ∧ ∀ a ∈ l, nice a) := by
  intro H enc w base fuel cs x h hw
  rcases Go.Deep.open_slice ht h with ⟨rfl, rfl⟩ | ⟨a, len, cap, m, n, D, Pl, rfl, hb, hl, hm, hmm, rfl, hel⟩
  · exact ⟨[], ⟨none, 0, rfl, Nat.le_refl _, Kd.C_nil _ _⟩, by simp, by simp, by simp⟩
  · simp only [if_true] at hmm
    subst hmm
    have hws := all_mem hw
    have hcell : ∀ i, i < len → ∃ b, (∃ cs', w.cells? base (a.add (i * P.cellsOf e)) (P.cellsOf e) = some cs' ∧ d.K w b cs') ∧ nice b := by
      intro i hi
      obtain ⟨cs', hc, hd⟩ := hel i (by omega)
      obtain ⟨b, hk, hn⟩ := he H enc w base n cs' _ hd (List.all_eq_true.2 (fun q hq => by
        have : q ∈ DataW.weights P t (DataW.slice (List.map D (List.range len)) (List.map (fun j => D (len + j)) (List.range (m - len)))) := by
          unfold DataW.weights
          rw [ht]
          exact List.mem_cons_of_mem _ (List.mem_append_left _ (weightsAll_mem (List.mem_map.2 ⟨i, List.mem_range.2 hi, rfl⟩) q hq))
        simpa using hws q this))
      exact ⟨b, ⟨cs', hc, hk⟩, hn⟩
    obtain ⟨l, hll, hp⟩ := choose_list hcell
    have hby : m * P.bytesOf e ≤ 140737488351232 := by
      have := hws (m * P.bytesOf e) (by
        unfold DataW.weights
        rw [ht]
        simp only [List.length_map, List.length_range]
        rw [show len + (m - len) = m by omega]
        exact List.mem_cons_self ..)
      simpa [reachBytes] using this
    have hC : d.C w (some a) l.length l := by
      refine ⟨rfl, by unfold maxLen at hm; omega, fun _ => ⟨a, rfl, ?_⟩⟩
      intro j p hj
      obtain ⟨⟨cs', hc, hk⟩, _⟩ := hp j p hj
      refine ⟨cs', d.K_len hk, hk, ?_⟩
      intro i u hu
      have h3 := World.cells?_some hc
      rw [← hz]
      have hlt := (List.getElem?_eq_some_iff.1 hu).1
      have h4 := h3.2.2 i (by omega)
      rw [hu] at h4
      rw [← h4, addr_add_add]
    refine ⟨l, ⟨some a, m, by simp [hll], by omega, hC⟩, Nat.le_trans (Nat.mul_le_mul_right _ (by omega)) hby, by omega, ?_⟩
    · intro b hb
      obtain ⟨j, hj, rfl⟩ := List.mem_iff_getElem.1 hb
      exact (hp j _ (List.getElem?_eq_getElem hj)).2

/-- A struct's fields, from one on: the cells from its place on. -/
def OpensF (P : Program) (fs : List Field) (off : Nat) {α : Type} (d : Kd α) (nice : α → Prop) : Prop :=
  ∀ (H : Type) (enc : TypeId × Value → H) (w : World) (base n : Nat) (cs : List Value) (xs : List (DataW H × List MemPlace)), cs.length = off + d.sz → xs.length = fs.length →
    (∀ (i : Nat) (f : Field), fs[i]? = some f → DataW.trod enc P w base (fun _ => true) true n f.type ((cs.drop f.offset).take (P.cellsOf f.type)) = xs[i]?) →
    (∀ q ∈ DataW.weightsEach P (fs.map (·.type)) (xs.map (·.1)), q ≤ reachBytes) → ∃ a, d.K w a (cs.drop off) ∧ nice a

theorem opensF_last {P : Program} {f : Field} {off : Nat} {α : Type} {d : Kd α} {nice : α → Prop} (h : Opens P f.type d nice) (ho : f.offset = off) (hz : P.cellsOf f.type = d.sz) : OpensF P [f] off d nice := by
  intro H enc w base n cs xs hl hx ht hw
  obtain ⟨x, rfl⟩ : ∃ x, xs = [x] := by
    cases xs with
    | nil => cases hx
    | cons x xs => cases xs with
      | nil => exact ⟨x, rfl⟩
      | cons y ys => simp at hx
  have h1 := ht 0 f rfl
  rw [List.take_of_length_le (by rw [List.length_drop]; omega), ho] at h1
  exact h H enc w base n _ x h1 (List.all_eq_true.2 (fun q hq => by
    have := hw q (by simp only [List.map_cons, List.map_nil, DataW.weightsEach]; exact List.mem_append_left _ hq)
    simpa using this))
theorem opensF_cons {P : Program} {f : Field} {fs : List Field} {off off2 : Nat} {α β : Type} {d : Kd α} {d2 : Kd β} {nice : α → Prop} {nice2 : β → Prop} (h : Opens P f.type d nice) (h2 : OpensF P fs off2 d2 nice2)
    (ho : f.offset = off) (hz : P.cellsOf f.type = d.sz) (ho2 : off2 = off + d.sz) : OpensF P (f :: fs) off (Kd.pair d d2) (fun x => nice x.1 ∧ nice2 x.2) := by
  intro H enc w base n cs xs hl hx ht hw
  cases xs with
  | nil => simp at hx
  | cons x xs =>
    have hl' : cs.length = off + (d.sz + d2.sz) := hl
    have h1 := ht 0 f rfl
    rw [ho, hz] at h1
    obtain ⟨a, ha, hn⟩ := h H enc w base n _ x h1 (List.all_eq_true.2 (fun q hq => by
      have := hw q (by simp only [List.map_cons, DataW.weightsEach]; exact List.mem_append_left _ hq)
      simpa using this))
    obtain ⟨b, hb, hm⟩ := h2 H enc w base n cs xs (by omega) (by simpa using hx) (fun i g hg => by have := ht (i + 1) g (by simpa using hg); simpa using this)
      (fun q hq => hw q (by simp only [List.map_cons, DataW.weightsEach]; exact List.mem_append_right _ hq))
    refine ⟨(a, b), ⟨(cs.drop off).take d.sz, cs.drop off2, ?_, ha, hb⟩, hn, hm⟩
    rw [ho2, ← List.drop_drop, List.take_append_drop]
theorem opens_struct {P : Program} {t : TypeId} {fs : Array Field} {α β : Type} {d : Kd α} {nice : α → Prop} {f : β → α} (g : α → β) (hg : ∀ a, f (g a) = a) (ht : P.underlying t = some (.struct fs)) (hz : P.cellsOf t = d.sz)
    (h : OpensF P fs.toList 0 d nice) : Opens P t (Kd.iso d f) (fun x => nice (f x)) := by
  intro H enc w base fuel cs x hx hw
  obtain ⟨xs, n, rfl, rfl, hl, hxs, hat⟩ := DataW.trod_struct ht hx
  have hws := all_mem hw
  obtain ⟨a, ha, hn⟩ := h H enc w base n cs xs (by omega) (by simpa using hxs) (fun i q hq => hat i q (by simpa using hq)) (fun q hq => hws q (by
    simp only [DataW.weights, ht]
    exact hq))
  exact ⟨g a, by show d.K w (f (g a)) cs; rw [hg]; simpa using ha, by show nice (f (g a)); rw [hg]; exact hn⟩
end Go.Proofs.YtoflajekfpggbaaDoor.O

/- The arguments' types of this seat's laws, opened. -/
namespace Go.Proofs.YtoflajekfpggbaaDoor.O
open Go Go.RowKit Go.Proofs.YtoflajekfpggbaaDoorW.PrintWords Go.Proofs.YtoflajekfpggbaaDoor.P
set_option linter.unusedVariables false
def niceG (x : S29) : Prop := x.f0.size ≤ 140737488351232 ∧ x.f1.size ≤ 140737488351232
theorem opens_Group : Opens Tryd.prog 29 k29 (fun x => x.f0.size ≤ 140737488351232 ∧ x.f1.size ≤ 140737488351232 ∧ (Lit.int .i64 x.f2).wf = true) :=
  opens_struct (f := fun x : S29 => (x.f0, x.f1, x.f2)) (fun a => ⟨a.1, a.2.1, a.2.2⟩) (fun _ => rfl) Tryd.underlying29 (by kernel_rfl)
    (opensF_cons (off2 := 1) (opens_string Tryd.underlying9) (opensF_cons (off2 := 2) (opens_string Tryd.underlying9) (opensF_last (opens_int Tryd.underlying3) rfl (by kernel_rfl)) rfl (by kernel_rfl) rfl) rfl (by kernel_rfl) rfl)
def kScript : Kd (List S29 × List S29 × List ByteArray) := Kd.pair (Kd.slice 29 k29) (Kd.pair (Kd.slice 29 k29) (Kd.slice 9 Kd.string))
def niceScript (x : List S29 × List S29 × List ByteArray) : Prop :=
  x.1.length ≤ 3518437208880 ∧ x.2.1.length ≤ 3518437208880 ∧ x.2.2.length ≤ 8796093022208 ∧ (∀ a ∈ x.1, niceG a) ∧ (∀ a ∈ x.2.1, niceG a) ∧ ∀ a ∈ x.2.2, a.size ≤ 140737488351232
theorem opens_Script (H : Type) (enc : TypeId × Value → H) (w : World) (base fuel : Nat) (cs : List Value) (x : DataW H × List MemPlace) (h : DataW.trod enc Tryd.prog w base (fun _ => true) true fuel 25 cs = some x) (hw : (x.1.weights Tryd.prog 25).all (· ≤ reachBytes) = true) :
    ∃ a, kScript.K w a cs ∧ niceScript a := by
  have hb : Tryd.prog.bytesOf 29 = 40 := by kernel_rfl
  have hs : Tryd.prog.bytesOf 9 = 16 := by kernel_rfl
  obtain ⟨a, hk, h1, h2, h3⟩ := opens_struct (d := kScript) (f := fun x => x) (fun a => a) (fun _ => rfl) Tryd.underlying25 (by kernel_rfl)
    (opensF_cons (off2 := 1) (opens_slice Tryd.underlying22 (by kernel_rfl) opens_Group) (opensF_cons (off2 := 2) (opens_slice Tryd.underlying22 (by kernel_rfl) opens_Group) (opensF_last (opens_slice Tryd.underlying23 (by kernel_rfl) (opens_string Tryd.underlying9)) rfl (by kernel_rfl)) rfl (by kernel_rfl) rfl) rfl (by kernel_rfl) rfl) H enc w base fuel cs x h hw
  have n1 := h1.1
  have n2 := h2.1
  have n3 := h3.1
  rw [hb] at n1 n2
  rw [hs] at n3
  exact ⟨a, hk, by omega, by omega, by omega, fun b hb => ⟨(h1.2.2 b hb).1, (h1.2.2 b hb).2.1⟩, fun b hb => ⟨(h2.2.2 b hb).1, (h2.2.2 b hb).2.1⟩, h3.2.2⟩
theorem open_Script {w : World} {a : List S29 × List S29 × List ByteArray} {cs : List Value} (h : kScript.K w a cs) : ∃ A0 c0 A1 c1 A2 c2, cs = [.slice A0 a.1.length c0, .slice A1 a.2.1.length c1, .slice A2 a.2.2.length c2] ∧ Kd.C k29 w A0 a.1.length a.1 ∧ a.1.length ≤ c0 ∧ Kd.C k29 w A1 a.2.1.length a.2.1 ∧ a.2.1.length ≤ c1 ∧ Kd.C Kd.string w A2 a.2.2.length a.2.2 ∧ a.2.2.length ≤ c2 := by
  obtain ⟨_, _, rfl, ⟨A0, c0, rfl, h0, k0⟩, ⟨_, _, rfl, ⟨A1, c1, rfl, h1, k1⟩, ⟨A2, c2, rfl, h2, k2⟩⟩⟩ := h
  exact ⟨A0, c0, A1, c1, A2, c2, rfl, k0, h0, k1, h1, k2, h2⟩
end Go.Proofs.YtoflajekfpggbaaDoor.O
