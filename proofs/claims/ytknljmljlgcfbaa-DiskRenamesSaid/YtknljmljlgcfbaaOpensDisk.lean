import Derived.Test.YtknljmljlgcfbaaWWords
import Derived.Test.YtknljmljlgcfbaaWLast
import Derived.SizedLaws
import Derived.ChangeArms
import Derived.Deep.Slices
import Derived.ChangeSame
import Derived.WideShapes
import Derived.Test.YtknljmljlgcfbaaP0
/- What comes in as data is of the printed kinds: type by type (strings, numbers, bools, slices, structs), with the bounds that every reading has. -/
namespace Go.Proofs.Ytknljmljlgcfbaa.O
open Go Go.RowKit Go.Proofs.YtknljmljlgcfbaaW.PrintWords
set_option linter.unusedSimpArgs false
set_option linter.unusedVariables false

def Opens (P : Program) (t : TypeId) {α : Type} (d : Kd α) (nice : α → Prop) : Prop :=
  ∀ (H : Type) (enc : TypeId × Value → H) (w : World) (base fuel : Nat) (cs : List Value) (x : DataW H × List MemPlace),
    DataW.trod enc P w base (fun _ => true) true fuel t cs = some x → (x.1.weights P t).all (· ≤ reachBytes) = true → ∃ a, d.K w a cs ∧ nice a

theorem opens_string {P : Program} {t : TypeId} (ht : P.underlying t = some .string) : Opens P t Kd.string (fun s => s.size ≤ 140737488351232) := by
  intro H enc w base fuel cs x h hw
  cases fuel with
  | zero => simp [DataW.trod] at h
  | succ n =>
    unfold DataW.trod at h
    rw [ht] at h
    split at h <;> simp_all
    rename_i s
    obtain ⟨hs, rfl⟩ := h
    refine ⟨s, rfl, ?_⟩
    simp [DataW.weights, reachBytes] at hw
    have : s.size = s.data.toList.length := by simp [ByteArray.size_data]
    simpa using hw
theorem opens_int {P : Program} {t : TypeId} {k : IntKind} (ht : P.underlying t = some (.int k)) : Opens P t (Kd.int k) (fun n => (Lit.int k n).wf = true) := by
  intro H enc w base fuel cs x h hw
  cases fuel with
  | zero => simp [DataW.trod] at h
  | succ n =>
    unfold DataW.trod at h
    rw [ht] at h
    split at h <;> simp_all
    obtain ⟨⟨rfl, hs⟩, rfl⟩ := h
    exact ⟨_, rfl, hs⟩
theorem opens_bool {P : Program} {t : TypeId} (ht : P.underlying t = some .bool) : Opens P t Kd.bool (fun _ => True) := by
  intro H enc w base fuel cs x h hw
  cases fuel with
  | zero => simp [DataW.trod] at h
  | succ n =>
    unfold DataW.trod at h
    rw [ht] at h
    split at h <;> simp_all
    rename_i b
    cases b
    · exact .inl rfl
    · exact .inr rfl
theorem all_mem {l : List Nat} (h : l.all (· ≤ reachBytes) = true) : ∀ n ∈ l, n ≤ reachBytes := by
  intro n hn
  simpa using List.all_eq_true.1 h n hn
theorem weightsAll_mem {H : Type} {P : Program} {e : TypeId} : ∀ {l : List (DataW H)} {d : DataW H}, d ∈ l → ∀ n ∈ d.weights P e, n ∈ DataW.weightsAll P e l := by
  intro l
  induction l with
  | nil => intro d h; cases h
  | cons a l ih =>
    intro d h n hn
    unfold DataW.weightsAll
    rcases List.mem_cons.1 h with rfl | h
    · exact List.mem_append_left _ hn
    · exact List.mem_append_right _ (ih h n hn)
theorem choose_list {α : Type} {n : Nat} {p : Nat → α → Prop} (h : ∀ i, i < n → ∃ a, p i a) : ∃ l : List α, l.length = n ∧ ∀ j a, l[j]? = some a → p j a := by
  induction n with
  | zero => exact ⟨[], rfl, by intro j a h; simp at h⟩
  | succ n ih =>
    obtain ⟨l, hl, hp⟩ := ih (fun i hi => h i (by omega))
    obtain ⟨a, ha⟩ := h n (by omega)
    refine ⟨l ++ [a], by simp [hl], ?_⟩
    intro j b hj
    by_cases hjn : j < n
    · rw [List.getElem?_append_left (by omega)] at hj; exact hp j b hj
    · have : j = n := by
        have := (List.getElem?_eq_some_iff.1 hj).1
        simp [hl] at this; omega
      subst this
      rw [List.getElem?_append_right (by omega)] at hj
      simp [hl] at hj
      exact hj ▸ ha

theorem addr_add_add (a : Addr) (m n : Nat) : (a.add m).add n = a.add (m + n) := by
  unfold Addr.add
  by_cases hm : m = 0 <;> by_cases hn : n = 0 <;> simp [hm, hn, Nat.add_assoc]

theorem opens_slice {P : Program} {t e : TypeId} {α : Type} {d : Kd α} {nice : α → Prop} (ht : P.underlying t = some (.slice e)) (hz : P.cellsOf e = d.sz) (he : Opens P e d nice) :
    Opens P t (Kd.slice e d) (fun l => l.length * P.bytesOf e ≤ 140737488351232 ∧ l.length ≤ maxLen ∧ ∀ a ∈ l, nice a) := by
  intro H enc w base fuel cs x h hw
  rcases Go.Deep.open_slice ht h with ⟨rfl, rfl⟩ | ⟨a, len, cap, m, n, D, Pl, rfl, hb, hl, hm, hmm, rfl, hel⟩
  · exact ⟨[], ⟨none, 0, rfl, Nat.le_refl _, Kd.C_nil _ _⟩, by simp, by simp, by simp⟩
  · simp only [if_true] at hmm
    subst hmm
    have hws := all_mem hw
    have hcell : ∀ i, i < len → ∃ b, (∃ cs', w.cells? base (a.add (i * P.cellsOf e)) (P.cellsOf e) = some cs' ∧ d.K w b cs') ∧ nice b := by
      intro i hi
      obtain ⟨cs', hc, hd⟩ := hel i (by omega)
      obtain ⟨b, hk, hn⟩ := he H enc w base n cs' _ hd (List.all_eq_true.2 (fun q hq => by
        have : q ∈ DataW.weights P t (DataW.slice (List.map D (List.range len)) (List.map (fun j => D (len + j)) (List.range (m - len)))) := by
          unfold DataW.weights
          rw [ht]
          exact List.mem_cons_of_mem _ (List.mem_append_left _ (weightsAll_mem (List.mem_map.2 ⟨i, List.mem_range.2 hi, rfl⟩) q hq))
        simpa using hws q this))
      exact ⟨b, ⟨cs', hc, hk⟩, hn⟩
    obtain ⟨l, hll, hp⟩ := choose_list hcell
    have hby : m * P.bytesOf e ≤ 140737488351232 := by
      have := hws (m * P.bytesOf e) (by
        unfold DataW.weights
        rw [ht]
        simp only [List.length_map, List.length_range]
        rw [show len + (m - len) = m by omega]
        exact List.mem_cons_self ..)
      simpa [reachBytes] using this
    have hC : d.C w (some a) l.length l := by
      refine ⟨rfl, by unfold maxLen at hm; omega, fun _ => ⟨a, rfl, ?_⟩⟩
      intro j p hj
      obtain ⟨⟨cs', hc, hk⟩, _⟩ := hp j p hj
      refine ⟨cs', d.K_len hk, hk, ?_⟩
      intro i u hu
      have h3 := World.cells?_some hc
      rw [← hz]
      have hlt := (List.getElem?_eq_some_iff.1 hu).1
      have h4 := h3.2.2 i (by omega)
      rw [hu] at h4
      rw [← h4, addr_add_add]
    refine ⟨l, ⟨some a, m, by simp [hll], by omega, hC⟩, Nat.le_trans (Nat.mul_le_mul_right _ (by omega)) hby, by omega, ?_⟩
    · intro b hb
      obtain ⟨j, hj, rfl⟩ := List.mem_iff_getElem.1 hb
      exact (hp j _ (List.getElem?_eq_getElem hj)).2

/-- A struct's fields, from one on: the cells from its place on. -/
def OpensF (P : Program) (fs : List Field) (off : Nat) {α : Type} (d : Kd α) (nice : α → Prop) : Prop :=
  ∀ (H : Type) (enc : TypeId × Value → H) (w : World) (base n : Nat) (cs : List Value) (xs : List (DataW H × List MemPlace)), cs.length = off + d.sz → xs.length = fs.length →
    (∀ (i : Nat) (f : Field), fs[i]? = some f → DataW.trod enc P w base (fun _ => true) true n f.type ((cs.drop f.offset).take (P.cellsOf f.type)) = xs[i]?) →
    (∀ q ∈ DataW.weightsEach P (fs.map (·.type)) (xs.map (·.1)), q ≤ reachBytes) → ∃ a, d.K w a (cs.drop off) ∧ nice a

theorem opensF_last {P : Program} {f : Field} {off : Nat} {α : Type} {d : Kd α} {nice : α → Prop} (h : Opens P f.type d nice) (ho : f.offset = off) (hz : P.cellsOf f.type = d.sz) : OpensF P [f] off d nice := by
  intro H enc w base n cs xs hl hx ht hw
  obtain ⟨x, rfl⟩ : ∃ x, xs = [x] := by
    cases xs with
    | nil => cases hx
    | cons x xs => cases xs with
      | nil => exact ⟨x, rfl⟩
      | cons y ys => simp at hx
  have h1 := ht 0 f rfl
  rw [List.take_of_length_le (by rw [List.length_drop]; omega), ho] at h1
  exact h H enc w base n _ x h1 (List.all_eq_true.2 (fun q hq => by
    have := hw q (by simp only [List.map_cons, List.map_nil, DataW.weightsEach]; exact List.mem_append_left _ hq)
    simpa using this))
theorem opensF_cons {P : Program} {f : Field} {fs : List Field} {off off2 : Nat} {α β : Type} {d : Kd α} {d2 : Kd β} {nice : α → Prop} {nice2 : β → Prop} (h : Opens P f.type d nice) (h2 : OpensF P fs off2 d2 nice2)
    (ho : f.offset = off) (hz : P.cellsOf f.type = d.sz) (ho2 : off2 = off + d.sz) : OpensF P (f :: fs) off (Kd.pair d d2) (fun x => nice x.1 ∧ nice2 x.2) := by
  intro H enc w base n cs xs hl hx ht hw
  cases xs with
  | nil => simp at hx
  | cons x xs =>
    have hl' : cs.length = off + (d.sz + d2.sz) := hl
    have h1 := ht 0 f rfl
    rw [ho, hz] at h1
    obtain ⟨a, ha, hn⟩ := h H enc w base n _ x h1 (List.all_eq_true.2 (fun q hq => by
      have := hw q (by simp only [List.map_cons, DataW.weightsEach]; exact List.mem_append_left _ hq)
      simpa using this))
    obtain ⟨b, hb, hm⟩ := h2 H enc w base n cs xs (by omega) (by simpa using hx) (fun i g hg => by have := ht (i + 1) g (by simpa using hg); simpa using this)
      (fun q hq => hw q (by simp only [List.map_cons, DataW.weightsEach]; exact List.mem_append_right _ hq))
    refine ⟨(a, b), ⟨(cs.drop off).take d.sz, cs.drop off2, ?_, ha, hb⟩, hn, hm⟩
    rw [ho2, ← List.drop_drop, List.take_append_drop]
theorem opens_struct {P : Program} {t : TypeId} {fs : Array Field} {α β : Type} {d : Kd α} {nice : α → Prop} {f : β → α} (g : α → β) (hg : ∀ a, f (g a) = a) (ht : P.underlying t = some (.struct fs)) (hz : P.cellsOf t = d.sz)
    (h : OpensF P fs.toList 0 d nice) : Opens P t (Kd.iso d f) (fun x => nice (f x)) := by
  intro H enc w base fuel cs x hx hw
  obtain ⟨xs, n, rfl, rfl, hl, hxs, hat⟩ := DataW.trod_struct ht hx
  have hws := all_mem hw
  obtain ⟨a, ha, hn⟩ := h H enc w base n cs xs (by omega) (by simpa using hxs) (fun i q hq => hat i q (by simpa using hq)) (fun q hq => hws q (by
    simp only [DataW.weights, ht]
    exact hq))
  exact ⟨g a, by show d.K w (f (g a)) cs; rw [hg]; simpa using ha, by show nice (f (g a)); rw [hg]; exact hn⟩
end Go.Proofs.Ytknljmljlgcfbaa.O

/- The arguments' types of this seat's laws, opened. -/
namespace Go.Proofs.Ytknljmljlgcfbaa.O
open Go Go.RowKit Go.Proofs.YtknljmljlgcfbaaW.PrintWords Go.Proofs.Ytknljmljlgcfbaa.P
set_option linter.unusedVariables false
def niceAct (x : S64) : Prop := x.f2.size ≤ 140737488351232 ∧ x.f3.size ≤ 140737488351232 ∧ x.f4.size ≤ 140737488351232 ∧ x.f5.length * 8 ≤ 140737488351232
theorem opens_Act : Opens Try.prog 64 k64 (fun x => (Lit.int .i64 x.f0).wf = true ∧ (Lit.int .i64 x.f1).wf = true ∧ x.f2.size ≤ 140737488351232 ∧ x.f3.size ≤ 140737488351232 ∧ x.f4.size ≤ 140737488351232 ∧ (x.f5.length * Try.prog.bytesOf 3 ≤ 140737488351232 ∧ x.f5.length ≤ maxLen ∧ ∀ a ∈ x.f5, (Lit.int .i64 a).wf = true)) :=
  opens_struct (f := fun x : S64 => (x.f0, x.f1, x.f2, x.f3, x.f4, x.f5)) (fun a => ⟨a.1, a.2.1, a.2.2.1, a.2.2.2.1, a.2.2.2.2.1, a.2.2.2.2.2⟩) (fun _ => rfl) Try.underlying64 (by kernel_rfl)
    (opensF_cons (off2 := 1) (opens_int Try.underlying3) (opensF_cons (off2 := 2) (opens_int Try.underlying3) (opensF_cons (off2 := 3) (opens_string Try.underlying9) (opensF_cons (off2 := 4) (opens_string Try.underlying9) (opensF_cons (off2 := 5) (opens_string Try.underlying9) (opensF_last (opens_slice Try.underlying40 (by kernel_rfl) (opens_int Try.underlying3)) rfl (by kernel_rfl)) rfl (by kernel_rfl) rfl) rfl (by kernel_rfl) rfl) rfl (by kernel_rfl) rfl) rfl (by kernel_rfl) rfl) rfl (by kernel_rfl) rfl)
def kScript : Kd (List ByteArray × List ByteArray × List S64) := Kd.pair (Kd.slice 9 Kd.string) (Kd.pair (Kd.slice 9 Kd.string) (Kd.slice 64 k64))
def niceScript (x : List ByteArray × List ByteArray × List S64) : Prop :=
  x.1.length ≤ 8796093022208 ∧ x.2.1.length ≤ 8796093022208 ∧ x.2.2.length ≤ 1759218604391 ∧ (∀ a ∈ x.1, a.size ≤ 140737488351232) ∧ (∀ a ∈ x.2.1, a.size ≤ 140737488351232) ∧ ∀ a ∈ x.2.2, niceAct a
theorem opens_Script (H : Type) (enc : TypeId × Value → H) (w : World) (base fuel : Nat) (cs : List Value) (x : DataW H × List MemPlace) (h : DataW.trod enc Try.prog w base (fun _ => true) true fuel 25 cs = some x) (hw : (x.1.weights Try.prog 25).all (· ≤ reachBytes) = true) :
    ∃ a, kScript.K w a cs ∧ niceScript a := by
  have hb : Try.prog.bytesOf 64 = 88 := by kernel_rfl
  have hs : Try.prog.bytesOf 9 = 16 := by kernel_rfl
  have hi : Try.prog.bytesOf 3 = 8 := by kernel_rfl
  obtain ⟨a, hk, h1, h2, h3⟩ := opens_struct (d := kScript) (f := fun x => x) (fun a => a) (fun _ => rfl) Try.underlying25 (by kernel_rfl)
    (opensF_cons (off2 := 1) (opens_slice Try.underlying22 (by kernel_rfl) (opens_string Try.underlying9)) (opensF_cons (off2 := 2) (opens_slice Try.underlying22 (by kernel_rfl) (opens_string Try.underlying9)) (opensF_last (opens_slice Try.underlying23 (by kernel_rfl) opens_Act) rfl (by kernel_rfl)) rfl (by kernel_rfl) rfl) rfl (by kernel_rfl) rfl) H enc w base fuel cs x h hw
  have n1 := h1.1
  have n2 := h2.1
  have n3 := h3.1
  rw [hs] at n1 n2
  rw [hb] at n3
  refine ⟨a, hk, by omega, by omega, by omega, h1.2.2, h2.2.2, fun b hb => ?_⟩
  have := h3.2.2 b hb
  refine ⟨this.2.2.1, this.2.2.2.1, this.2.2.2.2.1, ?_⟩
  have h8 := this.2.2.2.2.2.1
  rw [hi] at h8
  exact h8
theorem open_Script {w : World} {a : List ByteArray × List ByteArray × List S64} {cs : List Value} (h : kScript.K w a cs) : ∃ A0 c0 A1 c1 A2 c2, cs = [.slice A0 a.1.length c0, .slice A1 a.2.1.length c1, .slice A2 a.2.2.length c2] ∧ Kd.C Kd.string w A0 a.1.length a.1 ∧ a.1.length ≤ c0 ∧ Kd.C Kd.string w A1 a.2.1.length a.2.1 ∧ a.2.1.length ≤ c1 ∧ Kd.C k64 w A2 a.2.2.length a.2.2 ∧ a.2.2.length ≤ c2 := by
  obtain ⟨_, _, rfl, ⟨A0, c0, rfl, h0, k0⟩, ⟨_, _, rfl, ⟨A1, c1, rfl, h1, k1⟩, ⟨A2, c2, rfl, h2, k2⟩⟩⟩ := h
  exact ⟨A0, c0, A1, c1, A2, c2, rfl, k0, h0, k1, h1, k2, h2⟩
end Go.Proofs.Ytknljmljlgcfbaa.O
