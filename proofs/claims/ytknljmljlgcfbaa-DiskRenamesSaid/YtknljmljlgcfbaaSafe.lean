/- By hand: DiskSafe: what is safe is in every crash; of the rest a beginning; a name is safe at once. -/
import Derived.Test.YtknljmljlgcfbaaDiskA
namespace Go.Proofs.Ytknljmljlgcfbaa.P
open Go.RowKit Go.Proofs.YtknljmljlgcfbaaW.PrintWords Go.Proofs.YtknljmljlgcfbaaW.PrintLast Go.Proofs.YtknljmljlgcfbaaW.PrintMore
open Go.Proofs.Ytknljmljlgcfbaa
attribute [local go_sem] max2_int min2_int max_two min_two max_three min_three max_four min_four
set_option linter.unusedSimpArgs false
set_option linter.unusedVariables false
def fairwaylaw9_DiskSafe.f (l0_0 : List ByteArray) (l0_1 : List ByteArray) (l0_2 : List S64) : Option Bool := some true
/-- What a crash keeps of the file. -/
def keepT (n : Nat) : ByteArray := (ByteArray.mk #[115, 97, 102, 101, 114, 101, 115, 116, 46]).extract 0 (if n < 5 then 4 + n else 9)
structure SafeFacts (n : Nat) (T : ByteArray) : Prop where
  cr : crTs [⟨⟨#[97]⟩, ⟨#[115, 97, 102, 101, 114, 101, 115, 116, 46]⟩, 4⟩] [(n : Int)] [⟨#[97]⟩] 0 = [T]
  new : newR [⟨#[97]⟩] [T] = some [⟨⟨#[97]⟩, T, T.size⟩]
  ren : renR [⟨⟨#[97]⟩, T, T.size⟩] 0 false ⟨#[97]⟩ ⟨#[98]⟩ = ([⟨⟨#[98]⟩, T, T.size⟩], 0)
  app : appR [⟨⟨#[98]⟩, T, T.size⟩] 0 false ⟨#[99]⟩ ⟨#[110, 101, 119]⟩ = ([⟨⟨#[98]⟩, T, T.size⟩, ⟨⟨#[99]⟩, ⟨#[110, 101, 119]⟩, 0⟩], 0)
  cr2 : crTs [⟨⟨#[98]⟩, T, T.size⟩, ⟨⟨#[99]⟩, ⟨#[110, 101, 119]⟩, 0⟩] [] [⟨#[98]⟩, ⟨#[99]⟩] 0 = [T, ⟨#[]⟩]
  size : T.size ≤ 9
  us : usedD [⟨⟨#[98]⟩, T, T.size⟩] ≤ 4611686018427387904
  tx : (txtD [⟨⟨#[98]⟩, T, T.size⟩] ⟨#[99]⟩).size ≤ 4000000000000000000
theorem safeFacts : ∀ n : Nat, n ≤ 6 → SafeFacts n (keepT n) := by
  intro n hn
  obtain rfl | rfl | rfl | rfl | rfl | rfl | rfl : n = 0 ∨ n = 1 ∨ n = 2 ∨ n = 3 ∨ n = 4 ∨ n = 5 ∨ n = 6 := by omega
  all_goals exact ⟨by kernel_rfl, by kernel_rfl, by kernel_rfl, by kernel_rfl, by kernel_rfl, of_decide_eq_true (by kernel_rfl), of_decide_eq_true (by kernel_rfl), of_decide_eq_true (by kernel_rfl)⟩
theorem ok1 : OkD [⟨⟨#[97]⟩, ⟨#[115, 97, 102, 101, 114, 101, 115, 116, 46]⟩, 4⟩] := ⟨by simp, by intro f hf; simp at hf; subst hf; decide, by intro f hf; simp at hf; subst hf; decide, by decide, by decide⟩
theorem ok2 {T : ByteArray} (h : T.size ≤ 9) : OkD [⟨⟨#[98]⟩, T, T.size⟩, ⟨⟨#[99]⟩, ⟨#[110, 101, 119]⟩, 0⟩] := by
  refine ⟨(by show ([⟨#[98]⟩, ⟨#[99]⟩] : List ByteArray).Nodup; decide), ?_, ?_, ?_, (by show 2 ≤ 64; decide)⟩
  · intro f hf; simp at hf; rcases hf with rfl | rfl
    · show (⟨#[98]⟩ : ByteArray).size ≤ 64; decide
    · show (⟨#[99]⟩ : ByteArray).size ≤ 64; decide
  · intro f hf; simp at hf; rcases hf with rfl | rfl
    · refine ⟨?_, ?_, ?_⟩ <;> simp <;> omega
    · decide
  · have : usedD [⟨⟨#[98]⟩, T, T.size⟩, ⟨⟨#[99]⟩, ⟨#[110, 101, 119]⟩, 0⟩] = T.size + 3 := by simp [usedD]; rfl
    omega
theorem NamesOf.two {T S : ByteArray} {i j : Int} {xs : List ByteArray} (h : NamesOf [⟨⟨#[98]⟩, T, i⟩, ⟨⟨#[99]⟩, S, j⟩] xs) : xs = [⟨#[98]⟩, ⟨#[99]⟩] := by
  have irr : ∀ a : ByteArray, ¬ lessN a a = true := fun a e => by unfold lessN at e; rw [blN_irrefl] at e; cases e
  have tr : ∀ a b c : ByteArray, lessN a b = true → lessN b c = true → lessN a c = true := fun a b c h1 h2 => blN_trans _ _ _ h1 h2
  exact perm_rising irr tr h.perm h.rise (by show List.Pairwise _ ([⟨#[98]⟩, ⟨#[99]⟩] : List ByteArray); refine List.pairwise_cons.2 ⟨?_, List.pairwise_singleton _ _⟩; intro x hx; simp at hx; subst hx; kernel_rfl)
theorem disk_New.to (A0 : Option Addr) (c0 : Nat) (names : List ByteArray) (A1 : Option Addr) (c1 : Nat) (texts : List ByteArray) (F : List DFile) (w : World) (hr0 : Kd.C Kd.string w A0 names.length names) (hc0 : names.length ≤ c0) (hr1 : Kd.C Kd.string w A1 texts.length texts) (hc1 : texts.length ≤ c1) (hn : newR names texts = some F) :
    Calls Try.prog 11 #[.slice A0 names.length c0, .slice A1 texts.length c1] w fun e w' => ∃ d m, w.heap.size ≤ d ∧ w.heap.size ≤ m ∧ e = .returned (.tuple #[.pointer (some ⟨d, 0, none⟩), .int .i64 0]) ∧ DiskAt w' d m F 0 false ∧ Below w.heap.size w w' := by
  refine (disk_New.calls A0 c0 names A1 c1 texts w hr0 hc0 hr1 hc1).mono ?_
  rw [hn]
  rintro e w' ⟨⟨d, m, h1, h2, h3, h4⟩, h5⟩
  exact ⟨d, m, h1, h2, h3, h4, h5⟩
theorem litI_C {w : World} {g : Nat} {n : Int} (h : w.heap[g]? = some (.cells #[.int .i64 n] 3 (0, 0))) : Kd.C (Kd.int .i64) w (some ⟨g, 0, none⟩) 1 [n] :=
  ⟨rfl, by decide, fun _ => ⟨_, rfl, fun j p hj => by
    obtain rfl : j = 0 := by
      have := (List.getElem?_eq_some_iff.1 hj).1
      simpa using this
    obtain rfl : n = p := by simpa using hj
    refine ⟨[.int .i64 n], rfl, rfl, fun q u hu => ?_⟩
    obtain rfl : q = 0 := by
      have := (List.getElem?_eq_some_iff.1 hu).1
      simpa using this
    obtain rfl : Value.int .i64 n = u := by simpa using hu
    rw [add_at, cell_of_row w _ _ _ 3 (0, 0) h]
    rfl⟩⟩
theorem lit2_C {w : World} {g : Nat} {s t : ByteArray} (h : w.heap[g]? = some (.cells #[.string s, .string t] 9 (0, 0))) : Kd.C Kd.string w (some ⟨g, 0, none⟩) 2 [s, t] :=
  ⟨rfl, by decide, fun _ => ⟨_, rfl, fun j p hj => by
    have hj2 : j < 2 := (List.getElem?_eq_some_iff.1 hj).1
    obtain ⟨hl, he⟩ := List.getElem?_eq_some_iff.1 hj
    refine ⟨[.string p], rfl, rfl, fun q u hu => ?_⟩
    obtain rfl : q = 0 := by
      have := (List.getElem?_eq_some_iff.1 hu).1
      simpa using this
    obtain rfl : Value.string p = u := by simpa using hu
    rw [add_at, cell_of_row w _ _ _ 9 (0, 0) h]
    obtain rfl | rfl : j = 0 ∨ j = 1 := by omega
    · simp at he; subst he; rfl
    · simp at he; subst he; rfl⟩⟩
theorem eqs_two (A0 : Option Addr) (c0 : Nat) (s t : ByteArray) (hc0 : 2 ≤ c0) : ∀ (w : World) (g : Nat), Kd.C Kd.string w A0 2 [s, t] → Kd.C Kd.string w (some ⟨g, 0, none⟩) 2 [s, t] → Calls Try.prog 20 #[.slice A0 2 c0, .slice (some ⟨g, 0, none⟩) 2 2] w fun e w' => e = .returned (.bool true) ∧ Drawn0 w w' :=
  fun w g h1 h2 => eqs_calls A0 c0 [s, t] _ 2 w h1 hc0 h2 (Nat.le_refl _) (by simp)
theorem size_le_drewN {B : Nat} {w : World} (n : Nat) (h : B ≤ w.heap.size) : B ≤ (w.drewN n).heap.size := h
theorem size_le_drew {B : Nat} {w : World} (h : B ≤ w.heap.size) : B ≤ w.drew.heap.size := h
theorem size_le_alloc {B : Nat} {w : World} (o : Obj) (h : B ≤ w.heap.size) : B ≤ (w.alloc o).heap.size := by rw [size_alloc']; omega
end Go.Proofs.Ytknljmljlgcfbaa.P
