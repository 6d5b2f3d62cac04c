/- Plain: the disk and the page's disk hold the same files. -/
import Derived.Test.YtknljmljlgcfbaaRef8
import Derived.Test.YtknljmljlgcfbaaRef9
import Derived.Test.YtknljmljlgcfbaaFull
namespace Go.Proofs.Ytknljmljlgcfbaa.P
open Go.RowKit Go.Proofs.YtknljmljlgcfbaaW.PrintWords Go.Proofs.YtknljmljlgcfbaaW.PrintLast Go.Proofs.YtknljmljlgcfbaaW.PrintMore
open Go.Proofs.Ytknljmljlgcfbaa
set_option linter.unusedSimpArgs false
set_option linter.unusedVariables false
structure St (F G : List DFile) : Prop where
  perm : F.Perm G
  rise : (G.map (·.name)).Pairwise (fun x y => lessN x y = true)
  file : ∀ f ∈ G, namedD f.name = true ∧ f.text.size ≤ 65536 ∧ 0 ≤ f.safe ∧ f.safe ≤ f.text.size
  used : usedD G ≤ 1048576
  many : G.length ≤ 64
theorem less_irr (a : ByteArray) : ¬ lessN a a = true := fun e => by unfold lessN at e; rw [blN_irrefl] at e; cases e
theorem less_tr {a b c : ByteArray} (h1 : lessN a b = true) (h2 : lessN b c = true) : lessN a c = true := blN_trans _ _ _ h1 h2
theorem less_tri {a b : ByteArray} (h1 : ¬ lessN a b = true) (h : a ≠ b) : lessN b a = true := by
  cases e : lessN b a with
  | true => rfl
  | false =>
    refine absurd (toL_inj (blN_tri _ _ ?_ e)) h
    cases e2 : lessN a b with
    | false => exact e2
    | true => exact absurd e2 h1
theorem usedD_perm {F G : List DFile} (h : F.Perm G) : usedD F = usedD G := by
  induction h with
  | nil => rfl
  | cons x _ ih => simp only [usedD, ih]
  | swap x y l => simp only [usedD]; omega
  | trans _ _ h1 h2 => rw [h1, h2]
theorem named_small {n : ByteArray} (h : namedD n = true) : n.size ≤ 64 := by
  unfold namedD at h
  split at h
  · cases h
  · split at h
    · cases h
    · omega
theorem rise_nodup {l : List ByteArray} (h : l.Pairwise (fun x y => lessN x y = true)) : l.Nodup := List.Pairwise.imp (fun {a b} (hab : lessN a b = true) => show a ≠ b from fun e => less_irr b (by rw [e] at hab; exact hab)) h
theorem St.okD {F G : List DFile} (h : St F G) : OkD F :=
  ⟨(h.perm.map _).nodup_iff.2 (rise_nodup h.rise), fun f hf => named_small (h.file f (h.perm.subset hf)).1, fun f hf => (h.file f (h.perm.subset hf)).2, by rw [usedD_perm h.perm]; exact h.used, by rw [h.perm.length_eq]; exact h.many⟩
theorem ixG_none : ∀ {G : List DFile} {n : ByteArray}, ixG G n = none → ∀ f ∈ G, f.name ≠ n
  | [], _, _, f, hf => by cases hf
  | g :: G, n, h, f, hf => by
    unfold ixG at h
    by_cases e : g.name = n
    · rw [if_pos e] at h; cases h
    · rw [if_neg e] at h
      cases hf with
      | head => exact e
      | tail _ hf =>
        refine ixG_none (G := G) ?_ f hf
        cases e2 : ixG G n with
        | none => rfl
        | some j => rw [e2] at h; cases h
theorem nodup_inj : ∀ {G : List DFile} {f g : DFile}, (G.map (·.name)).Nodup → f ∈ G → g ∈ G → f.name = g.name → f = g
  | [], _, _, _, hf, _, _ => by cases hf
  | x :: G, f, g, h, hf, hg, e => by
    rw [List.map_cons, List.nodup_cons] at h
    cases hf with
    | head =>
      cases hg with
      | head => rfl
      | tail _ hg => exact absurd (e ▸ List.mem_map_of_mem hg) h.1
    | tail _ hf =>
      cases hg with
      | head => exact absurd (e ▸ List.mem_map_of_mem hf) h.1
      | tail _ hg => exact nodup_inj h.2 hf hg e
theorem St.miss {F G : List DFile} (h : St F G) {n : ByteArray} (e : ixG G n = none) : lkD F n = none := lkD_lacks F n (fun f hf => ixG_none e f (h.perm.subset hf))
theorem St.hit {F G : List DFile} (h : St F G) {n : ByteArray} {i : Nat} (e : ixG G n = some i) : ∃ f, G[i]? = some f ∧ f.name = n ∧ lkD F n = some f := by
  obtain ⟨f, hf, hn⟩ := ixG_lt e
  refine ⟨f, hf, hn, ?_⟩
  have hm : f ∈ G := List.mem_of_getElem? hf
  obtain ⟨g, h1, h2, h3⟩ := lkD_mem F n (by rw [← hn]; exact List.mem_map_of_mem (h.perm.symm.subset hm))
  rw [h1, nodup_inj (rise_nodup h.rise) (h.perm.subset h2) hm (h3.trans hn.symm)]
theorem delD_perm : ∀ {F : List DFile} {n : ByteArray} {f : DFile}, lkD F n = some f → F.Perm (f :: delD F n)
  | [], _, _, h => by cases h
  | g :: F, n, f, h => by
    unfold lkD at h
    unfold delD
    by_cases e : g.name = n
    · rw [if_pos e] at h ⊢; injection h with h; subst h; exact List.Perm.refl _
    · rw [if_neg e] at h ⊢
      exact ((delD_perm h).cons g).trans (List.Perm.swap _ _ _)
theorem putD_perm : ∀ {F : List DFile} {g f : DFile}, lkD F g.name = some f → (putD F g).Perm (g :: delD F g.name)
  | [], _, _, h => by cases h
  | x :: F, g, f, h => by
    unfold lkD at h
    unfold delD putD
    by_cases e : x.name = g.name
    · rw [if_pos e, if_pos e]
    · rw [if_neg e] at h ⊢
      rw [if_neg e]
      exact ((putD_perm h).cons x).trans (List.Perm.swap _ _ _)
theorem erase_perm {G : List DFile} {i : Nat} {f : DFile} (h : G[i]? = some f) : G.Perm (f :: G.eraseIdx i) := by
  obtain ⟨hl, rfl⟩ := List.getElem?_eq_some_iff.1 h
  rw [List.eraseIdx_eq_take_drop_succ]
  conv => lhs; rw [← List.take_append_drop i G, List.drop_eq_getElem_cons hl]
  exact List.perm_middle
theorem set_perm {G : List DFile} {i : Nat} {f : DFile} (h : G[i]? = some f) (g : DFile) : (G.set i g).Perm (g :: G.eraseIdx i) := by
  have hl := (List.getElem?_eq_some_iff.1 h).1
  have h2 : (G.set i g)[i]? = some g := by simp [hl]
  have := erase_perm h2
  rw [List.eraseIdx_set_eq] at this
  exact this
theorem St.rest {F G : List DFile} (h : St F G) {n : ByteArray} {i : Nat} {f : DFile} (hf : G[i]? = some f) (hl : lkD F n = some f) : (delD F n).Perm (G.eraseIdx i) :=
  (((delD_perm hl).symm.trans h.perm).trans (erase_perm hf)).cons_inv
theorem St.used_rest {F G : List DFile} (h : St F G) {i : Nat} {f : DFile} (hf : G[i]? = some f) : usedD G = f.text.size + usedD (G.eraseIdx i) := usedD_erase G i f hf
theorem St.set_ {F G : List DFile} (h : St F G) {n : ByteArray} {i : Nat} {f g : DFile} (hf : G[i]? = some f) (hn : f.name = n) (hl : lkD F n = some f) (hg : g.name = n) (hs : g.text.size ≤ 65536 ∧ 0 ≤ g.safe ∧ g.safe ≤ g.text.size) (hu : usedD G - f.text.size + g.text.size ≤ 1048576) : St (putD F g) (G.set i g) := by
  subst hn
  rw [← hg] at hl
  have hp := set_perm hf g
  have hm : (G.set i g).map (·.name) = G.map (·.name) := by
    rw [List.map_set]
    refine List.ext_getElem? fun j => ?_
    rw [List.getElem?_set]
    split
    · next e => subst e; rw [List.getElem?_map, hf]; simp [(List.getElem?_eq_some_iff.1 hf).1, hg]
    · rfl
  refine ⟨(putD_perm hl).trans (((h.rest hf hl).cons g).trans hp.symm), by rw [hm]; exact h.rise, ?_, ?_, by rw [List.length_set]; exact h.many⟩
  · intro x hx
    have := hp.subset hx
    cases this with
    | head => exact ⟨by rw [hg]; exact (h.file f (List.mem_of_getElem? hf)).1, hs⟩
    | tail _ hx => exact h.file x ((erase_perm hf).symm.subset (.tail _ hx))
  · rw [usedD_perm hp]
    have := h.used_rest hf
    simp only [usedD]
    omega
theorem St.del_ {F G : List DFile} (h : St F G) {n : ByteArray} {i : Nat} {f : DFile} (hf : G[i]? = some f) (hl : lkD F n = some f) : St (delD F n) (G.eraseIdx i) := by
  refine ⟨h.rest hf hl, ?_, fun x hx => h.file x ((erase_perm hf).symm.subset (.tail _ hx)), ?_, ?_⟩
  · have : ((G.eraseIdx i).map (·.name)).Sublist (G.map (·.name)) := (List.eraseIdx_sublist G i).map _
    exact h.rise.sublist this
  · have := h.used_rest hf
    have := h.used
    omega
  · have := (List.eraseIdx_sublist G i).length_le
    have := h.many
    omega
theorem gput_cons (f : DFile) (G : List DFile) (g : DFile) : gput (f :: G) g = if lessN f.name g.name then f :: gput G g else g :: f :: G := by
  unfold gput
  rw [posG]
  split <;> rfl
theorem gput_perm (G : List DFile) (g : DFile) : (gput G g).Perm (g :: G) := by
  unfold gput
  conv => rhs; rw [← List.take_append_drop (posG G g.name) G]
  exact List.perm_middle
theorem gput_rise : ∀ {G : List DFile} {g : DFile}, (G.map (·.name)).Pairwise (fun x y => lessN x y = true) → (∀ f ∈ G, f.name ≠ g.name) → ((gput G g).map (·.name)).Pairwise (fun x y => lessN x y = true)
  | [], g, _, _ => List.pairwise_singleton _ _
  | f :: G, g, h, hn => by
    rw [gput_cons]
    rw [List.map_cons, List.pairwise_cons] at h
    split
    · next e =>
      rw [List.map_cons, List.pairwise_cons]
      refine ⟨?_, gput_rise h.2 (fun x hx => hn x (.tail _ hx))⟩
      intro y hy
      obtain ⟨x, hx, rfl⟩ := List.mem_map.1 hy
      cases (gput_perm G g).subset hx with
      | head => exact e
      | tail _ hx => exact h.1 _ (List.mem_map_of_mem hx)
    · next e =>
      have hlt : lessN g.name f.name = true := less_tri e (hn f (.head _))
      rw [List.map_cons, List.pairwise_cons]
      refine ⟨?_, by rw [List.map_cons, List.pairwise_cons]; exact h⟩
      intro y hy
      rw [List.map_cons] at hy
      cases hy with
      | head => exact hlt
      | tail _ hy => exact less_tr hlt (h.1 _ hy)
theorem St.put_ {F G : List DFile} (h : St F G) {g : DFile} (e : ixG G g.name = none) (hn : namedD g.name = true) (hs : g.text.size ≤ 65536 ∧ 0 ≤ g.safe ∧ g.safe ≤ g.text.size) (hu : usedD G + g.text.size ≤ 1048576) (hl : G.length < 64) : St (putD F g) (gput G g) := by
  have hp := gput_perm G g
  refine ⟨?_, gput_rise h.rise (ixG_none e), ?_, ?_, by rw [gput_len]; omega⟩
  · rw [putD_new F g (is_none (h.miss e))]
    exact List.perm_append_comm.trans ((h.perm.cons g).trans hp.symm)
  · intro x hx
    cases hp.subset hx with
    | head => exact ⟨hn, hs⟩
    | tail _ hx => exact h.file x hx
  · rw [usedD_perm hp]
    simp only [usedD]
    omega
theorem mn_comm (a b : Int) : mn a b = mn b a := by unfold mn; split <;> split <;> omega
theorem cnt0 : cntO 0 false = false := rfl
/-- What a call answers, and what lies there then. -/
structure Same (a b : List DFile × Int) : Prop where
  err : a.2 = b.2
  st : St a.1 b.1
theorem same_sync {F G : List DFile} (h : St F G) (n : ByteArray) : Same (syncR F 0 false n) (gsync G n) := by
  unfold syncR gsync
  rw [cnt0, if_neg (by decide)]
  cases e : ixG G n with
  | none => rw [h.miss e]; exact ⟨rfl, h⟩
  | some i =>
    obtain ⟨f, hf, hn, hl⟩ := h.hit e
    rw [hl]
    simp only [rdF_at hf]
    have hff := h.file f (List.mem_of_getElem? hf)
    exact ⟨rfl, h.set_ hf hn hl rfl ⟨hff.2.1, by show (0 : Int) ≤ f.text.size; omega, Int.le_refl _⟩ (by have := h.used; show usedD G - f.text.size + f.text.size ≤ 1048576; omega)⟩
theorem same_cut {F G : List DFile} (h : St F G) (n : ByteArray) (k : Int) : Same (cutR F 0 false n k) (gcut G n k) := by
  unfold cutR gcut
  rw [cnt0, if_neg (by decide)]
  cases e : ixG G n with
  | none => rw [h.miss e]; exact ⟨rfl, h⟩
  | some i =>
    obtain ⟨f, hf, hn, hl⟩ := h.hit e
    rw [hl]
    simp only [rdF_at hf]
    have hff := h.file f (List.mem_of_getElem? hf)
    by_cases h0 : k < 0
    · rw [if_pos h0, if_pos h0]; exact ⟨rfl, h⟩
    · rw [if_neg h0, if_neg h0]
      by_cases h1 : (f.text.size : Int) < k
      · rw [if_pos h1, if_pos h1]; exact ⟨rfl, h⟩
      · rw [if_neg h1, if_neg h1, mn_comm k f.safe]
        have hz : (f.text.extract 0 k.toNat).size = k.toNat := by rw [ByteArray.size_extract]; omega
        exact ⟨rfl, h.set_ hf hn hl rfl ⟨by show (f.text.extract 0 k.toNat).size ≤ 65536; omega, by show 0 ≤ mn f.safe k; unfold mn; split <;> omega, by show mn f.safe k ≤ ((f.text.extract 0 k.toNat).size : Int); rw [hz]; unfold mn; split <;> omega⟩ (by have := h.used; show usedD G - f.text.size + ((f.text.extract 0 k.toNat).size : Int) ≤ 1048576; rw [hz]; omega)⟩
theorem same_del {F G : List DFile} (h : St F G) (n : ByteArray) : Same (delR F 0 false n) (gdel G n) := by
  unfold delR gdel
  rw [cnt0, if_neg (by decide)]
  cases e : ixG G n with
  | none => rw [h.miss e]; exact ⟨rfl, h⟩
  | some i =>
    obtain ⟨f, hf, hn, hl⟩ := h.hit e
    rw [hl]
    exact ⟨rfl, h.del_ hf hl⟩
theorem same_app {F G : List DFile} (h : St F G) (n s : ByteArray) : Same (appR F 0 false n s) (gapp G n s) := by
  unfold appR gapp
  rw [cnt0, if_neg (by decide)]
  cases hnm : namedD n with
  | false => exact ⟨rfl, h⟩
  | true =>
    have tf : ¬ (true = false) := by decide
    rw [if_neg tf, if_neg tf]
    have hu := usedD_perm h.perm
    have hlen := h.perm.length_eq
    cases e : ixG G n with
    | none =>
      have hm := h.miss e
      have hfull : fullD F n s = fullG G n s := by
        unfold fullD fullG oldG
        rw [e, txt_none hm, is_none hm, hu, hlen]
        rfl
      rw [hfull]
      cases hf : fullG G n s with
      | true => exact ⟨rfl, h⟩
      | false =>
        rw [if_neg (by decide), if_neg (by decide), txt_none hm, saf_none hm, nil_app]
        unfold fullG oldG at hf
        rw [e] at hf
        simp at hf
        exact ⟨rfl, h.put_ e hnm ⟨by show s.size ≤ 65536; omega, Int.le_refl _, by show (0 : Int) ≤ s.size; omega⟩ (by show usedD G + s.size ≤ 1048576; omega) (by omega)⟩
    | some i =>
      obtain ⟨f, hf, hn, hl⟩ := h.hit e
      have hff := h.file f (List.mem_of_getElem? hf)
      have htx : txtD F n = f.text := by unfold txtD; rw [hl]
      have hsf : safD F n = f.safe := by unfold safD; rw [hl]
      have his : isD F n = true := by unfold isD; rw [hl]; rfl
      have hfull : fullD F n s = fullG G n s := by
        unfold fullD fullG oldG
        rw [e, htx, his, hu]
        simp only [rdF_at hf]
        rfl
      rw [hfull]
      cases hfu : fullG G n s with
      | true => exact ⟨rfl, h⟩
      | false =>
        rw [if_neg (by decide), if_neg (by decide), htx, hsf]
        simp only [rdF_at hf]
        unfold fullG oldG at hfu
        rw [e] at hfu
        simp only [rdF_at hf] at hfu
        simp at hfu
        exact ⟨rfl, h.set_ hf hn hl rfl ⟨by show (f.text ++ s).size ≤ 65536; rw [ByteArray.size_append]; omega, hff.2.2.1, by show f.safe ≤ ((f.text ++ s).size : Int); rw [ByteArray.size_append]; omega⟩ (by show usedD G - f.text.size + ((f.text ++ s).size : Int) ≤ 1048576; rw [ByteArray.size_append]; omega)⟩
/-- The names of a crash, and the texts. -/
theorem names_of {F G : List DFile} (h : St F G) {xs : List ByteArray} (hx : NamesOf F xs) : xs = G.map (·.name) :=
  perm_rising (show ∀ a : ByteArray, ¬ lessN a a = true from less_irr) (show ∀ a b c : ByteArray, lessN a b = true → lessN b c = true → lessN a c = true from fun a b c h1 h2 => less_tr h1 h2) (hx.perm.trans (h.perm.map _)) hx.rise h.rise
theorem crTs_gcr {F G : List DFile} (h : St F G) (picks : List Int) : ∀ (H : List DFile) (i : Nat), (∀ f ∈ H, f ∈ G) → crTs F picks (H.map (·.name)) i = gcr picks H i
  | [], _, _ => rfl
  | f :: H, i, hH => by
    have hm := hH f (.head _)
    obtain ⟨g, h1, h2, h3⟩ := lkD_mem F f.name (List.mem_map_of_mem (h.perm.symm.subset hm))
    have hg : g = f := nodup_inj (rise_nodup h.rise) (h.perm.subset h2) hm h3
    simp only [List.map_cons, crTs, gcr]
    rw [crTs_gcr h picks H (i + 1) (fun x hx => hH x (.tail _ hx))]
    unfold crText
    rw [h1, hg]
theorem St.nil : St [] [] := ⟨List.Perm.refl _, List.Pairwise.nil, (fun f hf => nomatch hf), by decide, by decide⟩
theorem same_newGo : ∀ (l : List (ByteArray × ByteArray)) (F G F' : List DFile), St F G → G.length + l.length ≤ 64 → newGo l F = some F' → St F' (gnewGo G l)
  | [], F, G, F', h, _, e => by
    unfold newGo at e
    injection e with e
    subst e
    exact h
  | p :: r, F, G, F', h, hl, e => by
    unfold newGo at e
    by_cases h1 : isD F p.1 = true
    · rw [if_pos h1] at e; cases e
    · rw [if_neg h1] at e
      by_cases h2 : namedD p.1 = false
      · rw [if_pos h2] at e; cases e
      · rw [if_neg h2] at e
        by_cases h3 : 65536 < p.2.size
        · rw [if_pos h3] at e; cases e
        · rw [if_neg h3] at e
          by_cases h4 : 1048576 - usedD F < (p.2.size : Int)
          · rw [if_pos h4] at e; cases e
          · rw [if_neg h4] at e
            have hu := usedD_perm h.perm
            have hx : ixG G p.1 = none := by
              cases e2 : ixG G p.1 with
              | none => rfl
              | some i =>
                obtain ⟨f, _, _, hlk⟩ := h.hit e2
                exact absurd (show isD F p.1 = true by unfold isD; rw [hlk]; rfl) h1
            have hn : namedD p.1 = true := by
              cases e3 : namedD p.1 with
              | true => rfl
              | false => exact absurd e3 h2
            have := h.put_ (g := ⟨p.1, p.2, p.2.size⟩) hx hn ⟨by show p.2.size ≤ 65536; omega, by show (0 : Int) ≤ p.2.size; omega, Int.le_refl _⟩ (by show usedD G + p.2.size ≤ 1048576; omega) (by simp at hl; omega)
            exact same_newGo r _ _ F' this (by rw [gput_len]; simp at hl; omega) e
theorem same_new {names texts : List ByteArray} {F : List DFile} (h : newR names texts = some F) : St F (gnew names texts) ∧ names.length = texts.length ∧ names.length ≤ 64 := by
  unfold newR at h
  by_cases h1 : names.length = texts.length
  · simp only [if_neg (fun e : names.length ≠ texts.length => e h1)] at h
    by_cases h2 : 64 < names.length
    · simp only [if_pos h2] at h; cases h
    · simp only [if_neg h2] at h
      exact ⟨same_newGo _ _ _ _ St.nil (by simp; omega) h, h1, by omega⟩
  · simp only [if_pos h1] at h; cases h
theorem crT_size (f : DFile) (i : Nat) (picks : List Int) : (crT f i picks).size ≤ f.text.size := by
  unfold crT
  rw [ByteArray.size_extract]
  omega
theorem new_ok (picks : List Int) : ∀ (H : List DFile) (i : Nat) (F : List DFile), (H.map (·.name)).Nodup → (∀ f ∈ H, namedD f.name = true ∧ f.text.size ≤ 65536) → (∀ f ∈ H, ¬ f.name ∈ F.map (·.name)) → usedD F + usedD H ≤ 1048576 → ∃ F', newGo ((H.map (·.name)).zip (gcr picks H i)) F = some F'
  | [], _, F, _, _, _, _ => ⟨F, rfl⟩
  | f :: H, i, F, hnd, hf, hF, hu => by
    rw [List.map_cons, List.nodup_cons] at hnd
    have h0 := hf f (.head _)
    have hc := crT_size f i picks
    have h1 : ¬ isD F f.name = true := fun e => hF f (.head _) ((isD_mem F f.name).1 e)
    have hu0 := usedD_nonneg H
    simp only [usedD] at hu
    simp only [List.map_cons, gcr, List.zip_cons_cons, newGo]
    rw [if_neg h1, if_neg (by rw [h0.1]; decide), if_neg (by omega), if_neg (by omega)]
    have hp := putD_new F ⟨f.name, crT f i picks, (crT f i picks).size⟩ (by cases e : isD F f.name; rfl; exact absurd e h1)
    refine new_ok picks H (i + 1) _ hnd.2 (fun x hx => hf x (.tail _ hx)) ?_ ?_
    · intro x hx hm
      rw [hp, List.map_append, List.mem_append] at hm
      rcases hm with hm | hm
      · exact hF x (.tail _ hx) hm
      · have : x.name = f.name := by simpa using hm
        exact hnd.1 (this ▸ List.mem_map_of_mem hx)
    · rw [hp, usedD_append]
      simp only [usedD]
      omega
theorem crash_new {F G : List DFile} (h : St F G) (picks : List Int) : ∃ F', newR (G.map (·.name)) (gcr picks G 0) = some F' := by
  obtain ⟨F', e⟩ := new_ok picks G 0 [] (rise_nodup h.rise) (fun f hf => ⟨(h.file f hf).1, (h.file f hf).2.1⟩) (fun f _ hm => by cases hm) (by have := h.used; simp only [usedD]; omega)
  refine ⟨F', ?_⟩
  have hm := h.many
  unfold newR
  rw [List.length_map, gcr_len]
  simp only [if_neg (fun e : G.length ≠ G.length => e rfl), if_neg (show ¬ 64 < G.length by omega)]
  exact e
theorem St.small {F G : List DFile} (h : St F G) : usedD F ≤ 4611686018427387904 ∧ (∀ n, (txtD F n).size ≤ 4000000000000000000) ∧ F.length ≤ 4000000000000000000 := by
  refine ⟨by rw [usedD_perm h.perm]; have := h.used; omega, fun n => Nat.le_trans (txt_small (k := 65536) (fun f hf => (h.file f (h.perm.subset hf)).2.1) n) (by decide), by rw [h.perm.length_eq]; have := h.many; omega⟩
/-! copies, and what is heavy -/
theorem copyS_l0 (l : List ByteArray) (hl : l.length ≤ 8796093022208) : ∀ (m k i : Nat), i + m = l.length → m + 1 ≤ k → fairwayref0_CopyStrings.l0 k l (l.take i) (i : Int) = some l
  | 0, k, i, h, hk => by
    obtain ⟨k, rfl⟩ : ∃ q, k = q + 1 := ⟨k - 1, by omega⟩
    rw [fairwayref0_CopyStrings.l0, if_neg (by omega), List.take_of_length_le (by omega)]
  | m + 1, k, i, h, hk => by
    obtain ⟨k, rfl⟩ : ∃ q, k = q + 1 := ⟨k - 1, by omega⟩
    have hi : i < l.length := by omega
    have e1 : wrap64 ((i : Int) + 1) = ((i + 1 : Nat) : Int) := by unfold wrap64; omega
    have er : rdOf ByteArray.empty l (i : Int) = l[i] := by unfold rdOf; simp [List.getElem?_eq_getElem hi]
    rw [fairwayref0_CopyStrings.l0, if_pos (by omega), if_pos (by omega), if_pos (by rw [List.length_take]; omega), er, e1, ← List.take_succ_eq_append_getElem hi]
    exact copyS_l0 l hl m k (i + 1) (by omega) (by omega)
theorem copyS_f (l : List ByteArray) (hl : l.length ≤ 8796093022208) : fairwayref0_CopyStrings.f (l.length + 1) l = some l := by
  have := copyS_l0 l hl l.length (l.length + 1) 0 (by omega) (by omega)
  exact this
theorem copyN_l0 (l : List Int) (hl : l.length ≤ 17592186043904) : ∀ (m k i : Nat), i + m = l.length → m + 1 ≤ k → fairwayref0_CopyNumbers.l0 k l (l.take i) (i : Int) = some l
  | 0, k, i, h, hk => by
    obtain ⟨k, rfl⟩ : ∃ q, k = q + 1 := ⟨k - 1, by omega⟩
    rw [fairwayref0_CopyNumbers.l0, if_neg (by omega), List.take_of_length_le (by omega)]
  | m + 1, k, i, h, hk => by
    obtain ⟨k, rfl⟩ : ∃ q, k = q + 1 := ⟨k - 1, by omega⟩
    have hi : i < l.length := by omega
    have e1 : wrap64 ((i : Int) + 1) = ((i + 1 : Nat) : Int) := by unfold wrap64; omega
    have er : rd l (i : Int) = l[i] := by unfold rd; simp [List.getElem?_eq_getElem hi]
    rw [fairwayref0_CopyNumbers.l0, if_pos (by omega), if_pos (by omega), if_pos (by rw [List.length_take]; omega), er, e1, ← List.take_succ_eq_append_getElem hi]
    exact copyN_l0 l hl m k (i + 1) (by omega) (by omega)
theorem copyN_f (l : List Int) (hl : l.length ≤ 17592186043904) : fairwayref0_CopyNumbers.f (l.length + 1) l = some l := by
  have := copyN_l0 l hl l.length (l.length + 1) 0 (by omega) (by omega)
  exact this
end Go.Proofs.Ytknljmljlgcfbaa.P
