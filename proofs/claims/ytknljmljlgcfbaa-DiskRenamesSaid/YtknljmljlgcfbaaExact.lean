/- By hand: DiskExact: what the walk wants. -/
import Derived.Test.YtknljmljlgcfbaaRen
import Derived.Test.YtknljmljlgcfbaaSafe
import Derived.Test.YtknljmljlgcfbaaP1
namespace Go.Proofs.Ytknljmljlgcfbaa.P
open Go.RowKit Go.Proofs.YtknljmljlgcfbaaW.PrintWords Go.Proofs.YtknljmljlgcfbaaW.PrintLast Go.Proofs.YtknljmljlgcfbaaW.PrintMore
open Go.Proofs.Ytknljmljlgcfbaa
set_option linter.unusedSimpArgs false
set_option linter.unusedVariables false
def actOk (a : S64) : Bool := (decide (a.f0 = 3) || decide (a.f0 = 9)) && (decide (a.f2.size ≤ 140737488351232) && decide (a.f4.size ≤ 140737488351232) && decide (a.f5.length ≤ 17592186043904) && decide (a.f3.size ≤ 140737488351232))
def exactOk (N T : List ByteArray) (L : List S64) : Bool := decide (N.length ≤ 8796093022208) && (decide (T.length ≤ 8796093022208) && (decide (L.length ≤ 200) && (N.all (fun n => decide (n.size ≤ 140737488351232)) && (T.all (fun n => decide (n.size ≤ 140737488351232)) && L.all actOk))))
def fairwaylaw9_DiskExact.f (l0_0 : List ByteArray) (l0_1 : List ByteArray) (l0_2 : List S64) : Option Bool := if exactOk l0_0 l0_1 l0_2 = true then some true else none
structure ActOk (a : S64) : Prop where
  do_ : a.f0 = 3 ∨ a.f0 = 9
  name : a.f2.size ≤ 140737488351232
  text : a.f4.size ≤ 140737488351232
  picks : a.f5.length ≤ 17592186043904
  dest : a.f3.size ≤ 140737488351232
structure ExactOk (N T : List ByteArray) (L : List S64) : Prop where
  n : N.length ≤ 8796093022208
  t : T.length ≤ 8796093022208
  l : L.length ≤ 200
  names : ∀ n ∈ N, n.size ≤ 140737488351232
  texts : ∀ n ∈ T, n.size ≤ 140737488351232
  acts : ∀ a ∈ L, ActOk a
theorem actOk_is {a : S64} (h : actOk a = true) : ActOk a := by
  unfold actOk at h
  simp only [Bool.and_eq_true, Bool.or_eq_true, decide_eq_true_eq] at h
  obtain ⟨h0, ⟨⟨h1, h2⟩, h3⟩, h4⟩ := h
  exact ⟨by omega, h1, h2, h3, h4⟩
theorem exactOk_is {N T : List ByteArray} {L : List S64} (h : exactOk N T L = true) : ExactOk N T L := by
  unfold exactOk at h
  simp only [Bool.and_eq_true, decide_eq_true_eq, List.all_eq_true] at h
  obtain ⟨h1, h2, h3, h4, h5, h6⟩ := h
  exact ⟨h1, h2, h3, h4, h5, fun a ha => actOk_is (h6 a ha)⟩
/-! whatever is heavy, it is told -/
theorem weight_l0 (l : List ByteArray) (hl : l.length ≤ 4000000000000000000) : ∀ (m k i : Nat) (x : Int), i + m = l.length → m + 1 ≤ k → ∃ r, fairwaylaw0_TextWeight.l0 k l x (i : Int) = some r
  | 0, k, i, x, h, hk => by
    obtain ⟨k, rfl⟩ : ∃ q, k = q + 1 := ⟨k - 1, by omega⟩
    rw [fairwaylaw0_TextWeight.l0, if_neg (by omega)]
    exact ⟨_, rfl⟩
  | m + 1, k, i, x, h, hk => by
    obtain ⟨k, rfl⟩ : ∃ q, k = q + 1 := ⟨k - 1, by omega⟩
    have e1 : wrap64 ((i : Int) + 1) = ((i + 1 : Nat) : Int) := by unfold wrap64; omega
    rw [fairwaylaw0_TextWeight.l0, if_pos (by omega), e1]
    split
    · rw [if_pos (by omega)]
      exact weight_l0 l hl m k (i + 1) _ (by omega) (by omega)
    · exact ⟨_, rfl⟩
theorem heavy_l0 (N T : List ByteArray) (L : List S64) (hl : L.length ≤ 4000000000000000000) : ∀ (m k i : Nat) (x : Int), i + m = L.length → m + 1 ≤ k → ∃ r, fairwaylaw9_heavy.l0 k x (i : Int) N T L = some r ∧ (r = false → L.length ≤ 200)
  | 0, k, i, x, h, hk => by
    obtain ⟨k, rfl⟩ : ∃ q, k = q + 1 := ⟨k - 1, by omega⟩
    rw [fairwaylaw9_heavy.l0, if_neg (by omega)]
    split
    · exact ⟨_, rfl, fun e => by cases e⟩
    · exact ⟨_, rfl, fun e => by have := of_decide_eq_false e; omega⟩
  | m + 1, k, i, x, h, hk => by
    obtain ⟨k, rfl⟩ : ∃ q, k = q + 1 := ⟨k - 1, by omega⟩
    have e1 : wrap64 ((i : Int) + 1) = ((i + 1 : Nat) : Int) := by unfold wrap64; omega
    rw [fairwaylaw9_heavy.l0, if_pos (by omega), e1]
    split
    · rw [if_pos (by omega)]
      exact heavy_l0 N T L hl m k (i + 1) _ (by omega) (by omega)
    · split
      · exact ⟨_, rfl, fun e => by cases e⟩
      · exact ⟨_, rfl, fun e => by have := of_decide_eq_false e; omega⟩
theorem heavy_total (N T : List ByteArray) (L : List S64) (hN : N.length ≤ 4000000000000000000) (hT : T.length ≤ 4000000000000000000) (hL : L.length ≤ 4000000000000000000) (k : Nat) (h1 : N.length + 1 ≤ k) (h2 : T.length + 1 ≤ k) (h3 : L.length + 1 ≤ k) : ∃ r, fairwaylaw9_heavy.f k N T L = some r ∧ (r = false → L.length ≤ 200) := by
  unfold fairwaylaw9_heavy.f fairwaylaw0_TextWeight.f
  obtain ⟨r1, e1⟩ := weight_l0 N hN N.length k 0 (N.length : Int) (by omega) h1
  obtain ⟨r2, e2⟩ := weight_l0 T hT T.length k 0 (T.length : Int) (by omega) h2
  obtain ⟨r3, e3, h3⟩ := heavy_l0 N T L hL L.length k 0 (wrap64 (r1 + r2)) (by omega) h3
  rw [show ((0 : Nat) : Int) = 0 from rfl] at e1 e2 e3
  rw [e1, e2]
  exact ⟨r3, e3, h3⟩
/-! both disks at once -/
abbrev MX (m ab : Nat) (k : Nat) : Prop := k = m ∨ k = ab
structure TS (wa W : World) (d m r ab : Nat) (bc : Array Value) (F G : List DFile) : Prop where
  disk : DiskAt W d m F 0 false
  ref : ∃ v, RefAt W d (MX m ab) r wa.heap.size v G
  box : W.heap[ab]? = some (.cells bc 64 (0, 0))
  below : Below wa.heap.size wa W
  d0 : wa.heap.size ≤ d
  m0 : wa.heap.size ≤ m
  ad : ab ≠ d
  am : ab ≠ m
theorem TS.step {wa W W1 : World} {d m r ab : Nat} {bc : Array Value} {F G : List DFile} (h : TS wa W d m r ab bc F G) (hb : Below W.heap.size W W1) : TS wa W1 d m r ab bc F G :=
  ⟨h.disk.below hb, h.ref.imp fun v hv => hv.below hb, (hb.block ab (blk_lt h.box)).trans h.box, below_step h.below hb, h.d0, h.m0, h.ad, h.am⟩
theorem TS.disk_ {wa W W1 : World} {d m r ab : Nat} {bc : Array Value} {F F' G : List DFile} (h : TS wa W d m r ab bc F G) (hd : DiskAt W1 d m F' 0 false) (hf : Fr W W1 (DM d m)) : TS wa W1 d m r ab bc F' G :=
  ⟨hd, h.ref.imp fun v hv => hv.fr hf (fun k hk => by rcases hk with e | e; exact .inl e; exact .inr (.inl e)), hf.block h.box (fun e => by rcases e with e | e; exact h.ad e; exact h.am e), Fr.below h.below hf h.below.size (fun k hk => by rcases hk with e | e; rw [e]; exact h.d0; rw [e]; exact h.m0), h.d0, h.m0, h.ad, h.am⟩
theorem TS.ref_ {wa W W1 : World} {d m r ab : Nat} {bc : Array Value} {F G G' : List DFile} (h : TS wa W d m r ab bc F G) (hr : ∃ v, RefAt W1 d (MX m ab) r wa.heap.size v G') (hf : Fr W W1 (RS d (MX m ab) wa.heap.size)) : TS wa W1 d m r ab bc F G' :=
  ⟨h.disk.fr hf (fun e => e.2.1 rfl) (fun e => e.2.2 (.inl rfl)), hr, hf.block h.box (fun e => e.2.2 (.inr rfl)), Fr.below h.below hf h.below.size (fun k hk => hk.1), h.d0, h.m0, h.ad, h.am⟩
theorem RefAt.less {w : World} {d : Nat} {m m' : Nat → Prop} {r B : Nat} {v : Value} {G : List DFile} (h : RefAt w d m r B v G) (hm : ∀ k, m' k → m k) : RefAt w d m' r B v G :=
  ⟨h.blk, Kd.R_mono h.row (fun k hk => ⟨hk.1, hk.2.1, fun e => hk.2.2 (hm k e)⟩), h.base, h.r0, h.ltd, fun k hk => h.ltm k (hm k hk), h.nd, fun e => h.nm (hm r e)⟩
theorem eqs_len (A0 : Option Addr) (c0 : Nat) (l : List ByteArray) (A1 : Option Addr) (c1 n : Nat) (w : World) (hn : l.length = n) (hr0 : Kd.C Kd.string w A0 l.length l) (hc0 : n ≤ c0) (hr1 : Kd.C Kd.string w A1 l.length l) (hc1 : n ≤ c1) (h : n ≤ 64) :
    Calls Try.prog 20 #[.slice A0 n c0, .slice A1 n c1] w fun e w' => e = .returned (.bool true) ∧ Drawn0 w w' := by
  subst hn
  exact eqs_calls A0 c0 l A1 c1 w hr0 hc0 hr1 hc1 h
theorem disk_New.to_n (A0 : Option Addr) (c0 : Nat) (names : List ByteArray) (A1 : Option Addr) (c1 : Nat) (texts : List ByteArray) (n : Nat) (F : List DFile) (w : World) (h1 : names.length = n) (h2 : texts.length = n) (hr0 : Kd.C Kd.string w A0 names.length names) (hc0 : n ≤ c0) (hr1 : Kd.C Kd.string w A1 texts.length texts) (hc1 : n ≤ c1) (hn : newR names texts = some F) :
    Calls Try.prog 11 #[.slice A0 n c0, .slice A1 n c1] w fun e w' => ∃ d m, w.heap.size ≤ d ∧ w.heap.size ≤ m ∧ e = .returned (.tuple #[.pointer (some ⟨d, 0, none⟩), .int .i64 0]) ∧ DiskAt w' d m F 0 false ∧ Below w.heap.size w w' := by
  have := disk_New.to A0 c0 names A1 c1 texts F w hr0 (by omega) hr1 (by omega) hn
  rw [h1, h2] at this
  exact this
theorem ref_New.calls_n (A0 : Option Addr) (c0 : Nat) (names : List ByteArray) (A1 : Option Addr) (c1 : Nat) (texts : List ByteArray) (n : Nat) (w : World) (h1 : names.length = n) (h2 : texts.length = n) (d : Nat) (m : Nat → Prop) (hd : d < w.heap.size) (hm : ∀ k, m k → k < w.heap.size) (hr0 : Kd.C Kd.string w A0 names.length names) (hc0 : n ≤ c0) (hr1 : Kd.C Kd.string w A1 texts.length texts) (hc1 : n ≤ c1) (h64 : n ≤ 64) :
    Calls Try.prog 39 #[.slice A0 n c0, .slice A1 n c1] w fun e w' => ∃ (r : Nat) (v : Value), e = .returned (.pointer (some ⟨r, 0, none⟩)) ∧ RefAt w' d m r w.heap.size v (gnew names texts) ∧ Below w.heap.size w w' := by
  have := ref_New.calls A0 c0 names A1 c1 texts w d m hd hm hr0 (by omega) hr1 (by omega) (by omega) (by omega)
  rw [h1, h2] at this
  exact this
theorem below_drewN' (W : World) (n : Nat) : Below W.heap.size W (W.drewN n) := pw_below_drewN (Below.refl _ W) n
theorem TS.mk_ {wa wr : World} {d m r : Nat} {v : Value} {F G : List DFile} (bc : Array Value) (hd : DiskAt wr d m F 0 false) (hr : RefAt wr d (fun k => k = m) r wa.heap.size v G) (hb : Below wa.heap.size wa wr) (h0 : wa.heap.size ≤ d) (h1 : wa.heap.size ≤ m) :
    TS wa (wr.alloc (.cells bc 64)) d m r wr.heap.size bc F G := by
  have hlt := hr.lt
  have hld := hd.lt.1
  have hlm := hd.map.lt
  have hr1 := hr.below (below_alloc (Below.refl _ wr) (.cells bc 64))
  refine ⟨hd.alloc _, ⟨v, hr1.more (m' := MX m wr.heap.size) ?_ ?_ ?_⟩, heap_alloc_new wr _, below_alloc hb _, h0, h1, by omega, by omega⟩
  · intro k hk
    rw [size_alloc']
    rcases hk with hk | hk <;> omega
  · intro e
    rcases e with e | e
    · exact hr.nm e
    · omega
  · intro k hk e
    have hlt2 := Kd.R_lt hr.row k e.symm
    rcases hk with hk | hk
    · exact (hr.row.1 k e.symm).2.2 hk
    · omega
end Go.Proofs.Ytknljmljlgcfbaa.P
