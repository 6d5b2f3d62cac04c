/- Plain law (no program's run): the reference's texts (fairwayref1.Text) are what text.Check tells. -/
import Derived.Test.YtoflajekfpggbaaDoorP2
import Derived.Test.YtoflajekfpggbaaDoorHPlain
namespace Go.Proofs.YtoflajekfpggbaaDoor.P
open Go.RowKit Go.Proofs.YtoflajekfpggbaaDoorW.PrintWords Go.Proofs.YtoflajekfpggbaaDoorW.PrintLast Go.Proofs.YtoflajekfpggbaaDoorW.PrintMore
open Go.Proofs.YtoflajekfpggbaaDoor
set_option linter.unusedSimpArgs false
set_option linter.unusedVariables false

theorem wrap_small (n : Int) (h0 : -9223372036854775808 ≤ n) (h1 : n ≤ 9223372036854775807) : wrap64 n = n := by unfold wrap64; omega
theorem bt_nat (s : ByteArray) (j : Nat) (h : j < s.size) : bt s (j : Int) = ((s.get! j).toNat : Int) := by
  unfold bt
  rw [dif_pos (by simpa using h), H.get_get s j h]
  rfl
theorem bt_lt (s : ByteArray) (i : Int) : 0 ≤ bt s i ∧ bt s i < 256 := by
  unfold bt
  split
  · rename_i h; have := (s[i.toNat]'h).toNat_lt; omega
  · omega

/-- What stands at a text's front: a code point that may be, and its bytes; or (0, 0). -/
def pointS (x : ByteArray) : Int × Int :=
  if H.goodC (Utf8.decode x 0).1 && !((Utf8.decode x 0).1 == 65533 && (Utf8.decode x 0).2 == 1) then (((Utf8.decode x 0).1 : Int), ((Utf8.decode x 0).2 : Int)) else (0, 0)

theorem good_is (c : Nat) : fairwayref1_good.f (c : Int) = some (H.goodC c) := by
  unfold fairwayref1_good.f H.goodC
  rw [show Int.tmod (c : Int) 65536 = (c : Int) % 65536 from Int.tmod_eq_emod_of_nonneg (by omega)]
  by_cases c1 : (c : Int) < 32
  · simp [c1]
  by_cases c2 : (c : Int) ≥ 127 <;> by_cases c3 : (c : Int) ≤ 159 <;> by_cases c4 : (c : Int) > 1114111 <;> by_cases c5 : (c : Int) ≥ 55296 <;> by_cases c6 : (c : Int) ≤ 57343 <;> by_cases c7 : (c : Int) ≥ 64976 <;> by_cases c8 : (c : Int) ≤ 65007 <;>
    (first | (exfalso; omega) | (simp [c1, c2, c3, c4, c5, c6, c7, c8]; try omega))

/-- A continuing byte's step. -/
theorem point_l0 (x : ByteArray) (n low r i : Nat) (k : Nat) (hi : i < n) (hx : n ≤ x.size) (hn : n ≤ 4) (hr : r ≤ 1000000) (c : Nat) (hc : (x.get! i).toNat = c) (hc2 : c < 256) :
    fairwayref1_point.l0 (k + 1) x (n : Int) (low : Int) (r : Int) (i : Int) = if c / 64 = 2 then fairwayref1_point.l0 k x (n : Int) (low : Int) ((r * 64 + (c - 128) : Nat) : Int) ((i + 1 : Nat) : Int) else some (0, 0) := by
  have hb := bt_nat x i (by omega)
  rw [hc] at hb
  conv => lhs; unfold fairwayref1_point.l0
  rw [hb]
  rw [if_pos (by omega), if_pos (by omega), if_pos (by omega)]
  by_cases h1 : c / 64 = 2
  · rw [if_pos h1]
    simp (disch := omega) only [wrap_small, if_neg]
    congr 1 <;> omega
  · rw [if_neg h1]
    by_cases h2 : c < 128
    · simp (disch := omega) only [wrap_small, if_pos]
    · simp (disch := omega) only [wrap_small, if_pos, if_neg]
theorem point_l0_end (x : ByteArray) (n low r i : Nat) (k : Nat) (hi : n ≤ i) :
    fairwayref1_point.l0 (k + 1) x (n : Int) (low : Int) (r : Int) (i : Int) = some (if r < low then (0, 0) else if H.goodC (r : Int) then ((r : Int), (n : Int)) else (0, 0)) := by
  conv => lhs; unfold fairwayref1_point.l0
  rw [if_neg (by omega)]
  by_cases h : r < low
  · rw [if_pos (by omega), if_pos h]
  · rw [if_neg (by omega), if_neg h, good_is]
    simp only [Option.bind_some]
    split <;> simp_all

set_option maxHeartbeats 4000000 in
theorem point_is (x : ByteArray) (hx : 0 < x.size) (k : Nat) : fairwayref1_point.f (k + 12) x = some (pointS x) := by
  have b0 := (x.get! 0).toNat_lt; have b1 := (x.get! 1).toNat_lt; have b2 := (x.get! 2).toNat_lt; have b3 := (x.get! 3).toNat_lt
  have hb := bt_nat x 0 hx
  unfold pointS
  rw [Lib.decode_at]
  simp only [Nat.zero_add, Nat.sub_zero]
  obtain ⟨c0, h0⟩ : ∃ c, (x.get! 0).toNat = c := ⟨_, rfl⟩
  obtain ⟨c1, h1⟩ : ∃ c, (x.get! 1).toNat = c := ⟨_, rfl⟩
  obtain ⟨c2, h2⟩ : ∃ c, (x.get! 2).toNat = c := ⟨_, rfl⟩
  obtain ⟨c3, h3⟩ : ∃ c, (x.get! 3).toNat = c := ⟨_, rfl⟩
  rw [h0] at b0 hb; rw [h1] at b1; rw [h2] at b2; rw [h3] at b3
  rw [h0, h1, h2, h3]
  have hb' : bt x 0 = (c0 : Int) := hb
  unfold fairwayref1_point.f
  rw [hb', if_pos (by omega), wrap_small _ (by omega) (by omega)]
  have e65 : H.goodC ((65533 : Nat) : Int) = true := by decide
  by_cases k1 : c0 < 128
  · have hd : Lib.decodeN x.size c0 c1 c2 c3 = (c0, 1) := by unfold Lib.decodeN; rw [if_pos k1]
    rw [hd, if_neg (by omega)]
    unfold fairwayref1_point.j0 fairwayref1_point.j1 fairwayref1_point.j2 fairwayref1_point.j3
    simp (disch := omega) only [if_pos, if_neg, Bool.false_eq_true, if_false]
    have e := point_l0_end x 1 0 c0 1 (k + 7) (by omega)
    rw [show ((1 : Nat) : Int) = 1 from rfl, show ((0 : Nat) : Int) = 0 from rfl] at e
    rw [e, if_neg (by omega)]
    have e2 : (c0 == 65533) = false := by rw [beq_eq_false_iff_ne]; omega
    cases hg : H.goodC (c0 : Int) <;> simp [hg, e2]
  by_cases k2 : c0 < 192
  · have hd : Lib.decodeN x.size c0 c1 c2 c3 = (65533, 1) := by
      unfold Lib.decodeN
      rw [if_neg (by omega), if_neg (by omega), if_neg (by omega), if_neg (by omega)]
    rw [hd, if_neg (by omega)]
    unfold fairwayref1_point.j0 fairwayref1_point.j1 fairwayref1_point.j2
    simp (disch := omega) only [if_pos, if_neg, Bool.false_eq_true, if_false]
    simp [e65]
  by_cases k3 : c0 < 224
  · rw [if_neg (by omega)]
    unfold fairwayref1_point.j0 fairwayref1_point.j1 fairwayref1_point.j2
    simp (disch := omega) only [if_pos, if_neg, Bool.false_eq_true, if_false, decide_eq_true_eq, wrap_small]
    rw [fairwayref1_point.j3]
    by_cases s2 : 1 < x.size
    · rw [if_neg (by omega)]
      have e := point_l0 x 2 128 (c0 - 192) 1 (k + 7) (by omega) (by omega) (by omega) (by omega) c1 h1 b1
      rw [show ((1 : Nat) : Int) = 1 from rfl, show ((2 : Nat) : Int) = 2 from rfl, show ((128 : Nat) : Int) = 128 from rfl, show ((c0 - 192 : Nat) : Int) = (c0 : Int) - 192 by omega] at e
      try rw [show ((1 + 1 : Nat) : Int) = 2 from rfl]
      try rw [show ((2 + 1 : Nat) : Int) = 3 from rfl]
      rw [e]
      by_cases t1 : c1 / 64 = 2
      · have e3 := point_l0_end x 2 128 ((c0 - 192) * 64 + (c1 - 128)) 2 (k + 6) (by omega)
        rw [if_pos t1]
        rw [show ((2 : Nat) : Int) = 2 from rfl, show ((128 : Nat) : Int) = 128 from rfl] at e3
        try rw [show ((1 + 1 : Nat) : Int) = 2 from rfl]
        try rw [show ((2 + 1 : Nat) : Int) = 3 from rfl]
        try rw [show ((3 + 1 : Nat) : Int) = 4 from rfl]
        rw [e3]
        have hd : Lib.decodeN x.size c0 c1 c2 c3 = if c0 % 32 * 64 + c1 % 64 ≥ 128 then (c0 % 32 * 64 + c1 % 64, 2) else (65533, 1) := by
          unfold Lib.decodeN
          rw [if_neg (by omega), if_pos (by omega)]
        have hv : (c0 - 192) * 64 + (c1 - 128) = c0 % 32 * 64 + c1 % 64 := by omega
        rw [hd, hv]
        generalize c0 % 32 * 64 + c1 % 64 = v
        by_cases hv2 : v < 128
        · rw [show (if v ≥ 128 then (v, 2) else (65533, 1)) = ((65533, 1) : Nat × Nat) from if_neg (by omega), if_pos hv2]; simp [e65]
        · rw [show (if v ≥ 128 then (v, 2) else (65533, 1)) = ((v, 2) : Nat × Nat) from if_pos (by omega), if_neg hv2]; cases hg : H.goodC (v : Int) <;> simp [hg]
      · have hd : Lib.decodeN x.size c0 c1 c2 c3 = (65533, 1) := by
          unfold Lib.decodeN
          rw [if_neg (by omega), if_neg (by omega), if_neg (by omega), if_neg (by omega)]
        rw [if_neg t1, hd]; simp [e65]
    · have hd : Lib.decodeN x.size c0 c1 c2 c3 = (65533, 1) := by
        unfold Lib.decodeN
        rw [if_neg (by omega), if_neg (by omega), if_neg (by omega), if_neg (by omega)]
      rw [if_pos (by omega), hd]; simp [e65]
  by_cases k4 : c0 < 240
  · rw [if_neg (by omega)]
    unfold fairwayref1_point.j0 fairwayref1_point.j1
    simp (disch := omega) only [if_pos, if_neg, Bool.false_eq_true, if_false, decide_eq_true_eq, wrap_small]
    rw [fairwayref1_point.j3]
    have hbad : ¬ (2 < x.size ∧ c1 / 64 = 2 ∧ c2 / 64 = 2) → Lib.decodeN x.size c0 c1 c2 c3 = (65533, 1) := by
      intro hb
      unfold Lib.decodeN
      rw [if_neg (by omega), if_neg (by omega), if_neg (by omega), if_neg (by omega)]
    by_cases s2 : 2 < x.size
    · rw [if_neg (by omega)]
      have e := point_l0 x 3 2048 (c0 - 224) 1 (k + 8) (by omega) (by omega) (by omega) (by omega) c1 h1 b1
      rw [show ((1 : Nat) : Int) = 1 from rfl, show ((3 : Nat) : Int) = 3 from rfl, show ((2048 : Nat) : Int) = 2048 from rfl, show ((c0 - 224 : Nat) : Int) = (c0 : Int) - 224 by omega] at e
      try rw [show ((1 + 1 : Nat) : Int) = 2 from rfl]
      try rw [show ((2 + 1 : Nat) : Int) = 3 from rfl]
      rw [e]
      by_cases t1 : c1 / 64 = 2
      · rw [if_pos t1]
        have e := point_l0 x 3 2048 ((c0 - 224) * 64 + (c1 - 128)) 2 (k + 7) (by omega) (by omega) (by omega) (by omega) c2 h2 b2
        rw [show ((2 : Nat) : Int) = 2 from rfl, show ((3 : Nat) : Int) = 3 from rfl, show ((2048 : Nat) : Int) = 2048 from rfl] at e
        try rw [show ((1 + 1 : Nat) : Int) = 2 from rfl]
        try rw [show ((2 + 1 : Nat) : Int) = 3 from rfl]
        rw [e]
        by_cases t2 : c2 / 64 = 2
        · rw [if_pos t2]
          have e3 := point_l0_end x 3 2048 (((c0 - 224) * 64 + (c1 - 128)) * 64 + (c2 - 128)) 3 (k + 6) (by omega)
          rw [show ((3 : Nat) : Int) = 3 from rfl, show ((2048 : Nat) : Int) = 2048 from rfl] at e3
          try rw [show ((1 + 1 : Nat) : Int) = 2 from rfl]
          try rw [show ((2 + 1 : Nat) : Int) = 3 from rfl]
          try rw [show ((3 + 1 : Nat) : Int) = 4 from rfl]
          rw [e3]
          have hv : ((c0 - 224) * 64 + (c1 - 128)) * 64 + (c2 - 128) = c0 % 16 * 4096 + c1 % 64 * 64 + c2 % 64 := by omega
          have hd : Lib.decodeN x.size c0 c1 c2 c3 = if (c0 % 16 * 4096 + c1 % 64 * 64 + c2 % 64) ≥ 2048 ∧ ((c0 % 16 * 4096 + c1 % 64 * 64 + c2 % 64) < 55296 ∨ (57344 ≤ (c0 % 16 * 4096 + c1 % 64 * 64 + c2 % 64) ∧ (c0 % 16 * 4096 + c1 % 64 * 64 + c2 % 64) ≤ 1114111)) then ((c0 % 16 * 4096 + c1 % 64 * 64 + c2 % 64), 3) else (65533, 1) := by
            unfold Lib.decodeN
            rw [if_neg (by omega), if_neg (by omega), if_pos (by omega)]
          rw [hd, hv]
          generalize c0 % 16 * 4096 + c1 % 64 * 64 + c2 % 64 = v
          by_cases hv2 : v < 2048
          · rw [show (if v ≥ 2048 ∧ (v < 55296 ∨ (57344 ≤ v ∧ v ≤ 1114111)) then (v, 3) else (65533, 1)) = ((65533, 1) : Nat × Nat) from if_neg (by omega), if_pos hv2]; simp [e65]
          · rw [if_neg hv2]
            by_cases hv3 : v < 55296 ∨ (57344 ≤ v ∧ v ≤ 1114111)
            · rw [show (if v ≥ 2048 ∧ (v < 55296 ∨ (57344 ≤ v ∧ v ≤ 1114111)) then (v, 3) else (65533, 1)) = ((v, 3) : Nat × Nat) from if_pos (by omega)]; cases hg : H.goodC (v : Int) <;> simp [hg]
            · have hg : H.goodC (v : Int) = false := by unfold H.goodC; simp; omega
              rw [show (if v ≥ 2048 ∧ (v < 55296 ∨ (57344 ≤ v ∧ v ≤ 1114111)) then (v, 3) else (65533, 1)) = ((65533, 1) : Nat × Nat) from if_neg (by omega), hg]; simp [e65]
        · rw [if_neg t2, hbad (by omega)]; simp [e65]
      · rw [if_neg t1, hbad (by omega)]; simp [e65]
    · rw [if_pos (by omega), hbad (by omega)]; simp [e65]
  by_cases k5 : c0 < 248
  · rw [if_pos (by omega)]
    unfold fairwayref1_point.j0
    simp (disch := omega) only [if_pos, if_neg, Bool.false_eq_true, if_false, decide_eq_true_eq, wrap_small]
    rw [fairwayref1_point.j3]
    have hbad : ¬ (3 < x.size ∧ c1 / 64 = 2 ∧ c2 / 64 = 2 ∧ c3 / 64 = 2) → Lib.decodeN x.size c0 c1 c2 c3 = (65533, 1) := by
      intro hb
      unfold Lib.decodeN
      rw [if_neg (by omega), if_neg (by omega), if_neg (by omega), if_neg (by omega)]
    by_cases s2 : 3 < x.size
    · rw [if_neg (by omega)]
      have e := point_l0 x 4 65536 (c0 - 240) 1 (k + 9) (by omega) (by omega) (by omega) (by omega) c1 h1 b1
      rw [show ((1 : Nat) : Int) = 1 from rfl, show ((4 : Nat) : Int) = 4 from rfl, show ((65536 : Nat) : Int) = 65536 from rfl, show ((c0 - 240 : Nat) : Int) = (c0 : Int) - 240 by omega] at e
      try rw [show ((1 + 1 : Nat) : Int) = 2 from rfl]
      try rw [show ((2 + 1 : Nat) : Int) = 3 from rfl]
      rw [e]
      by_cases t1 : c1 / 64 = 2
      · rw [if_pos t1]
        have e := point_l0 x 4 65536 ((c0 - 240) * 64 + (c1 - 128)) 2 (k + 8) (by omega) (by omega) (by omega) (by omega) c2 h2 b2
        rw [show ((2 : Nat) : Int) = 2 from rfl, show ((4 : Nat) : Int) = 4 from rfl, show ((65536 : Nat) : Int) = 65536 from rfl] at e
        try rw [show ((1 + 1 : Nat) : Int) = 2 from rfl]
        try rw [show ((2 + 1 : Nat) : Int) = 3 from rfl]
        rw [e]
        by_cases t2 : c2 / 64 = 2
        · rw [if_pos t2]
          have e := point_l0 x 4 65536 (((c0 - 240) * 64 + (c1 - 128)) * 64 + (c2 - 128)) 3 (k + 7) (by omega) (by omega) (by omega) (by omega) c3 h3 b3
          rw [show ((3 : Nat) : Int) = 3 from rfl, show ((4 : Nat) : Int) = 4 from rfl, show ((65536 : Nat) : Int) = 65536 from rfl] at e
          try rw [show ((1 + 1 : Nat) : Int) = 2 from rfl]
          try rw [show ((2 + 1 : Nat) : Int) = 3 from rfl]
          rw [e]
          by_cases t3 : c3 / 64 = 2
          · rw [if_pos t3]
            have e3 := point_l0_end x 4 65536 ((((c0 - 240) * 64 + (c1 - 128)) * 64 + (c2 - 128)) * 64 + (c3 - 128)) 4 (k + 6) (by omega)
            rw [show ((4 : Nat) : Int) = 4 from rfl, show ((65536 : Nat) : Int) = 65536 from rfl] at e3
            try rw [show ((1 + 1 : Nat) : Int) = 2 from rfl]
            try rw [show ((2 + 1 : Nat) : Int) = 3 from rfl]
            try rw [show ((3 + 1 : Nat) : Int) = 4 from rfl]
            rw [e3]
            have hv : (((c0 - 240) * 64 + (c1 - 128)) * 64 + (c2 - 128)) * 64 + (c3 - 128) = c0 % 8 * 262144 + c1 % 64 * 4096 + c2 % 64 * 64 + c3 % 64 := by omega
            have hd : Lib.decodeN x.size c0 c1 c2 c3 = if (c0 % 8 * 262144 + c1 % 64 * 4096 + c2 % 64 * 64 + c3 % 64) ≥ 65536 ∧ ((c0 % 8 * 262144 + c1 % 64 * 4096 + c2 % 64 * 64 + c3 % 64) < 55296 ∨ (57344 ≤ (c0 % 8 * 262144 + c1 % 64 * 4096 + c2 % 64 * 64 + c3 % 64) ∧ (c0 % 8 * 262144 + c1 % 64 * 4096 + c2 % 64 * 64 + c3 % 64) ≤ 1114111)) then ((c0 % 8 * 262144 + c1 % 64 * 4096 + c2 % 64 * 64 + c3 % 64), 4) else (65533, 1) := by
              unfold Lib.decodeN
              rw [if_neg (by omega), if_neg (by omega), if_neg (by omega), if_pos (by omega)]
            rw [hd, hv]
            generalize c0 % 8 * 262144 + c1 % 64 * 4096 + c2 % 64 * 64 + c3 % 64 = v
            by_cases hv2 : v < 65536
            · rw [show (if v ≥ 65536 ∧ (v < 55296 ∨ (57344 ≤ v ∧ v ≤ 1114111)) then (v, 4) else (65533, 1)) = ((65533, 1) : Nat × Nat) from if_neg (by omega), if_pos hv2]; simp [e65]
            · rw [if_neg hv2]
              by_cases hv3 : v ≤ 1114111
              · rw [show (if v ≥ 65536 ∧ (v < 55296 ∨ (57344 ≤ v ∧ v ≤ 1114111)) then (v, 4) else (65533, 1)) = ((v, 4) : Nat × Nat) from if_pos (by omega)]; cases hg : H.goodC (v : Int) <;> simp [hg]
              · have hg : H.goodC (v : Int) = false := by unfold H.goodC; simp; omega
                rw [show (if v ≥ 65536 ∧ (v < 55296 ∨ (57344 ≤ v ∧ v ≤ 1114111)) then (v, 4) else (65533, 1)) = ((65533, 1) : Nat × Nat) from if_neg (by omega), hg]; simp [e65]
          · rw [if_neg t3, hbad (by omega)]; simp [e65]
        · rw [if_neg t2, hbad (by omega)]; simp [e65]
      · rw [if_neg t1, hbad (by omega)]; simp [e65]
    · rw [if_pos (by omega), hbad (by omega)]; simp [e65]
  · rw [if_pos (by omega)]
    unfold fairwayref1_point.j0 fairwayref1_point.j1 fairwayref1_point.j2
    have hd : Lib.decodeN x.size c0 c1 c2 c3 = (65533, 1) := by
      unfold Lib.decodeN
      rw [if_neg (by omega), if_neg (by omega), if_neg (by omega), if_neg (by omega)]
    simp (disch := omega) only [if_pos, if_neg, Bool.false_eq_true, if_false, decide_eq_true_eq, hd]
    simp [e65]
end Go.Proofs.YtoflajekfpggbaaDoor.P
