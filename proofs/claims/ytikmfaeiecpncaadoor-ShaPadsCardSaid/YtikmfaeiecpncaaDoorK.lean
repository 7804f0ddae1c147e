/- What stands behind a text: the statement's walk. -/
import Derived.Test.YtikmfaeiecpncaaDoorJ
namespace Go.Proofs.YtikmfaeiecpncaaDoor
open Go.RowKit

theorem or256 (a x : Nat) (ha : a < 2 ^ 54) (hx : x < 256) : bits .or .i64 ((a : Int) * 256) (x : Int) = (a : Int) * 256 + x := by
  have e : (a : Int) * 256 = ((a * 256 : Nat) : Int) := by omega
  have hor : a * 256 ||| x = a * 256 + x := by
    have := Nat.shiftLeft_add_eq_or_of_lt (show x < 2 ^ 8 by omega) a
    rw [Nat.shiftLeft_eq] at this
    exact this.symm
  rw [e]
  show IntKind.i64.wrap ((BitVec.ofInt 64 ((a * 256 : Nat) : Int) ||| BitVec.ofInt 64 (x : Int)).toNat : Int) = _
  rw [BitVec.ofInt_natCast, BitVec.ofInt_natCast, BitVec.toNat_or, BitVec.toNat_ofNat, BitVec.toNat_ofNat, Nat.mod_eq_of_lt (by omega), Nat.mod_eq_of_lt (by omega), hor, IntWalk.i64_in _ ⟨by omega, by omega⟩]
  omega

/-- The length's first k bytes. -/
def topB (n k : Nat) : Nat := 8 * n / 2 ^ (64 - 8 * k)
theorem topB_zero (n : Nat) (h : n ≤ 2199023255552) : topB n 0 = 0 := by unfold topB; omega
theorem topB_all (n : Nat) : topB n 8 = 8 * n := by simp [topB]
theorem topB_succ (n k : Nat) (h : k < 8) : topB n (k + 1) = topB n k * 256 + (8 * n / 2 ^ (56 - 8 * k) % 256) := by
  have e : 2 ^ (64 - 8 * k) = 2 ^ (56 - 8 * k) * 256 := by rw [show 64 - 8 * k = (56 - 8 * k) + 8 by omega, Nat.pow_add]
  rw [topB, topB, e, ← Nat.div_div_eq_div_mul, show 64 - 8 * (k + 1) = 56 - 8 * k by omega]
  omega
theorem topB_lt (n k : Nat) (h : n ≤ 2199023255552) : topB n k ≤ 17592186044416 := by
  unfold topB
  exact Nat.le_trans (Nat.div_le_self _ _) (by omega)
theorem padM_at (n j k : Nat) (h : j < k) : (padM n k).getD (1 + padZ n + j) 0 = lenB n j := by
  have e : 1 + padZ n + j = (padZ n + j) + 1 := by omega
  rw [padM, e]
  simp [List.getD, h]
theorem padL_at (n k : Nat) (h : k < 8) : (padL n).getD (1 + padZ n + k) 0 = lenB n k := padM_at n k 8 h
theorem padL_zero (n i : Nat) (h0 : 0 < i) (h : i ≤ padZ n) : (padL n).getD i 0 = 0 := by
  obtain ⟨j, rfl⟩ : ∃ j, i = j + 1 := ⟨i - 1, by omega⟩
  rw [padL, padM]
  simp [List.getD, List.getElem?_append, show j < padZ n by omega]
theorem padL_head (n : Nat) : (padL n).getD 0 0 = 128 := rfl
theorem padL_inj (n m : Nat) (h : padL n = padL m) (hn : n ≤ 2199023255552) (hm : m ≤ 2199023255552) : n = m := by
  have hz : padZ n = padZ m := by
    have := congrArg List.length h
    rw [padL_len, padL_len] at this; omega
  have hk : ∀ k, k ≤ 8 → topB n k = topB m k := by
    intro k
    induction k with
    | zero => intro _; rw [topB_zero n hn, topB_zero m hm]
    | succ k ih =>
      intro hk
      have h1 := padL_at n k (by omega)
      have h2 := padL_at m k (by omega)
      rw [h, hz, h2] at h1
      unfold lenB at h1
      rw [topB_succ n k (by omega), topB_succ m k (by omega), ih (by omega)]
      omega
  have := hk 8 (Nat.le_refl _)
  rw [topB_all, topB_all] at this
  omega
theorem pads_same (n m : Nat) (hn : n ≤ 2199023255552) (hm : m ≤ 2199023255552) : (padL n == padL m) = decide ((n : Int) = (m : Int)) := by
  by_cases h : n = m
  · subst h; simp
  · rw [decide_eq_false (by omega)]
    simpa using fun e => h (padL_inj n m e hn hm)

set_option maxHeartbeats 800000 in
set_option maxRecDepth 100000 in
theorem pads_any (n0 m0 : Int) (w : World) (hg : Gl w) : Calls Tryd.prog 5 #[.int .i64 n0, .int .i64 m0] w fun e w' => e = .returned (.bool true) ∧ Below w.heap.size w w' := by
  obtain ⟨nI, hn, hn0, hn1⟩ := low_name n0 1099511627776 (by omega)
  obtain ⟨mI, hm, hm0, hm1⟩ := low_name m0 1099511627776 (by omega)
  obtain ⟨n, rfl⟩ := Int.eq_ofNat_of_zero_le hn0
  obtain ⟨m, rfl⟩ := Int.eq_ofNat_of_zero_le hm0
  go_enter Tryd.func5, Tryd.ntmps5
  go_wp2_with fail
  refine (low_r n0 1099511627776 n w hn (by omega) (by omega)).mono ?_
  rintro e w1 ⟨rfl, rfl⟩
  go_wp2_with fail
  refine (low_r m0 1099511627776 m w hm (by omega) (by omega)).mono ?_
  rintro e w1 ⟨rfl, rfl⟩
  go_wp2_with fail
  refine (pad_any n w (by omega)).mono ?_
  rintro e w1 ⟨v1, rfl, hp1, hb1⟩
  go_wp2_with fail
  refine (pad_any m w1 (by omega)).mono ?_
  rintro e w2 ⟨v2, rfl, hp2, hb2⟩
  have h1 := hp1.nums.below hb2
  have h2 := Lib.hid hp2.nums
  have b2 := Lib.hid (below_all hb1 hb2)
  obtain ⟨a1, c1, rfl, hl1, ub, uo, hc1⟩ := h1.form
  obtain ⟨a2, c2, rfl, _⟩ := slice_form h2.out
  have hln := padL_len n
  have hlm := padL_len m
  have hz := padZ_lt n
  have hzm := padZ_lt m
  have hze := padZ_end n
  obtain ⟨ln, hlN⟩ := name_it (padL n).length
  obtain ⟨lm, hlM⟩ := name_it (padL m).length
  replace h1 := Lib.hid h1
  obtain ⟨rfl, e0⟩ := hc1.out 0 (by omega)
  rw [padL_head, Nat.add_zero] at e0
  rw [← hlN.out] at hln hc1 h1 hl1 ⊢
  rw [← hlM.out] at hlm h2 ⊢
  have q1 : decide ((ln : Int) < 9) = false := by simp; omega
  have q2 : decide ((72 : Int) < ln) = false := by simp; omega
  have q3 : (((n : Int) + ln) % 64 != 0) = false := by simp; omega
  have q4 : decide ((lm : Int) < 9) = false := by simp; omega
  have q5 : 9 ≤ (ln : Int) := by omega
  have q6 : (ln : Int) ≤ 72 := by omega
  clear hp1 hp2 hb1 hb2
  replace hln := Lib.hid hln
  replace hlm := Lib.hid hlm
  replace hze := Lib.hid hze
  go_wp2_with fail
  replace hg := Lib.hid (hg.below b2.out hg.lt)
  go_loopw [8, 7] (fun i b wr => ∃ k c : Nat, k ≤ ln ∧ i = .int .i64 k ∧ b = .int .i64 c ∧ Hid (c = topB n (k - (ln - 8))) ∧ wr = w2) (fun i _ _ => ln - (intOf i).toNat)
  case atStart => exact ⟨0, 0, Nat.zero_le _, rfl, rfl, by show _ = _; rw [show 0 - (ln - 8) = 0 by omega, topB_zero n (by omega)], rfl⟩
  case round =>
    obtain ⟨k, c, hk, rfl, rfl, hc, rfl⟩ := hrel
    have hc20 := topB_lt n (k - (ln - 8)) (by omega)
    rw [← hc.out] at hc20
    by_cases hlt : k < ln
    · have hkI : (k : Int) < ln := by omega
      have ck := (hc1.out k hlt).2
      by_cases hhi : ln - 8 ≤ k
      · have q7 : decide ((ln : Int) - 8 ≤ k) = true := by simp; omega
        obtain ⟨j, hj⟩ : ∃ j, k = 1 + padZ n + j := ⟨k - (1 + padZ n), by have := hln.out; omega⟩
        have hj8 : j < 8 := by have := hln.out; omega
        rw [show (padL n).getD k 0 = lenB n j by rw [hj]; exact padL_at n j hj8] at ck
        obtain ⟨x, hx⟩ := name_it (8 * n / 2 ^ (56 - 8 * j) % 256)
        rw [show lenB n j = (x : Int) by rw [hx.out]; rfl] at ck
        have hx2 : x < 256 := by rw [hx.out]; omega
        have hxI : (x : Int) < 256 := by omega
        have hcI : (c : Int) ≤ 17592186044416 := by omega
        have eo := or256 c x (by omega) hx2
        replace hj := Lib.hid hj
        go_wp2_with fail
        go_roundw
        case rel => exact ⟨k + 1, c * 256 + x, by omega, by go_num, by go_num, by
          show _ = _
          rw [hc.out, show k - (ln - 8) = j by have := hln.out; have := hj.out; omega, show k + 1 - (ln - 8) = j + 1 by have := hln.out; have := hj.out; omega, topB_succ n j hj8, hx.out], by first | rfl | trivial⟩
        case measure => simp [intOf]; omega
      · have q7 : decide ((ln : Int) - 8 ≤ k) = false := by simp; omega
        have hrel2 : Hid (c = topB n (k + 1 - (ln - 8))) := by show _ = _; rw [hc.out, show k - (ln - 8) = 0 by omega, show k + 1 - (ln - 8) = 0 by omega]
        by_cases hk0 : k = 0
        · have q8 : decide ((0 : Int) < k) = false := by simp; omega
          have q8' : decide (0 < k) = false := by simp; omega
          clear hk0 hhi
          go_wp2_with fail
          go_roundw
          case rel => exact ⟨k + 1, c, by omega, by go_num, by first | rfl | trivial, hrel2, by first | rfl | trivial⟩
          case measure => simp [intOf]; omega
        · have q8 : decide ((0 : Int) < k) = true := by simp; omega
          have q8' : decide (0 < k) = true := by simp; omega
          rw [padL_zero n k (by omega) (by have := hln.out; omega)] at ck
          clear hk0 hhi
          go_wp2_with fail
          go_roundw
          case rel => exact ⟨k + 1, c, by omega, by go_num, by first | rfl | trivial, hrel2, by first | rfl | trivial⟩
          case measure => simp [intOf]; omega
    · obtain rfl : k = ln := by omega
      have hcn : c = 8 * n := by rw [hc.out, show k - (k - 8) = 8 by omega, topB_all]
      have q9 : ((c : Int) == 8 * n) = true := by simp; omega
      obtain ⟨b, hb⟩ := name_it (padL n == padL m)
      have hbb : ((n : Int) == m) = b := by rw [hb.out, pads_same n m (by omega) (by omega)]; rw [Bool.eq_iff_iff]; simp
      have hcI : (c : Int) ≤ 17592186044416 := by omega
      have hneg : -1 - (n : Int) < 0 := by omega
      clear hcn
      go_wp2_with fail
      refine (same_is _ _ _ _ b wr h1.out h2.out hb.out.symm).mono ?_
      rintro e w3 ⟨rfl, hb3⟩
      go_wp2_with fail
      refine (pad_neg _ w3 hneg).mono ?_
      rintro e w4 ⟨rfl, rfl⟩
      go_wp2_with fail
      refine (awake_any w3 (hg.out.below hb3 hg.out.lt)).mono ?_
      rintro e w4 ⟨rfl, hb4⟩
      go_wp2_with fail
      go_ret
      exact ⟨rfl, below_all b2.out (below_all hb3 hb4)⟩
end Go.Proofs.YtikmfaeiecpncaaDoor
