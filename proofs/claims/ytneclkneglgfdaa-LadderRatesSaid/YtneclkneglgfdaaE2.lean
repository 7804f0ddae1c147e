/- The walk of the law LadderRates. -/
import Derived.Test.YtneclkneglgfdaaD
namespace Go.Proofs.Ytneclkneglgfdaa
open Go.RowKit Go.Maps

theorem busy_one (A t : Int) (h : 0 ≤ A) : busyB ([] ++ [A]) t = decide (A ≤ t ∧ t - 24 < A) := by
  simp [busyB, h]

theorem slot_far (A H T : Int) (h : A + 24 ≤ T) (h0 : 0 ≤ T) (hA : 0 ≤ A) : slotB H ([] ++ [A]) T = decide ((T + 2 * H) % 4 = 0) := by
  have : busyB ([] ++ [A]) T = false := by rw [busy_one A T hA]; simp; omega
  rw [slotB, this]; simp [h0]
theorem slot_busy (A H T : Int) (h : A ≤ T) (h1 : T - 24 < A) (hA : 0 ≤ A) : slotB H ([] ++ [A]) T = true := by
  have : busyB ([] ++ [A]) T = true := by rw [busy_one A T hA]; simp; omega
  rw [slotB, this]; simp; omega
theorem slot_idle (A H T : Int) (hb : busyB ([] ++ [A]) T = false) (h0 : 0 ≤ T) : slotB H ([] ++ [A]) T = decide ((T + 2 * H) % 4 = 0) := by
  rw [slotB, hb]; simp [h0]

set_option maxHeartbeats 2000000 in
theorem rates_any (host ask far : Int) (w : World) :
    Calls Try.prog 4 #[.int .i64 host, .int .i64 ask, .int .i64 far] w fun e w' => e = .returned (.bool true) ∧ Below w.heap.size w w' := by
  obtain ⟨A, hA, hA1, hA2⟩ := low_name ask 1000 (by omega)
  obtain ⟨F, hF, hF1, hF2⟩ := low_name far 100 (by omega)
  obtain ⟨H, hH, hH1, hH2⟩ := low_name host 2 (by omega)
  go_enter Try.func4, Try.ntmps4
  go_wp2_with fail
  refine (low_r _ _ A _ hA (by omega) (by omega)).mono ?_
  rintro e w1 ⟨rfl, rfl⟩
  go_wp2_with fail
  refine (low_r _ _ F _ hF (by omega) (by omega)).mono ?_
  rintro e w1 ⟨rfl, rfl⟩
  go_wp2_with fail
  refine (low_r _ _ H _ hH (by omega) (by omega)).mono ?_
  rintro e w1 ⟨rfl, rfl⟩
  go_wp2_with fail
  refine (new_lad H _).mono ?_
  rintro e w1 ⟨rfl, l1, b1, s1⟩
  go_wp2_with fail
  refine (ask_any _ _ H _ [] _ l1 (by simp) (by omega) (by omega)).mono ?_
  rintro e w2 ⟨rfl, l2, g2⟩
  have b2 := b1.grown g2 (by omega) (fun j hj => by cases hj; exact Nat.le_refl _)
  have s2 := g2.size
  have l2 := Lib.hid l2
  clear l1 b1 g2
  by_cases h0 : 50 ≤ F
  · by_cases h24 : F < 74
    · go_wp2_with fail
      go_loopw [11, 10] (fun i m wr => ∃ k c : Nat, k ≤ 4 ∧ i = .int .i64 k ∧ m = .int .i64 c ∧ c ≤ k ∧ ((H = 0 → 1 ≤ k → 1 ≤ c) ∧ (H = 1 → 3 ≤ k → 1 ≤ c)) ∧ Hid (Lad wr (w.heap.size + 1) w.heap.size H ([] ++ [100 + A])) ∧ Below w.heap.size w wr ∧ w.heap.size + 2 ≤ wr.heap.size) (fun i _ _ => 4 - (intOf i).toNat)
      case atStart => exact ⟨0, 0, by omega, rfl, rfl, by omega, ⟨by omega, by omega⟩, l2, b2, by omega⟩
      case round =>
        clear l2 b2 s1 s2
        obtain ⟨k, c, hk, rfl, rfl, hck, hc, l3, b3, s3⟩ := hrel
        by_cases hk4 : k < 4
        · have hc := Lib.hid hc
          go_wp2_with fail
          refine (slot_any _ _ H _ _ _ l3.out (by omega) (by omega)).mono ?_
          rintro e w4 ⟨rfl, b4⟩
          have s4 := b4.size
          have l4 := Lib.hid (l3.out.below b4 (by omega) (by omega))
          have b4' := b3.trans (b4.mono (by omega))
          clear l3 b3 b4
          rw [slot_far _ _ _ (by omega) (by omega) (by omega)]
          cases hd : decide ((2000 + (100 + A + (F - 50)) - (100 + A + (F - 50)) % 2000 + (k : Int) + 2 * H) % 4 = 0)
          · have hd' : Hid (¬ ((2000 + (100 + A + (F - 50)) - (100 + A + (F - 50)) % 2000 + (k : Int) + 2 * H) % 4 = 0)) := of_decide_eq_false hd
            clear hd
            go_wp2
            go_roundw
            case rel => exact ⟨k + 1, c, by omega, by go_num, rfl, by omega, by have := hd'.out; have := hc.out; exact ⟨by omega, by omega⟩, l4, b4', by omega⟩
            case measure => simp [intOf]; omega
          · clear hd
            go_wp2
            go_roundw
            case rel => exact ⟨k + 1, c + 1, by omega, by go_num, by go_num, by omega, ⟨by omega, by omega⟩, l4, b4', by omega⟩
            case measure => simp [intOf]; omega
        · have hc1 : 1 ≤ c := by omega
          clear hc
          have hb : busyB ([] ++ [100 + A]) (100 + A + (F - 50)) = true := by rw [busy_one _ _ (by omega)]; simp; omega
          have hb := Lib.hid hb
          go_wp2_with fail
          refine (busy_any _ _ H _ _ _ l3.out (by omega) (by omega)).mono ?_
          rintro e w4 ⟨rfl, b4⟩
          have s4 := b4.size
          have l4 := Lib.hid (l3.out.below b4 (by omega) (by omega))
          have b4' := b3.trans (b4.mono (by omega))
          clear l3 b3 b4
          rw [hb.out]
          go_wp2_with fail
          refine (slot_any _ _ H _ _ _ l4.out (by omega) (by omega)).mono ?_
          rintro e w5 ⟨rfl, b5⟩
          have s5 := b5.size
          have b5' := b4'.trans (b5.mono (by omega))
          clear l4 b4' b5
          rw [slot_busy _ _ _ (by omega) (by omega) (by omega)]
          go_wp2_with fail
          refine (awake_any _).mono ?_
          rintro e w6 ⟨rfl, b6⟩
          have b6' := b5'.trans (b6.mono (by omega))
          clear b5' b6
          go_wp2
          go_ret
          exact ⟨rfl, b6'⟩
    · go_wp2_with fail
      go_loopw [11, 10] (fun i m wr => ∃ k c : Nat, k ≤ 4 ∧ i = .int .i64 k ∧ m = .int .i64 c ∧ c ≤ k ∧ ((H = 0 → 1 ≤ k → 1 ≤ c) ∧ (H = 1 → 3 ≤ k → 1 ≤ c)) ∧ Hid (Lad wr (w.heap.size + 1) w.heap.size H ([] ++ [100 + A])) ∧ Below w.heap.size w wr ∧ w.heap.size + 2 ≤ wr.heap.size) (fun i _ _ => 4 - (intOf i).toNat)
      case atStart => exact ⟨0, 0, by omega, rfl, rfl, by omega, ⟨by omega, by omega⟩, l2, b2, by omega⟩
      case round =>
        clear l2 b2 s1 s2
        obtain ⟨k, c, hk, rfl, rfl, hck, hc, l3, b3, s3⟩ := hrel
        by_cases hk4 : k < 4
        · have hc := Lib.hid hc
          go_wp2_with fail
          refine (slot_any _ _ H _ _ _ l3.out (by omega) (by omega)).mono ?_
          rintro e w4 ⟨rfl, b4⟩
          have s4 := b4.size
          have l4 := Lib.hid (l3.out.below b4 (by omega) (by omega))
          have b4' := b3.trans (b4.mono (by omega))
          clear l3 b3 b4
          rw [slot_far _ _ _ (by omega) (by omega) (by omega)]
          cases hd : decide ((2000 + (100 + A + (F - 50)) - (100 + A + (F - 50)) % 2000 + (k : Int) + 2 * H) % 4 = 0)
          · have hd' : Hid (¬ ((2000 + (100 + A + (F - 50)) - (100 + A + (F - 50)) % 2000 + (k : Int) + 2 * H) % 4 = 0)) := of_decide_eq_false hd
            clear hd
            go_wp2
            go_roundw
            case rel => exact ⟨k + 1, c, by omega, by go_num, rfl, by omega, by have := hd'.out; have := hc.out; exact ⟨by omega, by omega⟩, l4, b4', by omega⟩
            case measure => simp [intOf]; omega
          · clear hd
            go_wp2
            go_roundw
            case rel => exact ⟨k + 1, c + 1, by omega, by go_num, by go_num, by omega, ⟨by omega, by omega⟩, l4, b4', by omega⟩
            case measure => simp [intOf]; omega
        · have hc1 : 1 ≤ c := by omega
          clear hc
          have hb : busyB ([] ++ [100 + A]) (100 + A + (F - 50)) = false := by rw [busy_one _ _ (by omega)]; simp; omega
          have hs := Lib.hid (slot_idle _ H _ hb (by omega))
          have hb := Lib.hid hb
          go_wp2_with fail
          refine (busy_any _ _ H _ _ _ l3.out (by omega) (by omega)).mono ?_
          rintro e w4 ⟨rfl, b4⟩
          have s4 := b4.size
          have l4 := Lib.hid (l3.out.below b4 (by omega) (by omega))
          have b4' := b3.trans (b4.mono (by omega))
          clear l3 b3 b4
          rw [hb.out]
          go_wp2_with fail
          refine (slot_any _ _ H _ _ _ l4.out (by omega) (by omega)).mono ?_
          rintro e w5 ⟨rfl, b5⟩
          have s5 := b5.size
          have b5' := b4'.trans (b5.mono (by omega))
          clear l4 b4' b5
          rw [hs.out]
          go_wp2_with fail
          refine (low_r _ _ H _ hH (by omega) (by omega)).mono ?_
          rintro e w6 ⟨rfl, rfl⟩
          go_wp2_with fail
          refine (awake_any _).mono ?_
          rintro e w6 ⟨rfl, b6⟩
          have b6' := b5'.trans (b6.mono (by omega))
          clear b5' b6
          go_wp2
          go_ret
          exact ⟨rfl, b6'⟩
  · go_wp2_with fail
    go_loopw [11, 10] (fun i m wr => ∃ k c : Nat, k ≤ 4 ∧ i = .int .i64 k ∧ m = .int .i64 c ∧ c ≤ k ∧ ((H = 0 → 1 ≤ k → 1 ≤ c) ∧ (H = 1 → 3 ≤ k → 1 ≤ c)) ∧ Hid (Lad wr (w.heap.size + 1) w.heap.size H ([] ++ [100 + A])) ∧ Below w.heap.size w wr ∧ w.heap.size + 2 ≤ wr.heap.size) (fun i _ _ => 4 - (intOf i).toNat)
    case atStart => exact ⟨0, 0, by omega, rfl, rfl, by omega, ⟨by omega, by omega⟩, l2, b2, by omega⟩
    case round =>
      clear l2 b2 s1 s2
      obtain ⟨k, c, hk, rfl, rfl, hck, hc, l3, b3, s3⟩ := hrel
      by_cases hk4 : k < 4
      · have hc := Lib.hid hc
        go_wp2_with fail
        refine (slot_any _ _ H _ _ _ l3.out (by omega) (by omega)).mono ?_
        rintro e w4 ⟨rfl, b4⟩
        have s4 := b4.size
        have l4 := Lib.hid (l3.out.below b4 (by omega) (by omega))
        have b4' := b3.trans (b4.mono (by omega))
        clear l3 b3 b4
        rw [slot_far _ _ _ (by omega) (by omega) (by omega)]
        cases hd : decide ((2000 + (100 + A + (F - 50)) - (100 + A + (F - 50)) % 2000 + (k : Int) + 2 * H) % 4 = 0)
        · have hd' : Hid (¬ ((2000 + (100 + A + (F - 50)) - (100 + A + (F - 50)) % 2000 + (k : Int) + 2 * H) % 4 = 0)) := of_decide_eq_false hd
          clear hd
          go_wp2
          go_roundw
          case rel => exact ⟨k + 1, c, by omega, by go_num, rfl, by omega, by have := hd'.out; have := hc.out; exact ⟨by omega, by omega⟩, l4, b4', by omega⟩
          case measure => simp [intOf]; omega
        · clear hd
          go_wp2
          go_roundw
          case rel => exact ⟨k + 1, c + 1, by omega, by go_num, by go_num, by omega, ⟨by omega, by omega⟩, l4, b4', by omega⟩
          case measure => simp [intOf]; omega
      · have hc1 : 1 ≤ c := by omega
        clear hc
        have hb : busyB ([] ++ [100 + A]) (100 + A + (F - 50)) = false := by rw [busy_one _ _ (by omega)]; simp; omega
        have hs := Lib.hid (slot_idle _ H _ hb (by omega))
        have hb := Lib.hid hb
        go_wp2_with fail
        refine (busy_any _ _ H _ _ _ l3.out (by omega) (by omega)).mono ?_
        rintro e w4 ⟨rfl, b4⟩
        have s4 := b4.size
        have l4 := Lib.hid (l3.out.below b4 (by omega) (by omega))
        have b4' := b3.trans (b4.mono (by omega))
        clear l3 b3 b4
        rw [hb.out]
        go_wp2_with fail
        refine (slot_any _ _ H _ _ _ l4.out (by omega) (by omega)).mono ?_
        rintro e w5 ⟨rfl, b5⟩
        have s5 := b5.size
        have b5' := b4'.trans (b5.mono (by omega))
        clear l4 b4' b5
        rw [hs.out]
        go_wp2_with fail
        refine (low_r _ _ H _ hH (by omega) (by omega)).mono ?_
        rintro e w6 ⟨rfl, rfl⟩
        go_wp2_with fail
        refine (awake_any _).mono ?_
        rintro e w6 ⟨rfl, b6⟩
        have b6' := b5'.trans (b6.mono (by omega))
        clear b5' b6
        go_wp2
        go_ret
        exact ⟨rfl, b6'⟩

end Go.Proofs.Ytneclkneglgfdaa
