/- What every program answers that is a clock. -/
import Derived.Test.YtefabmpiimddoaaC
namespace Go.Proofs.Ytefabmpiimddoaa
open Go.RowKit

/-- The contracts once more, the world told by 'Below' alone. -/
theorem pto_bel (b : Nat) (c : Clk) (t r : Int) (w : World) (h : ClkAt w b c) (hc : c.ok) (hr : c.pto t = r) :
    Calls Try.prog 15 #[.pointer (some ⟨b, 0, none⟩), .int .i64 t] w fun e w' => e = .returned (.int .i64 r) ∧ Below w.heap.size w w' := by
  refine (pto_any b c t w h hc).mono ?_
  rintro e w' ⟨rfl, n, rfl⟩
  exact ⟨by rw [hr], below_drewN (Below.refl _ _) n⟩

set_option maxHeartbeats 1000000 in
theorem awake_any (w : World) : Calls Try.prog 7 #[] w fun e w' => e = .returned (.bool true) ∧ Below w.heap.size w w' := by
  go_enter Try.func7, Try.ntmps7
  go_wp2_with fail
  refine (new_any _).mono ?_
  rintro e w1 ⟨rfl, l1, b1, s1⟩
  have o1 := start_ok
  go_wp2_with fail
  refine (pto_bel _ _ 0 48 _ l1 o1 (by decide)).mono ?_
  rintro e w2 ⟨rfl, b2⟩
  have l2 := l1.below b2 l1.lt
  have b2' := b1.trans (b2.mono (by omega))
  have s2 := b2.size
  clear l1 b1 b2
  go_wp2_with fail
  refine (sample_any _ _ 10 0 _ l2 o1).mono ?_
  rintro e w3 ⟨rfl, l3, g3⟩
  have o3 := told_ok o1 10 0
  have b3 := b2'.grown g3 (by omega) (fun j hj => by cases hj; omega)
  have s3 := g3.size
  clear l2 b2' g3 o1
  rw [show Clk.start.told 10 0 = ⟨true, 10, 5, 10⟩ by rfl] at l3 o3
  go_wp2_with fail
  refine (smoothed_any _ _ _ l3).mono ?_
  rintro e w4 ⟨rfl, rfl⟩
  go_wp2_with fail
  refine (varies_any _ _ _ l3).mono ?_
  rintro e w4 ⟨rfl, rfl⟩
  go_wp2_with fail
  refine (least_any _ _ _ l3).mono ?_
  rintro e w4 ⟨rfl, rfl⟩
  go_wp2_with fail
  refine (pto_bel _ _ 0 40 _ l3 o3 (by decide)).mono ?_
  rintro e w4 ⟨rfl, b4⟩
  have l4 := l3.below b4 l3.lt
  have b4' := b3.trans (b4.mono (by omega))
  have s4 := b4.size
  clear l3 b3 b4
  go_wp2_with fail
  refine (pto_bel _ _ 99 64 _ l4 o3 (by decide)).mono ?_
  rintro e w5 ⟨rfl, b5⟩
  have b5' := b4'.trans (b5.mono (by omega))
  clear l4 b4' b5
  go_wp2
  go_ret
  exact ⟨rfl, b5'⟩

/-- The law ClockSteady. -/
theorem told_steady (r v d : Int) (h0 : 0 ≤ r) (h1 : r ≤ 1048576) (hd : 0 ≤ d) : Clk.told ⟨true, r, v, r⟩ r d = ⟨true, r, 3 * v / 4, r⟩ := by
  have hc : cutF r r d = r := by unfold cutF; split <;> omega
  unfold Clk.told
  rw [if_neg (by omega)]
  simp only [hc, if_true]
  have e1 : (7 * r + r) / 8 = r := by omega
  have e2 : max (r - r) (r - r) = 0 := by omega
  rw [e1, e2]
  simp

set_option maxHeartbeats 1000000 in
theorem steady_any (rtt' many' delay' : Int) (w : World) :
    Calls Try.prog 5 #[.int .i64 rtt', .int .i64 many', .int .i64 delay'] w fun e w' => e = .returned (.bool true) ∧ Below w.heap.size w w' := by
  obtain ⟨r, hr, hr1, hr2⟩ := low_name rtt' 1048577 (by omega)
  obtain ⟨m', hm, hm1, hm2⟩ := low_name many' 50 (by omega)
  obtain ⟨m, rfl⟩ : ∃ m : Nat, m' = m := ⟨m'.toNat, by omega⟩
  obtain ⟨d, hd, hd1, hd2⟩ := low_name delay' 1073741824 (by omega)
  go_enter Try.func5, Try.ntmps5
  go_wp2_with fail
  refine (low_r _ _ r _ hr (by omega) (by omega)).mono ?_
  rintro e w1 ⟨rfl, rfl⟩
  go_wp2_with fail
  refine (low_r _ _ m _ hm (by omega) (by omega)).mono ?_
  rintro e w1 ⟨rfl, rfl⟩
  go_wp2_with fail
  refine (low_r _ _ d _ hd (by omega) (by omega)).mono ?_
  rintro e w1 ⟨rfl, rfl⟩
  go_wp2_with fail
  refine (new_any _).mono ?_
  rintro e w1 ⟨rfl, l1, b1, s1⟩
  have l1 := Lib.hid l1
  go_wp2_with fail
  go_loopw [9, 8] (fun i v wr => ∃ (k : Nat) (x : Int) (c : Clk), k ≤ m + 1 ∧ i = .int .i64 k ∧ v = .int .i64 x ∧ 0 ≤ x ∧ x ≤ 1048576 ∧ Hid (ClkAt wr w.heap.size c) ∧ Hid ((k = 0 → x = r / 2 ∧ c = Clk.start) ∧ (1 ≤ k → c = ⟨true, r, x, r⟩)) ∧ Below w.heap.size w wr) (fun i _ _ => m + 1 - (intOf i).toNat)
  case atStart => exact ⟨0, r / 2, Clk.start, by omega, rfl, rfl, by omega, by omega, l1, ⟨fun _ => ⟨rfl, rfl⟩, by omega⟩, b1⟩
  case round =>
    obtain ⟨k, x, c, hk, rfl, rfl, hx1, hx2, l2, hkc, b2⟩ := hrel
    have s2 := l2.out.lt
    clear l1 b1 s1
    by_cases hlt : k < m + 1
    · by_cases hk0 : k = 0
      · subst hk0
        obtain ⟨rfl, rfl⟩ := hkc.out.1 rfl
        have hT : Clk.start.told r d = ⟨true, r, r / 2, r⟩ := by unfold Clk.told; rw [if_neg (by omega)]; rfl
        have hT := Lib.hid hT
        go_wp2_with fail
        refine (sample_any _ _ r d _ l2.out start_ok).mono ?_
        rintro e w3 ⟨rfl, l3, g3⟩
        rw [hT.out] at l3
        have b3 := b2.grown g3 (by omega) (fun j hj => by cases hj; omega)
        clear l2 hkc b2 g3
        go_wp2_with fail
        refine (smoothed_any _ _ _ l3).mono ?_
        rintro e w4 ⟨rfl, rfl⟩
        go_wp2_with fail
        refine (varies_any _ _ _ l3).mono ?_
        rintro e w4 ⟨rfl, rfl⟩
        go_wp2_with fail
        refine (least_any _ _ _ l3).mono ?_
        rintro e w4 ⟨rfl, rfl⟩
        have l3 := Lib.hid l3
        go_wp2
        go_roundw
        case rel => exact ⟨1, r / 2, ⟨true, r, r / 2, r⟩, by omega, by go_num, rfl, by omega, by omega, l3, ⟨by omega, fun _ => rfl⟩, b3⟩
        case measure => simp [intOf]
      · have hc := hkc.out.2 (by omega)
        subst hc
        have hT := Lib.hid (told_steady r x d hr1 (by omega) hd1)
        have hok : Clk.ok ⟨true, r, x, r⟩ := ⟨hr1, by simp; omega, hx1, hx2, hr1, by simp; omega⟩
        go_wp2_with fail
        refine (sample_any _ _ r d _ l2.out hok).mono ?_
        rintro e w3 ⟨rfl, l3, g3⟩
        rw [hT.out] at l3
        have b3 := b2.grown g3 (by omega) (fun j hj => by cases hj; omega)
        clear l2 hkc b2 g3
        go_wp2_with fail
        refine (smoothed_any _ _ _ l3).mono ?_
        rintro e w4 ⟨rfl, rfl⟩
        go_wp2_with fail
        refine (varies_any _ _ _ l3).mono ?_
        rintro e w4 ⟨rfl, rfl⟩
        go_wp2_with fail
        refine (least_any _ _ _ l3).mono ?_
        rintro e w4 ⟨rfl, rfl⟩
        have l3 := Lib.hid l3
        go_wp2
        go_roundw
        case rel => exact ⟨k + 1, 3 * x / 4, ⟨true, r, 3 * x / 4, r⟩, by omega, by go_num, rfl, by omega, by omega, l3, ⟨by omega, fun _ => rfl⟩, b3⟩
        case measure => simp [intOf]; omega
    · have hc := hkc.out.2 (by omega)
      subst hc
      have hok : Clk.ok ⟨true, r, x, r⟩ := ⟨hr1, by simp; omega, hx1, hx2, hr1, by simp; omega⟩
      go_wp2_with fail
      refine (pto_bel _ _ 0 (min (max (r + max (4 * x) 1) 40) 64) _ l2.out hok (by simp [Clk.pto])).mono ?_
      rintro e w5 ⟨rfl, b5⟩
      have b5' := b2.trans (b5.mono (by omega))
      have s5 := b5.size
      clear b2 l2 hkc b5
      go_wp2_with fail
      refine (awake_any _).mono ?_
      rintro e w6 ⟨rfl, b6⟩
      have b6' := b5'.trans (b6.mono (by omega))
      clear b5' b6
      go_wp2
      go_ret
      exact ⟨rfl, b6'⟩

end Go.Proofs.Ytefabmpiimddoaa
