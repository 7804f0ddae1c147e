/- What every program answers that is a credit; the law CreditFlows. -/
import Derived.Test.YtamhoglfdfbgpaaB
namespace Go.Proofs.Ytamhoglfdfbgpaa
open Go.RowKit

theorem low_arith (x n : Int) (hn : 0 < n) (hn2 : n < 9223372036854775807) : wrap64 ((IntKind.u64.wrap x).tmod n) = x % 18446744073709551616 % n := by
  have e : IntKind.u64.wrap x = x % 18446744073709551616 := by simp [IntKind.wrap, IntKind.signed, IntKind.bits]
  rw [e, Int.tmod_eq_emod_of_nonneg (by omega)]
  have h1 := Int.emod_nonneg (x % 18446744073709551616) (show n ≠ 0 by omega)
  have h2 := Int.emod_lt_of_pos (x % 18446744073709551616) hn
  exact IntWalk.wrap64_in _ ⟨by omega, by omega⟩
def lowF (x n : Int) : Int := (x % 18446744073709551616) % n
theorem lowF_bd (x n : Int) (hn : 0 < n) : 0 ≤ lowF x n ∧ lowF x n < n := ⟨Int.emod_nonneg _ (by omega), Int.emod_lt_of_pos _ hn⟩
theorem low_name (x n : Int) (hn : 0 < n) : ∃ r, Hid (lowF x n = r) ∧ 0 ≤ r ∧ r < n := ⟨_, rfl, lowF_bd x n hn⟩
theorem low_r (x n r : Int) (w : World) (hr : Hid (lowF x n = r)) (hn : 0 < n) (hn2 : n < 9223372036854775807) :
    Calls Try.prog 18 #[.int .i64 x, .int .i64 n] w fun e w' => e = .returned (.int .i64 r) ∧ w = w' := by
  have H := Lib.hid (low_arith x n hn hn2)
  go_enter Try.func18, Try.ntmps18
  go_wp2
  go_ret
  exact ⟨ret_int (H.out.trans hr.out), rfl⟩

theorem room_bel (b : Nat) (c : Cr) (r : Int) (w : World) (h : CrAt 42 w b c) (hc : c.ok) (hr : c.l - c.t = r) :
    Calls Try.prog 11 #[.pointer (some ⟨b, 0, none⟩)] w fun e w' => e = .returned (.int .i64 r) ∧ CrAt 42 w' b c ∧ w.grownBy w' none := by
  refine (room_any b c w h hc).mono ?_
  rintro e w' ⟨rfl, n, rfl⟩
  exact ⟨by rw [hr], h, grown_drewN (grown_refl _ _) n⟩
theorem take_is (b : Nat) (c c' : Cr) (n : Int) (r : Bool) (w : World) (h : CrAt 42 w b c) (hc : c.ok) (h1 : c.mayTake n = r) (h2 : c.take n = c') :
    Calls Try.prog 10 #[.pointer (some ⟨b, 0, none⟩), .int .i64 n] w fun e w' => e = .returned (.bool r) ∧ CrAt 42 w' b c' ∧ w.grownBy w' (some b) := by
  rw [← h1, ← h2]; exact take_any b c n w h hc
theorem raise_is (b : Nat) (c c' : Cr) (n : Int) (r : Bool) (w : World) (h : CrAt 42 w b c) (h1 : c.mayRaise n = r) (h2 : c.raise n = c') :
    Calls Try.prog 12 #[.pointer (some ⟨b, 0, none⟩), .int .i64 n] w fun e w' => e = .returned (.bool r) ∧ CrAt 42 w' b c' ∧ w.grownBy w' (some b) := by
  rw [← h1, ← h2]; exact raise_any b c n w h
theorem read_is (b : Nat) (c c' : Cr) (n : Int) (r : Bool) (w : World) (h : CrAt 42 w b c) (hc : c.ok) (h1 : c.more n = r) (h2 : c.read n = c') :
    Calls Try.prog 15 #[.pointer (some ⟨b, 0, none⟩), .int .i64 n] w fun e w' => e = .returned (.tuple #[.int .i64 c'.l, .bool r]) ∧ CrAt 42 w' b c' ∧ w.grownBy w' (some b) := by
  rw [← h1, ← h2]; exact read_any b c n w h hc

set_option maxHeartbeats 1000000 in
theorem awake_any (w : World) : Calls Try.prog 7 #[] w fun e w' => e = .returned (.bool true) ∧ Below w.heap.size w w' := by
  go_enter Try.func7, Try.ntmps7
  go_wp2_with fail
  refine (new_any 10 _ (by omega) (by omega)).mono ?_
  rintro e w1 ⟨rfl, l1, b1, s1⟩
  have o1 : (Cr.start 10).ok := start_ok (by omega) (by omega)
  go_wp2_with fail
  refine (take_is _ _ ⟨10, 10, 10, 0⟩ 10 true _ l1 o1 (by decide) (by rfl)).mono ?_
  rintro e w2 ⟨rfl, l2, g2⟩
  have o2 : Cr.ok ⟨10, 10, 10, 0⟩ := ⟨by decide, by decide, by decide, by decide, by decide, by decide, by decide, by decide⟩
  have b2 := b1.grown g2 (by omega) (fun j hj => by cases hj; omega)
  have s2 := g2.size
  clear l1 b1 g2 o1
  go_wp2_with fail
  refine (take_is _ _ ⟨10, 10, 10, 0⟩ 1 false _ l2 o2 (by decide) (by rfl)).mono ?_
  rintro e w3 ⟨rfl, l3, g3⟩
  have b3 := b2.grown g3 (by omega) (fun j hj => by cases hj; omega)
  have s3 := g3.size
  clear l2 b2 g3
  go_wp2_with fail
  refine (read_is _ _ ⟨10, 15, 10, 5⟩ 5 true _ l3 o2 (by decide) (by rfl)).mono ?_
  rintro e w4 ⟨rfl, l4, g4⟩
  have o4 : Cr.ok ⟨10, 15, 10, 5⟩ := ⟨by decide, by decide, by decide, by decide, by decide, by decide, by decide, by decide⟩
  have b4 := b3.grown g4 (by omega) (fun j hj => by cases hj; omega)
  have s4 := g4.size
  clear l3 b3 g4 o2
  go_wp2_with fail
  refine (limit_any _ _ _ l4).mono ?_
  rintro e w5 ⟨rfl, rfl⟩
  go_wp2_with fail
  refine (room_bel _ _ 5 _ l4 o4 (by decide)).mono ?_
  rintro e w5 ⟨rfl, l5, g5⟩
  have b5 := b4.grown g5 (by omega) (fun j hj => by cases hj)
  have s5 := g5.size
  clear l4 b4 g5
  go_wp2_with fail
  refine (raise_is _ _ ⟨10, 15, 10, 5⟩ 15 false _ l5 (by decide) (by rfl)).mono ?_
  rintro e w6 ⟨rfl, l6, g6⟩
  have b6 := b5.grown g6 (by omega) (fun j hj => by cases hj; omega)
  have s6 := g6.size
  clear l5 b5 g6
  go_wp2_with fail
  refine (raise_is _ _ ⟨10, 16, 10, 5⟩ 16 true _ l6 (by decide) (by rfl)).mono ?_
  rintro e w7 ⟨rfl, l7, g7⟩
  have b7 := b6.grown g7 (by omega) (fun j hj => by cases hj; omega)
  clear l6 b6 g7
  go_wp2_with fail
  refine (new_no 0 _ (by omega)).mono ?_
  rintro e w8 ⟨rfl, rfl⟩
  go_wp2
  go_ret
  exact ⟨rfl, b7⟩

theorem read_step {W L R : Int} (T R' : Int) (h1 : R ≤ R') (h2 : R' ≤ 100000) :
    (Cr.mk W L T R).more R' = (decide (L < R' + W) && decide (W / 2 ≤ R' + W - L)) ∧
    (Cr.mk W L T R).read R' = if (decide (L < R' + W) && decide (W / 2 ≤ R' + W - L)) then ⟨W, R' + W, T, R'⟩ else ⟨W, L, T, R'⟩ := by
  have hs : (Cr.mk W L T R).seen R' = R' := by show max R (min R' 549755813888) = R'; omega
  have hm : (Cr.mk W L T R).more R' = (decide (L < R' + W) && decide (W / 2 ≤ R' + W - L)) := by unfold Cr.more; rw [hs]
  refine ⟨hm, ?_⟩
  unfold Cr.read
  rw [hm, hs]

set_option maxHeartbeats 2000000 in
set_option maxRecDepth 100000 in
theorem flows_any (window' total' step' : Int) (w : World) :
    Calls Try.prog 4 #[.int .i64 window', .int .i64 total', .int .i64 step'] w fun e w' => e = .returned (.bool true) ∧ Below w.heap.size w w' := by
  obtain ⟨W, hW, hW1, hW2⟩ := low_name window' 100 (by omega)
  obtain ⟨T, hT, hT1, hT2⟩ := low_name total' 3001 (by omega)
  obtain ⟨p, hp, hp1, hp2⟩ := low_name step' 60 (by omega)
  go_enter Try.func4, Try.ntmps4
  go_wp2_with fail
  refine (low_r _ _ W _ hW (by omega) (by omega)).mono ?_
  rintro e w1 ⟨rfl, rfl⟩
  go_wp2_with fail
  refine (low_r _ _ T _ hT (by omega) (by omega)).mono ?_
  rintro e w1 ⟨rfl, rfl⟩
  go_wp2_with fail
  refine (low_r _ _ p _ hp (by omega) (by omega)).mono ?_
  rintro e w1 ⟨rfl, rfl⟩
  go_wp2_with fail
  refine (new_any (1 + W) _ (by omega) (by omega)).mono ?_
  rintro e w1 ⟨rfl, l1, b1, s1⟩
  go_wp2_with fail
  refine (new_any (1 + W) _ (by omega) (by omega)).mono ?_
  rintro e w2 ⟨rfl, r2, b2, s2⟩
  have l2 := Lib.hid (l1.below b2 l1.lt)
  have b2' := b1.trans (b2.mono (by omega))
  rw [s1] at r2 s2 ⊢
  have r2 := Lib.hid r2
  clear l1 b1 b2 s1
  go_wp2_with fail
  go_loopw [11, 9, 10] (fun i s r wr => ∃ (k : Nat) (S R L : Int), i = .int .i64 k ∧ s = .int .i64 S ∧ r = .int .i64 R ∧ (k : Int) ≤ R ∧ R ≤ S ∧ S ≤ T ∧ S ≤ L ∧ L ≤ R + 1 + W ∧ R + 1 + W - L ≤ (1 + W) / 2 ∧ (1 ≤ L - R) ∧ 1 + W ≤ L ∧ Hid (CrAt 42 wr w.heap.size ⟨1 + W, L, S, 0⟩) ∧ Hid (CrAt 42 wr (w.heap.size + 1) ⟨1 + W, L, 0, R⟩) ∧ Below w.heap.size w wr) (fun _ _ r _ => (T - intOf r).toNat)
  case atStart => exact ⟨0, 0, 0, 1 + W, rfl, rfl, rfl, by omega, by omega, by omega, by omega, by omega, by omega, by omega, by omega, l2, r2, b2'⟩
  case round =>
    obtain ⟨k, S, R, L, rfl, rfl, rfl, k1, k2, k3, k4, k5, k6, k7, k8, l3, r3, b3⟩ := hrel
    clear l2 r2 b2' s2
    have z3 := r3.out.lt
    by_cases hlt : R < T
    · obtain ⟨n, hn⟩ := name_it (min (L - S) (T - S))
      have hn' := hn.out.symm
      have n0 : 0 ≤ n := by rw [hn.out]; omega
      have n1 : n ≤ L - S := by rw [hn.out]; omega
      have n2 : n ≤ T - S := by rw [hn.out]; omega
      have n3 : 1 ≤ S + n - R := by rw [hn.out]; omega
      have ols : Cr.ok ⟨1 + W, L, S, 0⟩ := ⟨by simp; omega, by simp; omega, by simp; omega, by simp; omega, by simp; omega, by simp; omega, by simp, by simp⟩
      have olr : Cr.ok ⟨1 + W, L, 0, R⟩ := ⟨by simp; omega, by simp; omega, by simp; omega, by simp; omega, by simp, by simp; omega, by simp; omega, by simp; omega⟩
      have mt : Cr.mayTake ⟨1 + W, L, S, 0⟩ n = true := by simp [Cr.mayTake]; omega
      have tk : Cr.take ⟨1 + W, L, S, 0⟩ n = ⟨1 + W, L, S + n, 0⟩ := by unfold Cr.take; rw [if_pos mt]
      have mt := Lib.hid mt
      have tk := Lib.hid tk
      go_wp2_with fail
      refine (room_bel _ _ (L - S) _ l3.out ols rfl).mono ?_
      rintro e w4 ⟨rfl, l4, g4⟩
      have r4 := Lib.hid (r3.out.grown g4 (by simp))
      have l4 := Lib.hid l4
      have b4 := b3.grown g4 (by omega) (fun j hj => by cases hj)
      have z4 := g4.size
      clear l3 r3 b3 g4
      go_wp2_with fail
      refine (take_is _ _ _ n true _ l4.out ols mt.out tk.out).mono ?_
      rintro e w5 ⟨rfl, l5, g5⟩
      have r5 := Lib.hid (r4.out.grown g5 (by simp))
      have l5 := Lib.hid l5
      have b5 := b4.grown g5 (by omega) (fun j hj => by cases hj; omega)
      have z5 := g5.size
      clear l4 r4 b4 g5
      obtain ⟨R', hR'⟩ := name_it (min (S + n) (R + (1 + p)))
      have hR'' := hR'.out.symm
      have q1 : R + 1 ≤ R' := by rw [hR'.out]; omega
      have q2 : R' ≤ S + n := by rw [hR'.out]; omega
      obtain ⟨m1, m2⟩ := read_step (W := 1 + W) (L := L) 0 R' (by omega : R ≤ R') (by omega)
      by_cases hm : L < R' + (1 + W) ∧ (1 + W) / 2 ≤ R' + (1 + W) - L
      · have hb : (decide (L < R' + (1 + W)) && decide ((1 + W) / 2 ≤ R' + (1 + W) - L)) = true := by simp [hm]
        rw [hb] at m1 m2
        rw [if_pos rfl] at m2
        have mr : Cr.mayRaise ⟨1 + W, L, S + n, 0⟩ (R' + (1 + W)) = true := by simp [Cr.mayRaise]; omega
        have rs : Cr.raise ⟨1 + W, L, S + n, 0⟩ (R' + (1 + W)) = ⟨1 + W, R' + (1 + W), S + n, 0⟩ := by unfold Cr.raise; rw [if_pos mr]
        have m1 := Lib.hid m1
        have m2 := Lib.hid m2
        have mr := Lib.hid mr
        have rs := Lib.hid rs
        have hm := Lib.hid hm
        clear hb
        go_wp2_with fail
        refine (read_is _ _ _ R' true _ r5.out olr m1.out m2.out).mono ?_
        rintro e w6 ⟨rfl, r6, g6⟩
        have l6 := Lib.hid (l5.out.grown g6 (by simp))
        have r6 := Lib.hid r6
        have b6 := b5.grown g6 (by omega) (fun j hj => by cases hj; omega)
        have z6 := g6.size
        clear l5 r5 b5 g6
        go_wp2_with fail
        refine (raise_is _ _ _ _ true _ l6.out mr.out rs.out).mono ?_
        rintro e w7 ⟨rfl, l7, g7⟩
        have r7 := Lib.hid (r6.out.grown g7 (by simp))
        have l7 := Lib.hid l7
        have b7 := b6.grown g7 (by omega) (fun j hj => by cases hj; omega)
        clear l6 r6 b6 g7 hn' hR''
        go_wp2
        go_roundw
        case rel => exact ⟨k + 1, S + n, R', R' + (1 + W), by go_num, rfl, rfl, by omega, by omega, by omega, by omega, by omega, by omega, by omega, by omega, l7, r7, b7⟩
        case measure => simp [intOf]; omega
      · have hb : (decide (L < R' + (1 + W)) && decide ((1 + W) / 2 ≤ R' + (1 + W) - L)) = false := by simp; omega
        rw [hb] at m1 m2
        rw [if_neg (by simp)] at m2
        have m1 := Lib.hid m1
        have m2 := Lib.hid m2
        have hm := Lib.hid hm
        clear hb
        go_wp2_with fail
        refine (read_is _ _ _ R' false _ r5.out olr m1.out m2.out).mono ?_
        rintro e w6 ⟨rfl, r6, g6⟩
        have l6 := Lib.hid (l5.out.grown g6 (by simp))
        have r6 := Lib.hid r6
        have b6 := b5.grown g6 (by omega) (fun j hj => by cases hj; omega)
        have z6 := g6.size
        clear l5 r5 b5 g6 hn' hR''
        go_wp2
        go_roundw
        case rel => exact ⟨k + 1, S + n, R', L, by go_num, rfl, rfl, by omega, by omega, by omega, by omega, by omega, by have := hm.out; omega, by have := hm.out; omega, by omega, l6, r6, b6⟩
        case measure => simp [intOf]; omega
    · have z4 := b3.size
      go_wp2_with fail
      refine (awake_any _).mono ?_
      rintro e w6 ⟨rfl, b6⟩
      have b6' := b3.trans (b6.mono (by omega))
      clear b3 b6
      go_wp2
      go_ret
      first | exact ⟨rfl, b6'⟩ | exact ⟨ret_bool (by simp; omega), b6'⟩

end Go.Proofs.Ytamhoglfdfbgpaa
