/- The walk of the law CreditLimits. -/
import Derived.Test.YtamhoglfdfbgpaaC
namespace Go.Proofs.Ytamhoglfdfbgpaa
open Go.RowKit

set_option maxHeartbeats 4000000 in
set_option maxRecDepth 100000 in
theorem limits_any (window' : Int) (u : Value) (xs : List Int) (w : World) (hu : NumsAt .i64 w u xs) :
    Calls Try.prog 6 #[.int .i64 window', u] w fun e w' => e = .returned (.bool true) ∧ Below w.heap.size w w' := by
  obtain ⟨ad, ca, hu0, hl, ba, oa, hca⟩ := hu.form
  subst hu0
  by_cases h30 : 30 < xs.length
  · go_enter Try.func6, Try.ntmps6
    go_wp2_with fail
    refine (awake_any _).mono ?_
    rintro e w1 ⟨rfl, b1⟩
    go_wp2
    go_ret
    exact ⟨rfl, b1⟩
  · obtain ⟨W, hW, hW1, hW2⟩ := low_name window' 1000 (by omega)
    go_enter Try.func6, Try.ntmps6
    go_wp2_with fail
    refine (low_r _ _ W _ hW (by omega) (by omega)).mono ?_
    rintro e w1 ⟨rfl, rfl⟩
    go_wp2_with fail
    refine (new_any (1 + W) _ (by omega) (by omega)).mono ?_
    rintro e w1 ⟨rfl, l1, b1, s1⟩
    have l1 := Lib.hid l1
    go_wp2_with fail
    go_loopw [8, 6, 7] (fun i a t wr => ∃ (k : Nat) (L S : Int), k ≤ xs.length ∧ i = .int .i64 k ∧ a = .int .i64 L ∧ t = .int .i64 S ∧ 1 + W ≤ L ∧ L ≤ 5000 ∧ 0 ≤ S ∧ S ≤ L ∧ Hid (CrAt 42 wr w.heap.size ⟨1 + W, L, S, 0⟩) ∧ Below w.heap.size w wr) (fun i _ _ _ => xs.length - (intOf i).toNat)
    case atStart => exact ⟨0, 1 + W, 0, by omega, rfl, rfl, rfl, by omega, by omega, by omega, by omega, l1, b1⟩
    case round =>
      obtain ⟨k, L, S, hk, rfl, rfl, rfl, k1, k2, k3, k4, l3, b3⟩ := hrel
      clear l1 b1 s1
      have z3 := l3.out.lt
      by_cases hlt : k < xs.length
      · obtain ⟨rfl, hc⟩ := hca.out k hlt
        obtain ⟨y, hy⟩ := name_it (xs.getD k 0)
        rw [← hy.out] at hc
        have hb0 : ba < w.heap.size := cell_lt hc
        have hc : wr.cell? ⟨ba, oa + k, none⟩ = some (.int .i64 y) := (b3.cell hb0).trans hc
        obtain ⟨n, hn, hn1, hn2⟩ := low_name y 5000 (by omega)
        by_cases hev : n % 2 = 0
        · have hev' : (n % 2 == 0) = true := by simpa using hev
          by_cases hnL : L < n
          · have hd : decide (L < n) = true := by simpa using hnL
            have mr : Cr.mayRaise ⟨1 + W, L, S, 0⟩ n = true := by simp [Cr.mayRaise]; omega
            have rs : Cr.raise ⟨1 + W, L, S, 0⟩ n = ⟨1 + W, n, S, 0⟩ := by unfold Cr.raise; rw [if_pos mr]
            have hM : max L n = n := by omega
            have mr := Lib.hid mr
            have rs := Lib.hid rs
            go_wp2_with fail
            refine (low_r _ _ n _ hn (by omega) (by omega)).mono ?_
            rintro e w4 ⟨rfl, rfl⟩
            go_wp2_with fail
            refine (raise_is _ _ _ _ true _ l3.out mr.out rs.out).mono ?_
            rintro e w4 ⟨rfl, l4, g4⟩
            have b4 := b3.grown g4 (by omega) (fun j hj => by cases hj; omega)
            have z4 := g4.size
            have l4 := Lib.hid l4
            clear l3 b3 g4 mr rs
            have oc : Cr.ok ⟨1 + W, n, S, 0⟩ := ⟨by simp; omega, by simp; omega, by simp; omega, by simp; omega, by simp; omega, by simp; omega, by simp, by simp⟩
            have t1 : Cr.mayTake ⟨1 + W, n, S, 0⟩ (n - S + 1) = false := by simp [Cr.mayTake]; omega
            have t2 : Cr.mayTake ⟨1 + W, n, S, 0⟩ (-1) = false := by simp [Cr.mayTake]
            have t3 : Cr.mayRaise ⟨1 + W, n, S, 0⟩ n = false := by simp [Cr.mayRaise]
            have t4 : Cr.mayTake ⟨1 + W, n, S, 0⟩ 0 = true := by simp [Cr.mayTake]; omega
            have v1 : Cr.take ⟨1 + W, n, S, 0⟩ (n - S + 1) = ⟨1 + W, n, S, 0⟩ := by unfold Cr.take; rw [if_neg (by rw [t1]; simp)]
            have v2 : Cr.take ⟨1 + W, n, S, 0⟩ (-1) = ⟨1 + W, n, S, 0⟩ := by unfold Cr.take; rw [if_neg (by rw [t2]; simp)]
            have v3 : Cr.raise ⟨1 + W, n, S, 0⟩ n = ⟨1 + W, n, S, 0⟩ := by unfold Cr.raise; rw [if_neg (by rw [t3]; simp)]
            have v4 : Cr.take ⟨1 + W, n, S, 0⟩ 0 = ⟨1 + W, n, S, 0⟩ := by unfold Cr.take; rw [if_pos t4]; simp
            have t1 := Lib.hid t1
            have t2 := Lib.hid t2
            have t3 := Lib.hid t3
            have t4 := Lib.hid t4
            have v1 := Lib.hid v1
            have v2 := Lib.hid v2
            have v3 := Lib.hid v3
            have v4 := Lib.hid v4
            go_wp2_with fail
            refine (limit_any _ _ _ l4.out).mono ?_
            rintro e w5 ⟨rfl, rfl⟩
            go_wp2_with fail
            refine (room_bel _ _ (n - S) _ l4.out oc rfl).mono ?_
            rintro e w5 ⟨rfl, l5, g5⟩
            have b5 := b4.grown g5 (by omega) (fun j hj => by cases hj)
            have z5 := g5.size
            have l5 := Lib.hid l5
            clear l4 b4 g5
            go_wp2_with fail
            refine (take_is _ _ _ _ false _ l5.out oc t1.out v1.out).mono ?_
            rintro e w6 ⟨rfl, l6, g6⟩
            have b6 := b5.grown g6 (by omega) (fun j hj => by cases hj; omega)
            have z6 := g6.size
            have l6 := Lib.hid l6
            clear l5 b5 g6
            go_wp2_with fail
            refine (take_is _ _ _ _ false _ l6.out oc t2.out v2.out).mono ?_
            rintro e w7 ⟨rfl, l7, g7⟩
            have b7 := b6.grown g7 (by omega) (fun j hj => by cases hj; omega)
            have z7 := g7.size
            have l7 := Lib.hid l7
            clear l6 b6 g7
            go_wp2_with fail
            refine (raise_is _ _ _ _ false _ l7.out t3.out v3.out).mono ?_
            rintro e w8 ⟨rfl, l8, g8⟩
            have b8 := b7.grown g8 (by omega) (fun j hj => by cases hj; omega)
            have z8 := g8.size
            have l8 := Lib.hid l8
            clear l7 b7 g8
            go_wp2_with fail
            refine (take_is _ _ _ _ true _ l8.out oc t4.out v4.out).mono ?_
            rintro e w9 ⟨rfl, l9, g9⟩
            have b9 := b8.grown g9 (by omega) (fun j hj => by cases hj; omega)
            have l9 := Lib.hid l9
            clear l8 b8 g9 t1 t2 t3 t4 v1 v2 v3 v4 hM hev'
            go_wp2
            go_roundw
            case rel => exact ⟨k + 1, n, S, by omega, by go_num, rfl, rfl, by omega, by omega, by omega, by omega, l9, b9⟩
            case measure => simp [intOf]; omega
          · have hd : decide (L < n) = false := by simpa using hnL
            have mr : Cr.mayRaise ⟨1 + W, L, S, 0⟩ n = false := by simp [Cr.mayRaise]; omega
            have rs : Cr.raise ⟨1 + W, L, S, 0⟩ n = ⟨1 + W, L, S, 0⟩ := by unfold Cr.raise; rw [if_neg (by rw [mr]; simp)]
            have hM : max L n = L := by omega
            have mr := Lib.hid mr
            have rs := Lib.hid rs
            go_wp2_with fail
            refine (low_r _ _ n _ hn (by omega) (by omega)).mono ?_
            rintro e w4 ⟨rfl, rfl⟩
            go_wp2_with fail
            refine (raise_is _ _ _ _ false _ l3.out mr.out rs.out).mono ?_
            rintro e w4 ⟨rfl, l4, g4⟩
            have b4 := b3.grown g4 (by omega) (fun j hj => by cases hj; omega)
            have z4 := g4.size
            have l4 := Lib.hid l4
            clear l3 b3 g4 mr rs
            have oc : Cr.ok ⟨1 + W, L, S, 0⟩ := ⟨by simp; omega, by simp; omega, by simp; omega, by simp; omega, by simp; omega, by simp; omega, by simp, by simp⟩
            have t1 : Cr.mayTake ⟨1 + W, L, S, 0⟩ (L - S + 1) = false := by simp [Cr.mayTake]; omega
            have t2 : Cr.mayTake ⟨1 + W, L, S, 0⟩ (-1) = false := by simp [Cr.mayTake]
            have t3 : Cr.mayRaise ⟨1 + W, L, S, 0⟩ L = false := by simp [Cr.mayRaise]
            have t4 : Cr.mayTake ⟨1 + W, L, S, 0⟩ 0 = true := by simp [Cr.mayTake]; omega
            have v1 : Cr.take ⟨1 + W, L, S, 0⟩ (L - S + 1) = ⟨1 + W, L, S, 0⟩ := by unfold Cr.take; rw [if_neg (by rw [t1]; simp)]
            have v2 : Cr.take ⟨1 + W, L, S, 0⟩ (-1) = ⟨1 + W, L, S, 0⟩ := by unfold Cr.take; rw [if_neg (by rw [t2]; simp)]
            have v3 : Cr.raise ⟨1 + W, L, S, 0⟩ L = ⟨1 + W, L, S, 0⟩ := by unfold Cr.raise; rw [if_neg (by rw [t3]; simp)]
            have v4 : Cr.take ⟨1 + W, L, S, 0⟩ 0 = ⟨1 + W, L, S, 0⟩ := by unfold Cr.take; rw [if_pos t4]; simp
            have t1 := Lib.hid t1
            have t2 := Lib.hid t2
            have t3 := Lib.hid t3
            have t4 := Lib.hid t4
            have v1 := Lib.hid v1
            have v2 := Lib.hid v2
            have v3 := Lib.hid v3
            have v4 := Lib.hid v4
            go_wp2_with fail
            refine (limit_any _ _ _ l4.out).mono ?_
            rintro e w5 ⟨rfl, rfl⟩
            go_wp2_with fail
            refine (room_bel _ _ (L - S) _ l4.out oc rfl).mono ?_
            rintro e w5 ⟨rfl, l5, g5⟩
            have b5 := b4.grown g5 (by omega) (fun j hj => by cases hj)
            have z5 := g5.size
            have l5 := Lib.hid l5
            clear l4 b4 g5
            go_wp2_with fail
            refine (take_is _ _ _ _ false _ l5.out oc t1.out v1.out).mono ?_
            rintro e w6 ⟨rfl, l6, g6⟩
            have b6 := b5.grown g6 (by omega) (fun j hj => by cases hj; omega)
            have z6 := g6.size
            have l6 := Lib.hid l6
            clear l5 b5 g6
            go_wp2_with fail
            refine (take_is _ _ _ _ false _ l6.out oc t2.out v2.out).mono ?_
            rintro e w7 ⟨rfl, l7, g7⟩
            have b7 := b6.grown g7 (by omega) (fun j hj => by cases hj; omega)
            have z7 := g7.size
            have l7 := Lib.hid l7
            clear l6 b6 g7
            go_wp2_with fail
            refine (raise_is _ _ _ _ false _ l7.out t3.out v3.out).mono ?_
            rintro e w8 ⟨rfl, l8, g8⟩
            have b8 := b7.grown g8 (by omega) (fun j hj => by cases hj; omega)
            have z8 := g8.size
            have l8 := Lib.hid l8
            clear l7 b7 g8
            go_wp2_with fail
            refine (take_is _ _ _ _ true _ l8.out oc t4.out v4.out).mono ?_
            rintro e w9 ⟨rfl, l9, g9⟩
            have b9 := b8.grown g9 (by omega) (fun j hj => by cases hj; omega)
            have l9 := Lib.hid l9
            clear l8 b8 g9 t1 t2 t3 t4 v1 v2 v3 v4 hM hev'
            go_wp2
            go_roundw
            case rel => exact ⟨k + 1, L, S, by omega, by go_num, rfl, rfl, by omega, by omega, by omega, by omega, l9, b9⟩
            case measure => simp [intOf]; omega
        · have hev' : (n % 2 == 0) = false := by simpa using hev
          by_cases hnL : n / 4 ≤ L - S
          · have hd : decide (n / 4 ≤ L - S) = true := by simpa using hnL
            have mr : Cr.mayTake ⟨1 + W, L, S, 0⟩ (n / 4) = true := by simp [Cr.mayTake]; omega
            have rs : Cr.take ⟨1 + W, L, S, 0⟩ (n / 4) = ⟨1 + W, L, S + n / 4, 0⟩ := by unfold Cr.take; rw [if_pos mr]
            have ols : Cr.ok ⟨1 + W, L, S, 0⟩ := ⟨by simp; omega, by simp; omega, by simp; omega, by simp; omega, by simp; omega, by simp; omega, by simp, by simp⟩
            have mr := Lib.hid mr
            have rs := Lib.hid rs
            go_wp2_with fail
            refine (low_r _ _ n _ hn (by omega) (by omega)).mono ?_
            rintro e w4 ⟨rfl, rfl⟩
            go_wp2_with fail
            refine (take_is _ _ _ _ true _ l3.out ols mr.out rs.out).mono ?_
            rintro e w4 ⟨rfl, l4, g4⟩
            have b4 := b3.grown g4 (by omega) (fun j hj => by cases hj; omega)
            have z4 := g4.size
            have l4 := Lib.hid l4
            clear l3 b3 g4 mr rs
            have oc : Cr.ok ⟨1 + W, L, (S + n / 4), 0⟩ := ⟨by simp; omega, by simp; omega, by simp; omega, by simp; omega, by simp; omega, by simp; omega, by simp, by simp⟩
            have t1 : Cr.mayTake ⟨1 + W, L, (S + n / 4), 0⟩ (L - (S + n / 4) + 1) = false := by simp [Cr.mayTake]; omega
            have t2 : Cr.mayTake ⟨1 + W, L, (S + n / 4), 0⟩ (-1) = false := by simp [Cr.mayTake]
            have t3 : Cr.mayRaise ⟨1 + W, L, (S + n / 4), 0⟩ L = false := by simp [Cr.mayRaise]
            have t4 : Cr.mayTake ⟨1 + W, L, (S + n / 4), 0⟩ 0 = true := by simp [Cr.mayTake]; omega
            have v1 : Cr.take ⟨1 + W, L, (S + n / 4), 0⟩ (L - (S + n / 4) + 1) = ⟨1 + W, L, (S + n / 4), 0⟩ := by unfold Cr.take; rw [if_neg (by rw [t1]; simp)]
            have v2 : Cr.take ⟨1 + W, L, (S + n / 4), 0⟩ (-1) = ⟨1 + W, L, (S + n / 4), 0⟩ := by unfold Cr.take; rw [if_neg (by rw [t2]; simp)]
            have v3 : Cr.raise ⟨1 + W, L, (S + n / 4), 0⟩ L = ⟨1 + W, L, (S + n / 4), 0⟩ := by unfold Cr.raise; rw [if_neg (by rw [t3]; simp)]
            have v4 : Cr.take ⟨1 + W, L, (S + n / 4), 0⟩ 0 = ⟨1 + W, L, (S + n / 4), 0⟩ := by unfold Cr.take; rw [if_pos t4]; simp
            have t1 := Lib.hid t1
            have t2 := Lib.hid t2
            have t3 := Lib.hid t3
            have t4 := Lib.hid t4
            have v1 := Lib.hid v1
            have v2 := Lib.hid v2
            have v3 := Lib.hid v3
            have v4 := Lib.hid v4
            go_wp2_with fail
            refine (limit_any _ _ _ l4.out).mono ?_
            rintro e w5 ⟨rfl, rfl⟩
            go_wp2_with fail
            refine (room_bel _ _ (L - (S + n / 4)) _ l4.out oc rfl).mono ?_
            rintro e w5 ⟨rfl, l5, g5⟩
            have b5 := b4.grown g5 (by omega) (fun j hj => by cases hj)
            have z5 := g5.size
            have l5 := Lib.hid l5
            clear l4 b4 g5
            go_wp2_with fail
            refine (take_is _ _ _ _ false _ l5.out oc t1.out v1.out).mono ?_
            rintro e w6 ⟨rfl, l6, g6⟩
            have b6 := b5.grown g6 (by omega) (fun j hj => by cases hj; omega)
            have z6 := g6.size
            have l6 := Lib.hid l6
            clear l5 b5 g6
            go_wp2_with fail
            refine (take_is _ _ _ _ false _ l6.out oc t2.out v2.out).mono ?_
            rintro e w7 ⟨rfl, l7, g7⟩
            have b7 := b6.grown g7 (by omega) (fun j hj => by cases hj; omega)
            have z7 := g7.size
            have l7 := Lib.hid l7
            clear l6 b6 g7
            go_wp2_with fail
            refine (raise_is _ _ _ _ false _ l7.out t3.out v3.out).mono ?_
            rintro e w8 ⟨rfl, l8, g8⟩
            have b8 := b7.grown g8 (by omega) (fun j hj => by cases hj; omega)
            have z8 := g8.size
            have l8 := Lib.hid l8
            clear l7 b7 g8
            go_wp2_with fail
            refine (take_is _ _ _ _ true _ l8.out oc t4.out v4.out).mono ?_
            rintro e w9 ⟨rfl, l9, g9⟩
            have b9 := b8.grown g9 (by omega) (fun j hj => by cases hj; omega)
            have l9 := Lib.hid l9
            clear l8 b8 g9 t1 t2 t3 t4 v1 v2 v3 v4 hev'
            go_wp2
            go_roundw
            case rel => exact ⟨k + 1, L, S + n / 4, by omega, by go_num, rfl, rfl, by omega, by omega, by omega, by omega, l9, b9⟩
            case measure => simp [intOf]; omega
          · have hd : decide (n / 4 ≤ L - S) = false := by simpa using hnL
            have mr : Cr.mayTake ⟨1 + W, L, S, 0⟩ (n / 4) = false := by simp [Cr.mayTake]; omega
            have rs : Cr.take ⟨1 + W, L, S, 0⟩ (n / 4) = ⟨1 + W, L, S, 0⟩ := by unfold Cr.take; rw [if_neg (by rw [mr]; simp)]
            have ols : Cr.ok ⟨1 + W, L, S, 0⟩ := ⟨by simp; omega, by simp; omega, by simp; omega, by simp; omega, by simp; omega, by simp; omega, by simp, by simp⟩
            have mr := Lib.hid mr
            have rs := Lib.hid rs
            go_wp2_with fail
            refine (low_r _ _ n _ hn (by omega) (by omega)).mono ?_
            rintro e w4 ⟨rfl, rfl⟩
            go_wp2_with fail
            refine (take_is _ _ _ _ false _ l3.out ols mr.out rs.out).mono ?_
            rintro e w4 ⟨rfl, l4, g4⟩
            have b4 := b3.grown g4 (by omega) (fun j hj => by cases hj; omega)
            have z4 := g4.size
            have l4 := Lib.hid l4
            clear l3 b3 g4 mr rs
            have oc : Cr.ok ⟨1 + W, L, S, 0⟩ := ⟨by simp; omega, by simp; omega, by simp; omega, by simp; omega, by simp; omega, by simp; omega, by simp, by simp⟩
            have t1 : Cr.mayTake ⟨1 + W, L, S, 0⟩ (L - S + 1) = false := by simp [Cr.mayTake]; omega
            have t2 : Cr.mayTake ⟨1 + W, L, S, 0⟩ (-1) = false := by simp [Cr.mayTake]
            have t3 : Cr.mayRaise ⟨1 + W, L, S, 0⟩ L = false := by simp [Cr.mayRaise]
            have t4 : Cr.mayTake ⟨1 + W, L, S, 0⟩ 0 = true := by simp [Cr.mayTake]; omega
            have v1 : Cr.take ⟨1 + W, L, S, 0⟩ (L - S + 1) = ⟨1 + W, L, S, 0⟩ := by unfold Cr.take; rw [if_neg (by rw [t1]; simp)]
            have v2 : Cr.take ⟨1 + W, L, S, 0⟩ (-1) = ⟨1 + W, L, S, 0⟩ := by unfold Cr.take; rw [if_neg (by rw [t2]; simp)]
            have v3 : Cr.raise ⟨1 + W, L, S, 0⟩ L = ⟨1 + W, L, S, 0⟩ := by unfold Cr.raise; rw [if_neg (by rw [t3]; simp)]
            have v4 : Cr.take ⟨1 + W, L, S, 0⟩ 0 = ⟨1 + W, L, S, 0⟩ := by unfold Cr.take; rw [if_pos t4]; simp
            have t1 := Lib.hid t1
            have t2 := Lib.hid t2
            have t3 := Lib.hid t3
            have t4 := Lib.hid t4
            have v1 := Lib.hid v1
            have v2 := Lib.hid v2
            have v3 := Lib.hid v3
            have v4 := Lib.hid v4
            go_wp2_with fail
            refine (limit_any _ _ _ l4.out).mono ?_
            rintro e w5 ⟨rfl, rfl⟩
            go_wp2_with fail
            refine (room_bel _ _ (L - S) _ l4.out oc rfl).mono ?_
            rintro e w5 ⟨rfl, l5, g5⟩
            have b5 := b4.grown g5 (by omega) (fun j hj => by cases hj)
            have z5 := g5.size
            have l5 := Lib.hid l5
            clear l4 b4 g5
            go_wp2_with fail
            refine (take_is _ _ _ _ false _ l5.out oc t1.out v1.out).mono ?_
            rintro e w6 ⟨rfl, l6, g6⟩
            have b6 := b5.grown g6 (by omega) (fun j hj => by cases hj; omega)
            have z6 := g6.size
            have l6 := Lib.hid l6
            clear l5 b5 g6
            go_wp2_with fail
            refine (take_is _ _ _ _ false _ l6.out oc t2.out v2.out).mono ?_
            rintro e w7 ⟨rfl, l7, g7⟩
            have b7 := b6.grown g7 (by omega) (fun j hj => by cases hj; omega)
            have z7 := g7.size
            have l7 := Lib.hid l7
            clear l6 b6 g7
            go_wp2_with fail
            refine (raise_is _ _ _ _ false _ l7.out t3.out v3.out).mono ?_
            rintro e w8 ⟨rfl, l8, g8⟩
            have b8 := b7.grown g8 (by omega) (fun j hj => by cases hj; omega)
            have z8 := g8.size
            have l8 := Lib.hid l8
            clear l7 b7 g8
            go_wp2_with fail
            refine (take_is _ _ _ _ true _ l8.out oc t4.out v4.out).mono ?_
            rintro e w9 ⟨rfl, l9, g9⟩
            have b9 := b8.grown g9 (by omega) (fun j hj => by cases hj; omega)
            have l9 := Lib.hid l9
            clear l8 b8 g9 t1 t2 t3 t4 v1 v2 v3 v4 hev'
            go_wp2
            go_roundw
            case rel => exact ⟨k + 1, L, S, by omega, by go_num, rfl, rfl, by omega, by omega, by omega, by omega, l9, b9⟩
            case measure => simp [intOf]; omega
      · have z4 := b3.size
        go_wp2_with fail
        refine (awake_any _).mono ?_
        rintro e w6 ⟨rfl, b6⟩
        have b6' := b3.trans (b6.mono (by omega))
        clear b3 b6
        go_wp2
        go_ret
        exact ⟨rfl, b6'⟩

end Go.Proofs.Ytamhoglfdfbgpaa
