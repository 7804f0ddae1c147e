/- The walk of the law CreditMeets. -/
import Derived.Test.YtamhoglfdfbgpaaC
namespace Go.Proofs.Ytamhoglfdfbgpaa
open Go.RowKit

set_option maxHeartbeats 8000000 in
set_option maxRecDepth 100000 in
theorem meets_any (window' : Int) (u : Value) (xs : List Int) (w : World) (hu : NumsAt .i64 w u xs) :
    Calls Try.prog 5 #[.int .i64 window', u] w fun e w' => e = .returned (.bool true) ∧ Below w.heap.size w w' := by
  obtain ⟨ad, ca, hu0, hl, ba, oa, hca⟩ := hu.form
  subst hu0
  by_cases h30 : 30 < xs.length
  · go_enter Try.func5, Try.ntmps5
    go_wp2_with fail
    refine (awake_any _).mono ?_
    rintro e w1 ⟨rfl, b1⟩
    go_wp2
    go_ret
    exact ⟨rfl, b1⟩
  · obtain ⟨W', hW, hW1, hW2⟩ := low_name window' 499 (by omega)
    obtain ⟨W, hWW⟩ := name_it (2 + W')
    have hWW' := hWW.out.symm
    have k00 : 2 ≤ W := by rw [hWW.out]; omega
    have k01 : W ≤ 500 := by rw [hWW.out]; omega
    go_enter Try.func5, Try.ntmps5
    go_wp2_with fail
    refine (low_r _ _ W' _ hW (by omega) (by omega)).mono ?_
    rintro e w1 ⟨rfl, rfl⟩
    go_wp2_with fail
    refine (new_any W _ (by omega) (by omega)).mono ?_
    rintro e w1 ⟨rfl, l1, b1, s1⟩
    clear hWW'
    go_wp2_with fail
    refine (new_any W _ (by omega) (by omega)).mono ?_
    rintro e w2 ⟨rfl, r2, b2, s2⟩
    have l2 := Lib.hid (l1.below b2 l1.lt)
    have b2' := b1.trans (b2.mono (by omega))
    rw [s1] at r2 s2 ⊢
    have r2 := Lib.hid r2
    clear l1 b1 b2 s1
    go_wp2_with fail
    go_loopw [9, 7, 8] (fun i s r wr => ∃ (k : Nat) (S R L : Int), k ≤ xs.length ∧ i = .int .i64 k ∧ s = .int .i64 S ∧ r = .int .i64 R ∧ 0 ≤ R ∧ R ≤ S ∧ S ≤ L ∧ L ≤ R + W ∧ W ≤ L ∧ S ≤ 1000 * (k : Int) ∧ Hid (CrAt 42 wr w.heap.size ⟨W, L, S, 0⟩) ∧ Hid (CrAt 42 wr (w.heap.size + 1) ⟨W, L, 0, R⟩) ∧ Below w.heap.size w wr) (fun i _ _ _ => xs.length - (intOf i).toNat)
    case atStart => exact ⟨0, 0, 0, W, by omega, rfl, rfl, rfl, by omega, by omega, by omega, by omega, by omega, by omega, l2, r2, b2'⟩
    case round =>
      obtain ⟨k, S, R, L, hk, rfl, rfl, rfl, k1, k2, k3, k4, k5, k6, l3, r3, b3⟩ := hrel
      clear l2 r2 b2' s2
      have z3 := r3.out.lt
      by_cases hlt : k < xs.length
      · obtain ⟨rfl, hc⟩ := hca.out k hlt
        obtain ⟨y, hy⟩ := name_it (xs.getD k 0)
        rw [← hy.out] at hc
        have hb0 : ba < w.heap.size := cell_lt hc
        have hc0 := Lib.hid hc
        have hc : wr.cell? ⟨ba, oa + k, none⟩ = some (.int .i64 y) := (b3.cell hb0).trans hc
        obtain ⟨n, hn, hn1, hn2⟩ := low_name y (2 * W) (by omega)
        have ols : Cr.ok ⟨W, L, S, 0⟩ := ⟨by simp; omega, by simp; omega, by simp; omega, by simp; omega, by simp; omega, by simp; omega, by simp, by simp⟩
        obtain ⟨od, hod⟩ := name_it (bits BinOp.and IntKind.i64 y 1 == 1)
        have hod' := hod.out.symm
        by_cases htk : n ≤ L - S
        · have mt : Cr.mayTake ⟨W, L, S, 0⟩ n = true := by simp [Cr.mayTake]; omega
          have tk : Cr.take ⟨W, L, S, 0⟩ n = ⟨W, L, S + n, 0⟩ := by unfold Cr.take; rw [if_pos mt]
          have mt := Lib.hid mt
          have tk := Lib.hid tk
          have hok : decide (n ≤ W - (S - R)) = true := by simp; omega
          go_wp2_with fail
          refine (low_r _ _ n _ hn (by omega) (by omega)).mono ?_
          rintro e w5 ⟨rfl, rfl⟩
          go_wp2_with fail
          refine (take_is _ _ _ n true _ l3.out ols mt.out tk.out).mono ?_
          rintro e w5 ⟨rfl, l5, g5⟩
          have r5 := Lib.hid (r3.out.grown g5 (by simp))
          have l5 := Lib.hid l5
          have b5 := b3.grown g5 (by omega) (fun j hj => by cases hj; omega)
          have z5 := g5.size
          have hc : w5.cell? ⟨ba, oa + k, none⟩ = some (.int .i64 y) := (b5.cell hb0).trans hc0.out
          clear l3 r3 b3 g5 ols
          cases od
          · obtain ⟨m1, m2⟩ := read_step (W := W) (L := L) (R := R) 0 R (by omega) (by omega)
            have olr : Cr.ok ⟨W, L, 0, R⟩ := ⟨by simp; omega, by simp; omega, by simp; omega, by simp; omega, by simp, by simp; omega, by simp; omega, by simp; omega⟩
            by_cases hm : L < R + W ∧ W / 2 ≤ R + W - L
            · have hb : (decide (L < R + W) && decide (W / 2 ≤ R + W - L)) = true := by simp [hm]
              rw [hb] at m1 m2
              rw [if_pos rfl] at m2
              have mr : Cr.mayRaise ⟨W, L, (S + n), 0⟩ (R + W) = true := by simp [Cr.mayRaise]; omega
              have rs : Cr.raise ⟨W, L, (S + n), 0⟩ (R + W) = ⟨W, R + W, (S + n), 0⟩ := by unfold Cr.raise; rw [if_pos mr]
              have m1 := Lib.hid m1
              have m2 := Lib.hid m2
              have mr := Lib.hid mr
              have rs := Lib.hid rs
              have hm := Lib.hid hm
              have ofin : Cr.ok ⟨W, R + W, (S + n), 0⟩ := ⟨by simp; omega, by simp; omega, by simp; omega, by simp; omega, by simp; omega, by simp; omega, by simp, by simp⟩
              clear hb
              go_wp2_with fail
              refine (read_is _ _ _ R true _ r5.out olr m1.out m2.out).mono ?_
              rintro e w6 ⟨rfl, r6, g6⟩
              have l6 := Lib.hid (l5.out.grown g6 (by simp))
              have r6 := Lib.hid r6
              have b6 := b5.grown g6 (by omega) (fun j hj => by cases hj; omega)
              have z6 := g6.size
              clear l5 r5 b5 g6
              go_wp2_with fail
              refine (raise_is _ _ _ _ true _ l6.out mr.out rs.out).mono ?_
              rintro e w7 ⟨rfl, l7, g7⟩
              have r7 := Lib.hid (r6.out.grown g7 (by simp))
              have l7 := Lib.hid l7
              have b7 := b6.grown g7 (by omega) (fun j hj => by cases hj; omega)
              have z7 := g7.size
              clear l6 r6 b6 g7
              go_wp2_with fail
              refine (limit_any _ _ _ l7.out).mono ?_
              rintro e w8 ⟨rfl, rfl⟩
              go_wp2_with fail
              refine (limit_any _ _ _ r7.out).mono ?_
              rintro e w8 ⟨rfl, rfl⟩
              by_cases heq : R = (S + n)
              · have heq' : (R == (S + n)) = true := by simpa using heq
                have heq'' := Lib.hid heq
                clear heq
                go_wp2_with fail
                refine (room_bel _ _ (R + W - (S + n)) _ l7.out ofin rfl).mono ?_
                rintro e w8 ⟨rfl, l8, g8⟩
                have r8 := Lib.hid (r7.out.grown g8 (by simp))
                have l8 := Lib.hid l8
                have b8 := b7.grown g8 (by omega) (fun j hj => by cases hj)
                have hroom : decide (R + W - (S + n) < W - W / 2) = false := by have := hm.out; have := heq''.out; simp; omega
                clear l7 r7 b7 g8 ofin
                have hm' := hm.out
                clear heq' hok
                go_wp2
                go_roundw
                case rel => exact ⟨k + 1, (S + n), R, R + W, by omega, by go_num, rfl, rfl, by omega, by omega, by omega, by omega, by omega, by omega, l8, r8, b8⟩
                case measure => simp [intOf]; omega
              · have heq' : (R == (S + n)) = false := by simpa using heq
                have heq'' := Lib.hid heq
                clear heq
                have l8 := l7
                have r8 := r7
                have b8 := b7
                clear l7 r7 b7 ofin
                have hm' := hm.out
                clear heq' hok
                go_wp2
                go_roundw
                case rel => exact ⟨k + 1, (S + n), R, R + W, by omega, by go_num, rfl, rfl, by omega, by omega, by omega, by omega, by omega, by omega, l8, r8, b8⟩
                case measure => simp [intOf]; omega
            · have hb : (decide (L < R + W) && decide (W / 2 ≤ R + W - L)) = false := by simp; omega
              rw [hb] at m1 m2
              rw [if_neg (by simp)] at m2
              have mr : Cr.mayRaise ⟨W, L, (S + n), 0⟩ L = false := by simp [Cr.mayRaise]
              have rs : Cr.raise ⟨W, L, (S + n), 0⟩ L = ⟨W, L, (S + n), 0⟩ := by unfold Cr.raise; rw [if_neg (by rw [mr]; simp)]
              have m1 := Lib.hid m1
              have m2 := Lib.hid m2
              have mr := Lib.hid mr
              have rs := Lib.hid rs
              have hm := Lib.hid hm
              have ofin : Cr.ok ⟨W, L, (S + n), 0⟩ := ⟨by simp; omega, by simp; omega, by simp; omega, by simp; omega, by simp; omega, by simp; omega, by simp, by simp⟩
              clear hb
              go_wp2_with fail
              refine (read_is _ _ _ R false _ r5.out olr m1.out m2.out).mono ?_
              rintro e w6 ⟨rfl, r6, g6⟩
              have l6 := Lib.hid (l5.out.grown g6 (by simp))
              have r6 := Lib.hid r6
              have b6 := b5.grown g6 (by omega) (fun j hj => by cases hj; omega)
              have z6 := g6.size
              clear l5 r5 b5 g6
              go_wp2_with fail
              refine (raise_is _ _ _ _ false _ l6.out mr.out rs.out).mono ?_
              rintro e w7 ⟨rfl, l7, g7⟩
              have r7 := Lib.hid (r6.out.grown g7 (by simp))
              have l7 := Lib.hid l7
              have b7 := b6.grown g7 (by omega) (fun j hj => by cases hj; omega)
              have z7 := g7.size
              clear l6 r6 b6 g7
              go_wp2_with fail
              refine (limit_any _ _ _ l7.out).mono ?_
              rintro e w8 ⟨rfl, rfl⟩
              go_wp2_with fail
              refine (limit_any _ _ _ r7.out).mono ?_
              rintro e w8 ⟨rfl, rfl⟩
              by_cases heq : R = (S + n)
              · have heq' : (R == (S + n)) = true := by simpa using heq
                have heq'' := Lib.hid heq
                clear heq
                go_wp2_with fail
                refine (room_bel _ _ (L - (S + n)) _ l7.out ofin rfl).mono ?_
                rintro e w8 ⟨rfl, l8, g8⟩
                have r8 := Lib.hid (r7.out.grown g8 (by simp))
                have l8 := Lib.hid l8
                have b8 := b7.grown g8 (by omega) (fun j hj => by cases hj)
                have hroom : decide (L - (S + n) < W - W / 2) = false := by have := hm.out; have := heq''.out; simp; omega
                clear l7 r7 b7 g8 ofin
                have hm' := hm.out
                clear heq' hok
                go_wp2
                go_roundw
                case rel => exact ⟨k + 1, (S + n), R, L, by omega, by go_num, rfl, rfl, by omega, by omega, by omega, by omega, by omega, by omega, l8, r8, b8⟩
                case measure => simp [intOf]; omega
              · have heq' : (R == (S + n)) = false := by simpa using heq
                have heq'' := Lib.hid heq
                clear heq
                have l8 := l7
                have r8 := r7
                have b8 := b7
                clear l7 r7 b7 ofin
                have hm' := hm.out
                clear heq' hok
                go_wp2
                go_roundw
                case rel => exact ⟨k + 1, (S + n), R, L, by omega, by go_num, rfl, rfl, by omega, by omega, by omega, by omega, by omega, by omega, l8, r8, b8⟩
                case measure => simp [intOf]; omega
          · obtain ⟨m1, m2⟩ := read_step (W := W) (L := L) (R := R) 0 (S + n) (by omega) (by omega)
            have olr : Cr.ok ⟨W, L, 0, R⟩ := ⟨by simp; omega, by simp; omega, by simp; omega, by simp; omega, by simp, by simp; omega, by simp; omega, by simp; omega⟩
            by_cases hm : L < (S + n) + W ∧ W / 2 ≤ (S + n) + W - L
            · have hb : (decide (L < (S + n) + W) && decide (W / 2 ≤ (S + n) + W - L)) = true := by simp [hm]
              rw [hb] at m1 m2
              rw [if_pos rfl] at m2
              have mr : Cr.mayRaise ⟨W, L, (S + n), 0⟩ ((S + n) + W) = true := by simp [Cr.mayRaise]; omega
              have rs : Cr.raise ⟨W, L, (S + n), 0⟩ ((S + n) + W) = ⟨W, (S + n) + W, (S + n), 0⟩ := by unfold Cr.raise; rw [if_pos mr]
              have m1 := Lib.hid m1
              have m2 := Lib.hid m2
              have mr := Lib.hid mr
              have rs := Lib.hid rs
              have hm := Lib.hid hm
              have ofin : Cr.ok ⟨W, (S + n) + W, (S + n), 0⟩ := ⟨by simp; omega, by simp; omega, by simp; omega, by simp; omega, by simp; omega, by simp; omega, by simp, by simp⟩
              clear hb
              go_wp2_with fail
              refine (read_is _ _ _ (S + n) true _ r5.out olr m1.out m2.out).mono ?_
              rintro e w6 ⟨rfl, r6, g6⟩
              have l6 := Lib.hid (l5.out.grown g6 (by simp))
              have r6 := Lib.hid r6
              have b6 := b5.grown g6 (by omega) (fun j hj => by cases hj; omega)
              have z6 := g6.size
              clear l5 r5 b5 g6
              go_wp2_with fail
              refine (raise_is _ _ _ _ true _ l6.out mr.out rs.out).mono ?_
              rintro e w7 ⟨rfl, l7, g7⟩
              have r7 := Lib.hid (r6.out.grown g7 (by simp))
              have l7 := Lib.hid l7
              have b7 := b6.grown g7 (by omega) (fun j hj => by cases hj; omega)
              have z7 := g7.size
              clear l6 r6 b6 g7
              go_wp2_with fail
              refine (limit_any _ _ _ l7.out).mono ?_
              rintro e w8 ⟨rfl, rfl⟩
              go_wp2_with fail
              refine (limit_any _ _ _ r7.out).mono ?_
              rintro e w8 ⟨rfl, rfl⟩
              go_wp2_with fail
              refine (room_bel _ _ ((S + n) + W - (S + n)) _ l7.out ofin rfl).mono ?_
              rintro e w8 ⟨rfl, l8, g8⟩
              have r8 := Lib.hid (r7.out.grown g8 (by simp))
              have l8 := Lib.hid l8
              have b8 := b7.grown g8 (by omega) (fun j hj => by cases hj)
              have hroom : decide ((S + n) + W - (S + n) < W - W / 2) = false := by have := hm.out; simp; omega
              clear l7 r7 b7 g8 ofin
              have hm' := hm.out
              clear hroom hok
              go_wp2
              go_roundw
              case rel => exact ⟨k + 1, (S + n), (S + n), (S + n) + W, by omega, by go_num, rfl, rfl, by omega, by omega, by omega, by omega, by omega, by omega, l8, r8, b8⟩
              case measure => simp [intOf]; omega
            · have hb : (decide (L < (S + n) + W) && decide (W / 2 ≤ (S + n) + W - L)) = false := by simp; omega
              rw [hb] at m1 m2
              rw [if_neg (by simp)] at m2
              have mr : Cr.mayRaise ⟨W, L, (S + n), 0⟩ L = false := by simp [Cr.mayRaise]
              have rs : Cr.raise ⟨W, L, (S + n), 0⟩ L = ⟨W, L, (S + n), 0⟩ := by unfold Cr.raise; rw [if_neg (by rw [mr]; simp)]
              have m1 := Lib.hid m1
              have m2 := Lib.hid m2
              have mr := Lib.hid mr
              have rs := Lib.hid rs
              have hm := Lib.hid hm
              have ofin : Cr.ok ⟨W, L, (S + n), 0⟩ := ⟨by simp; omega, by simp; omega, by simp; omega, by simp; omega, by simp; omega, by simp; omega, by simp, by simp⟩
              clear hb
              go_wp2_with fail
              refine (read_is _ _ _ (S + n) false _ r5.out olr m1.out m2.out).mono ?_
              rintro e w6 ⟨rfl, r6, g6⟩
              have l6 := Lib.hid (l5.out.grown g6 (by simp))
              have r6 := Lib.hid r6
              have b6 := b5.grown g6 (by omega) (fun j hj => by cases hj; omega)
              have z6 := g6.size
              clear l5 r5 b5 g6
              go_wp2_with fail
              refine (raise_is _ _ _ _ false _ l6.out mr.out rs.out).mono ?_
              rintro e w7 ⟨rfl, l7, g7⟩
              have r7 := Lib.hid (r6.out.grown g7 (by simp))
              have l7 := Lib.hid l7
              have b7 := b6.grown g7 (by omega) (fun j hj => by cases hj; omega)
              have z7 := g7.size
              clear l6 r6 b6 g7
              go_wp2_with fail
              refine (limit_any _ _ _ l7.out).mono ?_
              rintro e w8 ⟨rfl, rfl⟩
              go_wp2_with fail
              refine (limit_any _ _ _ r7.out).mono ?_
              rintro e w8 ⟨rfl, rfl⟩
              go_wp2_with fail
              refine (room_bel _ _ (L - (S + n)) _ l7.out ofin rfl).mono ?_
              rintro e w8 ⟨rfl, l8, g8⟩
              have r8 := Lib.hid (r7.out.grown g8 (by simp))
              have l8 := Lib.hid l8
              have b8 := b7.grown g8 (by omega) (fun j hj => by cases hj)
              have hroom : decide (L - (S + n) < W - W / 2) = false := by have := hm.out; simp; omega
              clear l7 r7 b7 g8 ofin
              have hm' := hm.out
              clear hroom hok
              go_wp2
              go_roundw
              case rel => exact ⟨k + 1, (S + n), (S + n), L, by omega, by go_num, rfl, rfl, by omega, by omega, by omega, by omega, by omega, by omega, l8, r8, b8⟩
              case measure => simp [intOf]; omega
        · have mt : Cr.mayTake ⟨W, L, S, 0⟩ n = false := by simp [Cr.mayTake]; omega
          have tk : Cr.take ⟨W, L, S, 0⟩ n = ⟨W, L, S, 0⟩ := by unfold Cr.take; rw [if_neg (by rw [mt]; simp)]
          have mt := Lib.hid mt
          have tk := Lib.hid tk
          go_wp2_with fail
          refine (low_r _ _ n _ hn (by omega) (by omega)).mono ?_
          rintro e w5 ⟨rfl, rfl⟩
          go_wp2_with fail
          refine (take_is _ _ _ n false _ l3.out ols mt.out tk.out).mono ?_
          rintro e w5 ⟨rfl, l5, g5⟩
          have r5 := Lib.hid (r3.out.grown g5 (by simp))
          have l5 := Lib.hid l5
          have b5 := b3.grown g5 (by omega) (fun j hj => by cases hj; omega)
          have z5 := g5.size
          have hc : w5.cell? ⟨ba, oa + k, none⟩ = some (.int .i64 y) := (b5.cell hb0).trans hc0.out
          clear l3 r3 b3 g5 ols
          cases od
          · obtain ⟨m1, m2⟩ := read_step (W := W) (L := L) (R := R) 0 R (by omega) (by omega)
            have olr : Cr.ok ⟨W, L, 0, R⟩ := ⟨by simp; omega, by simp; omega, by simp; omega, by simp; omega, by simp, by simp; omega, by simp; omega, by simp; omega⟩
            by_cases hm : L < R + W ∧ W / 2 ≤ R + W - L
            · have hb : (decide (L < R + W) && decide (W / 2 ≤ R + W - L)) = true := by simp [hm]
              rw [hb] at m1 m2
              rw [if_pos rfl] at m2
              have mr : Cr.mayRaise ⟨W, L, S, 0⟩ (R + W) = true := by simp [Cr.mayRaise]; omega
              have rs : Cr.raise ⟨W, L, S, 0⟩ (R + W) = ⟨W, R + W, S, 0⟩ := by unfold Cr.raise; rw [if_pos mr]
              have m1 := Lib.hid m1
              have m2 := Lib.hid m2
              have mr := Lib.hid mr
              have rs := Lib.hid rs
              have hm := Lib.hid hm
              have ofin : Cr.ok ⟨W, R + W, S, 0⟩ := ⟨by simp; omega, by simp; omega, by simp; omega, by simp; omega, by simp; omega, by simp; omega, by simp, by simp⟩
              clear hb
              go_wp2_with fail
              refine (read_is _ _ _ R true _ r5.out olr m1.out m2.out).mono ?_
              rintro e w6 ⟨rfl, r6, g6⟩
              have l6 := Lib.hid (l5.out.grown g6 (by simp))
              have r6 := Lib.hid r6
              have b6 := b5.grown g6 (by omega) (fun j hj => by cases hj; omega)
              have z6 := g6.size
              clear l5 r5 b5 g6
              go_wp2_with fail
              refine (raise_is _ _ _ _ true _ l6.out mr.out rs.out).mono ?_
              rintro e w7 ⟨rfl, l7, g7⟩
              have r7 := Lib.hid (r6.out.grown g7 (by simp))
              have l7 := Lib.hid l7
              have b7 := b6.grown g7 (by omega) (fun j hj => by cases hj; omega)
              have z7 := g7.size
              clear l6 r6 b6 g7
              go_wp2_with fail
              refine (limit_any _ _ _ l7.out).mono ?_
              rintro e w8 ⟨rfl, rfl⟩
              go_wp2_with fail
              refine (limit_any _ _ _ r7.out).mono ?_
              rintro e w8 ⟨rfl, rfl⟩
              by_cases heq : R = S
              · have heq' : (R == S) = true := by simpa using heq
                have heq'' := Lib.hid heq
                clear heq
                go_wp2_with fail
                refine (room_bel _ _ (R + W - S) _ l7.out ofin rfl).mono ?_
                rintro e w8 ⟨rfl, l8, g8⟩
                have r8 := Lib.hid (r7.out.grown g8 (by simp))
                have l8 := Lib.hid l8
                have b8 := b7.grown g8 (by omega) (fun j hj => by cases hj)
                have hroom : decide (R + W - S < W - W / 2) = false := by have := hm.out; have := heq''.out; simp; omega
                clear l7 r7 b7 g8 ofin
                have hm' := hm.out
                clear heq'
                go_wp2
                go_roundw
                case rel => exact ⟨k + 1, S, R, R + W, by omega, by go_num, rfl, rfl, by omega, by omega, by omega, by omega, by omega, by omega, l8, r8, b8⟩
                case measure => simp [intOf]; omega
              · have heq' : (R == S) = false := by simpa using heq
                have heq'' := Lib.hid heq
                clear heq
                have l8 := l7
                have r8 := r7
                have b8 := b7
                clear l7 r7 b7 ofin
                have hm' := hm.out
                clear heq'
                go_wp2
                go_roundw
                case rel => exact ⟨k + 1, S, R, R + W, by omega, by go_num, rfl, rfl, by omega, by omega, by omega, by omega, by omega, by omega, l8, r8, b8⟩
                case measure => simp [intOf]; omega
            · have hb : (decide (L < R + W) && decide (W / 2 ≤ R + W - L)) = false := by simp; omega
              rw [hb] at m1 m2
              rw [if_neg (by simp)] at m2
              have mr : Cr.mayRaise ⟨W, L, S, 0⟩ L = false := by simp [Cr.mayRaise]
              have rs : Cr.raise ⟨W, L, S, 0⟩ L = ⟨W, L, S, 0⟩ := by unfold Cr.raise; rw [if_neg (by rw [mr]; simp)]
              have m1 := Lib.hid m1
              have m2 := Lib.hid m2
              have mr := Lib.hid mr
              have rs := Lib.hid rs
              have hm := Lib.hid hm
              have ofin : Cr.ok ⟨W, L, S, 0⟩ := ⟨by simp; omega, by simp; omega, by simp; omega, by simp; omega, by simp; omega, by simp; omega, by simp, by simp⟩
              clear hb
              go_wp2_with fail
              refine (read_is _ _ _ R false _ r5.out olr m1.out m2.out).mono ?_
              rintro e w6 ⟨rfl, r6, g6⟩
              have l6 := Lib.hid (l5.out.grown g6 (by simp))
              have r6 := Lib.hid r6
              have b6 := b5.grown g6 (by omega) (fun j hj => by cases hj; omega)
              have z6 := g6.size
              clear l5 r5 b5 g6
              go_wp2_with fail
              refine (raise_is _ _ _ _ false _ l6.out mr.out rs.out).mono ?_
              rintro e w7 ⟨rfl, l7, g7⟩
              have r7 := Lib.hid (r6.out.grown g7 (by simp))
              have l7 := Lib.hid l7
              have b7 := b6.grown g7 (by omega) (fun j hj => by cases hj; omega)
              have z7 := g7.size
              clear l6 r6 b6 g7
              go_wp2_with fail
              refine (limit_any _ _ _ l7.out).mono ?_
              rintro e w8 ⟨rfl, rfl⟩
              go_wp2_with fail
              refine (limit_any _ _ _ r7.out).mono ?_
              rintro e w8 ⟨rfl, rfl⟩
              by_cases heq : R = S
              · have heq' : (R == S) = true := by simpa using heq
                have heq'' := Lib.hid heq
                clear heq
                go_wp2_with fail
                refine (room_bel _ _ (L - S) _ l7.out ofin rfl).mono ?_
                rintro e w8 ⟨rfl, l8, g8⟩
                have r8 := Lib.hid (r7.out.grown g8 (by simp))
                have l8 := Lib.hid l8
                have b8 := b7.grown g8 (by omega) (fun j hj => by cases hj)
                have hroom : decide (L - S < W - W / 2) = false := by have := hm.out; have := heq''.out; simp; omega
                clear l7 r7 b7 g8 ofin
                have hm' := hm.out
                clear heq'
                go_wp2
                go_roundw
                case rel => exact ⟨k + 1, S, R, L, by omega, by go_num, rfl, rfl, by omega, by omega, by omega, by omega, by omega, by omega, l8, r8, b8⟩
                case measure => simp [intOf]; omega
              · have heq' : (R == S) = false := by simpa using heq
                have heq'' := Lib.hid heq
                clear heq
                have l8 := l7
                have r8 := r7
                have b8 := b7
                clear l7 r7 b7 ofin
                have hm' := hm.out
                clear heq'
                go_wp2
                go_roundw
                case rel => exact ⟨k + 1, S, R, L, by omega, by go_num, rfl, rfl, by omega, by omega, by omega, by omega, by omega, by omega, l8, r8, b8⟩
                case measure => simp [intOf]; omega
          · obtain ⟨m1, m2⟩ := read_step (W := W) (L := L) (R := R) 0 S (by omega) (by omega)
            have olr : Cr.ok ⟨W, L, 0, R⟩ := ⟨by simp; omega, by simp; omega, by simp; omega, by simp; omega, by simp, by simp; omega, by simp; omega, by simp; omega⟩
            by_cases hm : L < S + W ∧ W / 2 ≤ S + W - L
            · have hb : (decide (L < S + W) && decide (W / 2 ≤ S + W - L)) = true := by simp [hm]
              rw [hb] at m1 m2
              rw [if_pos rfl] at m2
              have mr : Cr.mayRaise ⟨W, L, S, 0⟩ (S + W) = true := by simp [Cr.mayRaise]; omega
              have rs : Cr.raise ⟨W, L, S, 0⟩ (S + W) = ⟨W, S + W, S, 0⟩ := by unfold Cr.raise; rw [if_pos mr]
              have m1 := Lib.hid m1
              have m2 := Lib.hid m2
              have mr := Lib.hid mr
              have rs := Lib.hid rs
              have hm := Lib.hid hm
              have ofin : Cr.ok ⟨W, S + W, S, 0⟩ := ⟨by simp; omega, by simp; omega, by simp; omega, by simp; omega, by simp; omega, by simp; omega, by simp, by simp⟩
              clear hb
              go_wp2_with fail
              refine (read_is _ _ _ S true _ r5.out olr m1.out m2.out).mono ?_
              rintro e w6 ⟨rfl, r6, g6⟩
              have l6 := Lib.hid (l5.out.grown g6 (by simp))
              have r6 := Lib.hid r6
              have b6 := b5.grown g6 (by omega) (fun j hj => by cases hj; omega)
              have z6 := g6.size
              clear l5 r5 b5 g6
              go_wp2_with fail
              refine (raise_is _ _ _ _ true _ l6.out mr.out rs.out).mono ?_
              rintro e w7 ⟨rfl, l7, g7⟩
              have r7 := Lib.hid (r6.out.grown g7 (by simp))
              have l7 := Lib.hid l7
              have b7 := b6.grown g7 (by omega) (fun j hj => by cases hj; omega)
              have z7 := g7.size
              clear l6 r6 b6 g7
              go_wp2_with fail
              refine (limit_any _ _ _ l7.out).mono ?_
              rintro e w8 ⟨rfl, rfl⟩
              go_wp2_with fail
              refine (limit_any _ _ _ r7.out).mono ?_
              rintro e w8 ⟨rfl, rfl⟩
              go_wp2_with fail
              refine (room_bel _ _ (S + W - S) _ l7.out ofin rfl).mono ?_
              rintro e w8 ⟨rfl, l8, g8⟩
              have r8 := Lib.hid (r7.out.grown g8 (by simp))
              have l8 := Lib.hid l8
              have b8 := b7.grown g8 (by omega) (fun j hj => by cases hj)
              have hroom : decide (S + W - S < W - W / 2) = false := by have := hm.out; simp; omega
              clear l7 r7 b7 g8 ofin
              have hm' := hm.out
              clear hroom 
              go_wp2
              go_roundw
              case rel => exact ⟨k + 1, S, S, S + W, by omega, by go_num, rfl, rfl, by omega, by omega, by omega, by omega, by omega, by omega, l8, r8, b8⟩
              case measure => simp [intOf]; omega
            · have hb : (decide (L < S + W) && decide (W / 2 ≤ S + W - L)) = false := by simp; omega
              rw [hb] at m1 m2
              rw [if_neg (by simp)] at m2
              have mr : Cr.mayRaise ⟨W, L, S, 0⟩ L = false := by simp [Cr.mayRaise]
              have rs : Cr.raise ⟨W, L, S, 0⟩ L = ⟨W, L, S, 0⟩ := by unfold Cr.raise; rw [if_neg (by rw [mr]; simp)]
              have m1 := Lib.hid m1
              have m2 := Lib.hid m2
              have mr := Lib.hid mr
              have rs := Lib.hid rs
              have hm := Lib.hid hm
              have ofin : Cr.ok ⟨W, L, S, 0⟩ := ⟨by simp; omega, by simp; omega, by simp; omega, by simp; omega, by simp; omega, by simp; omega, by simp, by simp⟩
              clear hb
              go_wp2_with fail
              refine (read_is _ _ _ S false _ r5.out olr m1.out m2.out).mono ?_
              rintro e w6 ⟨rfl, r6, g6⟩
              have l6 := Lib.hid (l5.out.grown g6 (by simp))
              have r6 := Lib.hid r6
              have b6 := b5.grown g6 (by omega) (fun j hj => by cases hj; omega)
              have z6 := g6.size
              clear l5 r5 b5 g6
              go_wp2_with fail
              refine (raise_is _ _ _ _ false _ l6.out mr.out rs.out).mono ?_
              rintro e w7 ⟨rfl, l7, g7⟩
              have r7 := Lib.hid (r6.out.grown g7 (by simp))
              have l7 := Lib.hid l7
              have b7 := b6.grown g7 (by omega) (fun j hj => by cases hj; omega)
              have z7 := g7.size
              clear l6 r6 b6 g7
              go_wp2_with fail
              refine (limit_any _ _ _ l7.out).mono ?_
              rintro e w8 ⟨rfl, rfl⟩
              go_wp2_with fail
              refine (limit_any _ _ _ r7.out).mono ?_
              rintro e w8 ⟨rfl, rfl⟩
              go_wp2_with fail
              refine (room_bel _ _ (L - S) _ l7.out ofin rfl).mono ?_
              rintro e w8 ⟨rfl, l8, g8⟩
              have r8 := Lib.hid (r7.out.grown g8 (by simp))
              have l8 := Lib.hid l8
              have b8 := b7.grown g8 (by omega) (fun j hj => by cases hj)
              have hroom : decide (L - S < W - W / 2) = false := by have := hm.out; simp; omega
              clear l7 r7 b7 g8 ofin
              have hm' := hm.out
              clear hroom 
              go_wp2
              go_roundw
              case rel => exact ⟨k + 1, S, S, L, by omega, by go_num, rfl, rfl, by omega, by omega, by omega, by omega, by omega, by omega, l8, r8, b8⟩
              case measure => simp [intOf]; omega
      · have z4 := b3.size
        go_wp2_with fail
        refine (awake_any _).mono ?_
        rintro e w6 ⟨rfl, b6⟩
        have b6' := b3.trans (b6.mono (by omega))
        clear b3 b6
        go_wp2
        go_ret
        exact ⟨rfl, b6'⟩

end Go.Proofs.Ytamhoglfdfbgpaa
