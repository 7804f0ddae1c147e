/- The walk of the law CreditScript. -/
import Derived.Test.YtamhoglfdfbgpaaE
namespace Go.Proofs.Ytamhoglfdfbgpaa
open Go.RowKit

theorem quiet_left {P : Program} {f : FuncId} {args : Array Value} {w : World} {n : Nat} {v : Value}
    (h : Calls P f args (w.drewN n) fun e w' => e = .returned v ∧ w.drewN n = w') : Calls P f args (w.drewN n) fun e w'' => e = .returned v ∧ ∃ m, w'' = w.drewN m :=
  h.mono fun _ _ ⟨he, hm⟩ => ⟨he, n, hm.symm⟩

set_option maxHeartbeats 1600000 in
set_option maxRecDepth 100000 in
theorem script_any (window : Int) (ad : Option Addr) (len cap : Nat) (D A : Nat → Int) (w : World) (hl : len ≤ 9223372036854775807) (ba oa : Nat)
    (hca : Hid (∀ i, i < len → ad = some ⟨ba, oa, none⟩ ∧ w.cell? ⟨ba, oa + i * 2, none⟩ = some (.int .i64 (D i)) ∧ w.cell? ⟨ba, oa + i * 2 + 1, none⟩ = some (.int .i64 (A i)))) :
    Calls Try.prog 3 #[.int .i64 window, .slice ad len cap] w fun e w' => e = .returned (.bool true) ∧ Below w.heap.size w w' := by
  by_cases h60 : 60 < len
  · go_enter Try.func3, Try.ntmps3
    go_wp2_with fail
    refine (awake_any _).mono ?_
    rintro e w1 ⟨rfl, b1⟩
    go_wp2
    go_ret
    exact ⟨rfl, b1⟩
  by_cases hw : window < 1 ∨ 1048576 < window
  · go_enter Try.func3, Try.ntmps3
    go_wp2_with fail
    refine (new_no _ _ hw).mono ?_
    rintro e w1 ⟨rfl, rfl⟩
    go_wp2_with fail
    refine (refNew_no _ _ hw).mono ?_
    rintro e w1 ⟨rfl, rfl⟩
    go_wp2_with fail
    refine (take_nil _ _).mono ?_
    rintro e w1 ⟨rfl, rfl⟩
    go_wp2_with fail
    refine (room_nil _).mono ?_
    rintro e w1 ⟨rfl, rfl⟩
    go_wp2_with fail
    refine (raise_nil _ _).mono ?_
    rintro e w1 ⟨rfl, rfl⟩
    go_wp2_with fail
    refine (awake_any _).mono ?_
    rintro e w1 ⟨rfl, b1⟩
    go_wp2
    go_ret
    exact ⟨rfl, b1⟩
  · have hw1 : 1 ≤ window := by omega
    have hw2 : window ≤ 1048576 := by omega
    clear hw
    go_enter Try.func3, Try.ntmps3
    go_wp2_with fail
    refine (new_any window _ hw1 hw2).mono ?_
    rintro e w1 ⟨rfl, l1, b1, s1⟩
    go_wp2_with fail
    refine (refNew_any window _ hw1 hw2).mono ?_
    rintro e w2 ⟨rfl, r2, b2, s2⟩
    have l2 := Lib.hid (l1.below b2 l1.lt)
    have b2' := b1.trans (b2.mono (by omega))
    rw [s1] at r2 s2 ⊢
    have r2 := Lib.hid r2
    clear l1 b1 b2 s1
    go_wp2_with fail
    go_loopw [7] (fun i wr => ∃ (k : Nat) (c : Cr), k ≤ len ∧ i = .int .i64 k ∧ c.ok ∧ Hid (CrAt 42 wr w.heap.size c) ∧ Hid (CrAt 35 wr (w.heap.size + 1) c) ∧ Below w.heap.size w wr) (fun i _ => len - (intOf i).toNat)
    case atStart => exact ⟨0, Cr.start window, by omega, rfl, start_ok hw1 hw2, l2, r2, b2'⟩
    case round =>
      obtain ⟨k, c, hk, rfl, hok, l3, r3, b3⟩ := hrel
      clear l2 r2 b2' s2
      by_cases hlt : k < len
      · obtain ⟨rfl, hd, hc⟩ := hca.out k hlt
        obtain ⟨x, hx⟩ := name_it (D k)
        obtain ⟨n, hn⟩ := name_it (A k)
        rw [← hx.out] at hd
        rw [← hn.out] at hc
        have hb0 : ba < w.heap.size := cell_lt hd
        have hd : wr.cell? ⟨ba, oa + k * 2, none⟩ = some (.int .i64 x) := (b3.cell hb0).trans hd
        have hc : wr.cell? ⟨ba, oa + k * 2 + 1, none⟩ = some (.int .i64 n) := (b3.cell hb0).trans hc
        by_cases h0 : x = 0
        · subst h0
          go_wp2_with fail
          refine (take_any _ _ n _ l3.out hok).mono ?_
          rintro e w4 ⟨rfl, l4, g4⟩
          have s3 := r3.out.lt
          have r4 : CrAt 35 w4 (w.heap.size + 1) c := r3.out.grown g4 (by simp)
          have b4 := b3.grown g4 (by omega) (fun j hj => by cases hj; omega)
          have s4 := g4.size
          have l4 := Lib.hid l4
          have r4 := Lib.hid r4
          clear l3 r3 b3 g4 hc hd
          go_wp2_with fail
          refine (refTake_any _ _ n _ r4.out hok).mono ?_
          rintro e w5 ⟨rfl, r5, g5⟩
          have hok6 := Lib.hid (take_ok hok n)
          have l5 : CrAt 42 w5 w.heap.size (c.take n) := l4.out.grown g5 (by simp)
          have b6 := b4.grown g5 (by omega) (fun j hj => by cases hj; omega)
          have l6 := Lib.hid l5
          have r6 := Lib.hid r5
          clear l4 r4 b4 g5 l5 r5
          obtain ⟨c', hc'⟩ := name_it (c.take n)
          rw [← hc'.out] at l6 r6 hok6
          have s6 := b6.size
          have hm0 : Hid (c'.l - c'.t = c'.l - c'.t) := rfl
          obtain ⟨q1, q2, q3, q4, q5, q6, q7, q8⟩ := hok6.out
          have wr0 : IntKind.i64.wrap (c'.l - c'.t) = c'.l - c'.t := IntWalk.i64_in _ ⟨by omega, by omega⟩
          have d1 : w5.cell? ⟨w.heap.size + 1, 1, none⟩ = some (.int .i64 c'.l) := r6.out.c1
          have d2 : w5.cell? ⟨w.heap.size + 1, 2, none⟩ = some (.int .i64 c'.t) := r6.out.c2
          go_wp2_with fail
          go_quiet ((first
            | (go_at_call 17; exact quiet_left (limit_any _ _ _ (by exact l6.out)))
            | (go_at_call 11; exact Calls.quiet_of (room_any _ _ _ (by exact l6.out) hok6.out))))
          go_wp2
          go_roundw
          case rel => exact ⟨k + 1, c', by omega, by go_num, hok6.out, l6, r6, below_drewN b6 _⟩
          case measure => simp [intOf]; omega
        by_cases h1 : x = 1
        · subst h1
          go_wp2_with fail
          refine (raise_any _ _ n _ l3.out).mono ?_
          rintro e w4 ⟨rfl, l4, g4⟩
          have s3 := r3.out.lt
          have r4 : CrAt 35 w4 (w.heap.size + 1) c := r3.out.grown g4 (by simp)
          have b4 := b3.grown g4 (by omega) (fun j hj => by cases hj; omega)
          have s4 := g4.size
          have l4 := Lib.hid l4
          have r4 := Lib.hid r4
          clear l3 r3 b3 g4 hc hd
          go_wp2_with fail
          refine (refRaise_any _ _ n _ r4.out).mono ?_
          rintro e w5 ⟨rfl, r5, g5⟩
          have hok6 := Lib.hid (raise_ok hok n)
          have l5 : CrAt 42 w5 w.heap.size (c.raise n) := l4.out.grown g5 (by simp)
          have b6 := b4.grown g5 (by omega) (fun j hj => by cases hj; omega)
          have l6 := Lib.hid l5
          have r6 := Lib.hid r5
          clear l4 r4 b4 g5 l5 r5
          obtain ⟨c', hc'⟩ := name_it (c.raise n)
          rw [← hc'.out] at l6 r6 hok6
          have s6 := b6.size
          have hm0 : Hid (c'.l - c'.t = c'.l - c'.t) := rfl
          obtain ⟨q1, q2, q3, q4, q5, q6, q7, q8⟩ := hok6.out
          have wr0 : IntKind.i64.wrap (c'.l - c'.t) = c'.l - c'.t := IntWalk.i64_in _ ⟨by omega, by omega⟩
          have d1 : w5.cell? ⟨w.heap.size + 1, 1, none⟩ = some (.int .i64 c'.l) := r6.out.c1
          have d2 : w5.cell? ⟨w.heap.size + 1, 2, none⟩ = some (.int .i64 c'.t) := r6.out.c2
          go_wp2_with fail
          go_quiet ((first
            | (go_at_call 17; exact quiet_left (limit_any _ _ _ (by exact l6.out)))
            | (go_at_call 11; exact Calls.quiet_of (room_any _ _ _ (by exact l6.out) hok6.out))))
          go_wp2
          go_roundw
          case rel => exact ⟨k + 1, c', by omega, by go_num, hok6.out, l6, r6, below_drewN b6 _⟩
          case measure => simp [intOf]; omega
        by_cases h2 : x = 2
        · subst h2
          go_wp2_with fail
          refine (read_any _ _ n _ l3.out hok).mono ?_
          rintro e w4 ⟨rfl, l4, g4⟩
          have s3 := r3.out.lt
          have r4 : CrAt 35 w4 (w.heap.size + 1) c := r3.out.grown g4 (by simp)
          have b4 := b3.grown g4 (by omega) (fun j hj => by cases hj; omega)
          have s4 := g4.size
          have l4 := Lib.hid l4
          have r4 := Lib.hid r4
          clear l3 r3 b3 g4 hc hd
          go_wp2_with fail
          refine (refRead_any _ _ n _ r4.out hok).mono ?_
          rintro e w5 ⟨rfl, r5, g5⟩
          have hok6 := Lib.hid (read_ok hok n)
          have l5 : CrAt 42 w5 w.heap.size (c.read n) := l4.out.grown g5 (by simp)
          have b6 := b4.grown g5 (by omega) (fun j hj => by cases hj; omega)
          have l6 := Lib.hid l5
          have r6 := Lib.hid r5
          clear l4 r4 b4 g5 l5 r5
          obtain ⟨c', hc'⟩ := name_it (c.read n)
          rw [← hc'.out] at l6 r6 hok6
          have s6 := b6.size
          have hm0 : Hid (c'.l - c'.t = c'.l - c'.t) := rfl
          obtain ⟨q1, q2, q3, q4, q5, q6, q7, q8⟩ := hok6.out
          have wr0 : IntKind.i64.wrap (c'.l - c'.t) = c'.l - c'.t := IntWalk.i64_in _ ⟨by omega, by omega⟩
          have d1 : w5.cell? ⟨w.heap.size + 1, 1, none⟩ = some (.int .i64 c'.l) := r6.out.c1
          have d2 : w5.cell? ⟨w.heap.size + 1, 2, none⟩ = some (.int .i64 c'.t) := r6.out.c2
          go_wp2_with fail
          go_quiet ((first
            | (go_at_call 17; exact quiet_left (limit_any _ _ _ (by exact l6.out)))
            | (go_at_call 11; exact Calls.quiet_of (room_any _ _ _ (by exact l6.out) hok6.out))))
          go_wp2
          go_roundw
          case rel => exact ⟨k + 1, c', by omega, by go_num, hok6.out, l6, r6, below_drewN b6 _⟩
          case measure => simp [intOf]; omega
        · have hok6 := Lib.hid hok
          have l6 := l3
          have r6 := r3
          have b6 := b3
          have s6 := b6.size
          have hm0 : Hid (c.l - c.t = c.l - c.t) := rfl
          obtain ⟨q1, q2, q3, q4, q5, q6, q7, q8⟩ := hok6.out
          have wr0 : IntKind.i64.wrap (c.l - c.t) = c.l - c.t := IntWalk.i64_in _ ⟨by omega, by omega⟩
          have d1 : wr.cell? ⟨w.heap.size + 1, 1, none⟩ = some (.int .i64 c.l) := r6.out.c1
          have d2 : wr.cell? ⟨w.heap.size + 1, 2, none⟩ = some (.int .i64 c.t) := r6.out.c2
          go_wp2_with fail
          go_quiet ((first
            | (go_at_call 17; exact quiet_left (limit_any _ _ _ (by exact l6.out)))
            | (go_at_call 11; exact Calls.quiet_of (room_any _ _ _ (by exact l6.out) hok6.out))))
          go_wp2
          go_roundw
          case rel => exact ⟨k + 1, c, by omega, by go_num, hok6.out, l6, r6, below_drewN b6 _⟩
          case measure => simp [intOf]; omega
      · have s3 := b3.size
        go_wp2_with fail
        refine (awake_any _).mono ?_
        rintro e w6 ⟨rfl, b6⟩
        have b6' := b3.trans (b6.mono (by omega))
        clear b3 b6
        go_wp2
        go_ret
        exact ⟨rfl, b6'⟩

end Go.Proofs.Ytamhoglfdfbgpaa
