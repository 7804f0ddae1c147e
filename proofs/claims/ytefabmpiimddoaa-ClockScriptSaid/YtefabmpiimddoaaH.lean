/- The walk of the law ClockScript. -/
import Derived.Test.YtefabmpiimddoaaE
import Derived.StillTailTactics
namespace Go.Proofs.Ytefabmpiimddoaa
open Go.RowKit

theorem quiet_left {P : Program} {f : FuncId} {args : Array Value} {w : World} {n : Nat} {v : Value}
    (h : Calls P f args (w.drewN n) fun e w' => e = .returned v ∧ w.drewN n = w') : Calls P f args (w.drewN n) fun e w'' => e = .returned v ∧ ∃ m, w'' = w.drewN m :=
  h.mono fun _ _ ⟨he, hm⟩ => ⟨he, n, hm.symm⟩

set_option maxHeartbeats 800000 in
set_option maxRecDepth 100000 in
theorem script_any (t : Int) (u v : Value) (xs ys : List Int) (w : World) (hu : NumsAt .i64 w u xs) (hv : NumsAt .i64 w v ys) :
    Calls Try.prog 3 #[u, v, .int .i64 t] w fun e w' => e = .returned (.bool true) ∧ Below w.heap.size w w' := by
  obtain ⟨ad, ca, hu0, hl, ba, oa, hca⟩ := hu.form
  obtain ⟨bd, cb, hv0, hm, bb, ob, hcb⟩ := hv.form
  subst hu0
  subst hv0
  by_cases h60 : 60 < xs.length
  · go_enter Try.func3, Try.ntmps3
    go_wp2_with fail
    refine (awake_any _).mono ?_
    rintro e w1 ⟨rfl, b1⟩
    go_wp2
    go_ret
    exact ⟨rfl, b1⟩
  by_cases h60' : 60 < ys.length
  · go_enter Try.func3, Try.ntmps3
    go_wp2_with fail
    refine (awake_any _).mono ?_
    rintro e w1 ⟨rfl, b1⟩
    go_wp2
    go_ret
    exact ⟨rfl, b1⟩
  · go_enter Try.func3, Try.ntmps3
    go_wp2_with fail
    refine (new_any _).mono ?_
    rintro e w1 ⟨rfl, l1, b1, s1⟩
    go_wp2_with fail
    refine (refNew_any _).mono ?_
    rintro e w2 ⟨rfl, r2, b2, s2⟩
    have l2 := Lib.hid (l1.below b2 l1.lt)
    have b2' := b1.trans (b2.mono (by omega))
    rw [s1] at r2 s2 ⊢
    have r2 := Lib.hid r2
    clear l1 b1 b2 s1
    go_wp2_with fail
    go_loopw [9] (fun i wr => ∃ (k n : Nat) (c : Clk), k ≤ xs.length ∧ k ≤ ys.length ∧ n ≤ k ∧ i = .int .i64 k ∧ c.ok ∧ Hid (ClkAt wr w.heap.size c) ∧ Hid (RefAt wr (w.heap.size + 1) c n) ∧ Below w.heap.size w wr) (fun i _ => xs.length - (intOf i).toNat)
    case atStart => exact ⟨0, 0, Clk.start, by omega, by omega, by omega, rfl, start_ok, l2, r2, b2'⟩
    case round =>
      obtain ⟨k, n, c, hk, hk2, hn, rfl, hok, l3, r3, b3⟩ := hrel
      clear l2 r2 b2' s2
      by_cases hlt : k < xs.length
      · by_cases hlt2 : k < ys.length
        · obtain ⟨rfl, hc⟩ := hca.out k hlt
          obtain ⟨rfl, hd⟩ := hcb.out k hlt2
          obtain ⟨x, hx⟩ := name_it (xs.getD k 0)
          obtain ⟨y, hy⟩ := name_it (ys.getD k 0)
          rw [← hx.out] at hc
          rw [← hy.out] at hd
          have hb0 : ba < w.heap.size := cell_lt hc
          have hb1 : bb < w.heap.size := cell_lt hd
          have hc0 := Lib.hid hc
          have hd0 := Lib.hid hd
          have hc : wr.cell? ⟨ba, oa + k, none⟩ = some (.int .i64 x) := (b3.cell hb0).trans hc
          have hd : wr.cell? ⟨bb, ob + k, none⟩ = some (.int .i64 y) := (b3.cell hb1).trans hd
          go_wp2_with fail
          go_still_tail 9, (by kernel_rfl)
          change wpList _ _ _ _ _ wr.drew
          have l3' := Lib.hid (show ClkAt wr.drew w.heap.size c from l3.out)
          have r3' := Lib.hid (show RefAt wr.drew (w.heap.size + 1) c n from r3.out)
          have b3' := b3.drew
          generalize wr.drew = w3 at l3' r3' b3' ⊢
          clear l3 r3 b3 hc hd
          go_wp2_with fail
          refine (sample_any _ _ x y _ l3'.out hok).mono ?_
          rintro e w4 ⟨rfl, l4, g4⟩
          have hok' := told_ok hok x y
          obtain ⟨c', hc'⟩ := name_it (c.told x y)
          rw [← hc'.out] at l4 hok'
          have s3 := r3'.out.lt
          have r4 : RefAt w4 (w.heap.size + 1) c n := ⟨(g4.block (w.heap.size + 1) s3 (by simp)).trans r3'.out.1, r3'.out.2⟩
          have b4 := b3'.grown g4 (by omega) (fun j hj => by cases hj; omega)
          have s4 := g4.size
          have l4 := Lib.hid l4
          have r4 := Lib.hid r4
          have hc : w4.cell? ⟨ba, oa + k, none⟩ = some (.int .i64 x) := (b4.cell hb0).trans hc0.out
          have hd : w4.cell? ⟨bb, ob + k, none⟩ = some (.int .i64 y) := (b4.cell hb1).trans hd0.out
          clear l3' r3' b3' g4
          go_wp2_with fail
          go_still_tail 9, (by kernel_rfl)
          change wpList _ _ _ _ _ w4.drew
          have l5 := Lib.hid (show ClkAt w4.drew w.heap.size c' from l4.out)
          have r5 := Lib.hid (show RefAt w4.drew (w.heap.size + 1) c n from r4.out)
          have b5 := b4.drew
          have s5 : w4.heap.size ≤ w4.drew.heap.size := Nat.le_refl _
          generalize w4.drew = w5 at l5 r5 b5 s5 ⊢
          clear l4 r4 b4 hc hd
          go_wp2_with fail
          refine (refSample_any _ _ n x y _ r5.out hok (by omega)).mono ?_
          rintro e w6 ⟨rfl, ⟨n', hn', r6⟩, g6⟩
          rw [← hc'.out] at r6
          have l6 : ClkAt w6 w.heap.size c' := (g6.block w.heap.size (by omega) (by simp)).trans l5.out
          have b6 := b5.grown g6 (by omega) (fun j hj => by cases hj; omega)
          have s6 := g6.size
          have l6 := Lib.hid l6
          have r6 := Lib.hid r6
          have hok' := Lib.hid hok'
          have c61 := Lib.hid r6.out.1
          have d0 : w6.cell? ⟨w.heap.size + 1, 0, none⟩ = some (.int .i64 c'.s) := by simp [World.cell?, c61.out]
          have d1 : w6.cell? ⟨w.heap.size + 1, 1, none⟩ = some (.int .i64 c'.v) := by simp [World.cell?, c61.out]
          have d2 : w6.cell? ⟨w.heap.size + 1, 2, none⟩ = some (.int .i64 c'.l) := by simp [World.cell?, c61.out]
          clear l5 r5 b5 g6 hok
          go_wp2_with fail
          go_quiet ((first
            | (go_at_call 12; exact quiet_left (smoothed_any _ _ _ (by exact l6.out)))
            | (go_at_call 13; exact quiet_left (varies_any _ _ _ (by exact l6.out)))
            | (go_at_call 14; exact quiet_left (least_any _ _ _ (by exact l6.out)))
            | (go_at_call 15; exact Calls.quiet_of (pto_any _ _ _ _ (by exact l6.out) hok'.out))
            | (go_at_call 16; exact Calls.quiet_of (refPto_any _ _ _ _ _ (by exact r6.out) hok'.out))))
          go_wp2
          go_roundw
          case rel => exact ⟨k + 1, n', c', by omega, by omega, by omega, by go_num, hok'.out, l6, r6, below_drewN b6 _⟩
          case measure => simp [intOf]; omega
        · go_wp2_with fail
          refine (sample_nil 1 1 _).mono ?_
          rintro e w4 ⟨rfl, rfl⟩
          go_wp2_with fail
          refine (pto_nil 1 _).mono ?_
          rintro e w4 ⟨rfl, rfl⟩
          go_wp2_with fail
          refine (smoothed_nil _).mono ?_
          rintro e w4 ⟨rfl, rfl⟩
          have s3 := b3.size
          go_wp2_with fail
          refine (awake_any _).mono ?_
          rintro e w6 ⟨rfl, b6⟩
          have b6' := b3.trans (b6.mono (by omega))
          clear b3 b6
          go_wp2
          go_ret
          exact ⟨rfl, b6'⟩
      · go_wp2_with fail
        refine (sample_nil 1 1 _).mono ?_
        rintro e w4 ⟨rfl, rfl⟩
        go_wp2_with fail
        refine (pto_nil 1 _).mono ?_
        rintro e w4 ⟨rfl, rfl⟩
        go_wp2_with fail
        refine (smoothed_nil _).mono ?_
        rintro e w4 ⟨rfl, rfl⟩
        have s3 := b3.size
        go_wp2_with fail
        refine (awake_any _).mono ?_
        rintro e w6 ⟨rfl, b6⟩
        have b6' := b3.trans (b6.mono (by omega))
        clear b3 b6
        go_wp2
        go_ret
        exact ⟨rfl, b6'⟩

end Go.Proofs.Ytefabmpiimddoaa
