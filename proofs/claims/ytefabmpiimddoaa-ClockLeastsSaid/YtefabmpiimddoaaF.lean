/- The walk of the law ClockLeasts. -/
import Derived.Test.YtefabmpiimddoaaE
namespace Go.Proofs.Ytefabmpiimddoaa
open Go.RowKit

set_option maxHeartbeats 4000000 in
set_option maxRecDepth 100000 in
theorem leasts_any (u : Value) (xs : List Int) (w : World) (hu : NumsAt .i64 w u xs) (hwx : Hid (∀ x ∈ xs, In64 x)) :
    Calls Try.prog 6 #[u] w fun e w' => e = .returned (.bool true) ∧ Below w.heap.size w w' := by
  obtain ⟨ad, ca, hu0, hl, ba, oa, hca⟩ := hu.form
  subst hu0
  by_cases h30 : 30 < xs.length
  · go_enter Try.func6, Try.ntmps6
    go_wp2_with fail
    refine (awake_any _).mono ?_
    rintro e w1 ⟨rfl, b1⟩
    go_wp2
    go_ret
    exact ⟨rfl, b1⟩
  · go_enter Try.func6, Try.ntmps6
    go_wp2_with fail
    refine (new_any _).mono ?_
    rintro e w1 ⟨rfl, l1, b1, s1⟩
    have l1 := Lib.hid l1
    go_wp2_with fail
    go_loopw [6, 4, 5] (fun i v z wr => ∃ (k : Nat) (x m : Int) (c : Clk), k ≤ xs.length ∧ i = .int .i64 k ∧ v = .int .i64 x ∧ z = .int .i64 m ∧ 0 ≤ x ∧ x ≤ m ∧ m ≤ 10000 ∧ Hid (ClkAt wr w.heap.size c) ∧ Hid ((k = 0 → c = Clk.start) ∧ (1 ≤ k → c.within x m)) ∧ Below w.heap.size w wr) (fun i _ _ _ => xs.length - (intOf i).toNat)
    case atStart => exact ⟨0, 0, 0, Clk.start, by omega, rfl, rfl, rfl, by omega, by omega, by omega, l1, ⟨fun _ => rfl, by omega⟩, b1⟩
    case round =>
      obtain ⟨k, x, m, c, hk, rfl, rfl, rfl, hx1, hxm, hm1, l2, hkc, b2⟩ := hrel
      have s2 := l2.out.lt
      clear l1 b1 s1
      by_cases hlt : k < xs.length
      · obtain ⟨rfl, hc⟩ := hca.out k hlt
        obtain ⟨y, hy⟩ := name_it (xs.getD k 0)
        rw [← hy.out] at hc
        have hy1 := hwx.out y (by rw [hy.out]; exact getD_mem hlt)
        obtain ⟨hy1, hy2⟩ := hy1
        have hb0 : ba < w.heap.size := cell_lt hc
        have hc0 : wr.cell? ⟨ba, oa + k, none⟩ = some (.int .i64 y) := (b2.cell hb0).trans hc
        have hcc : Hid (∀ w', Below w.heap.size w w' → w'.cell? ⟨ba, oa + k, none⟩ = some (.int .i64 y)) := fun w' hb => (hb.cell hb0).trans hc
        clear hc
        obtain ⟨n, hn, hn1, hn2⟩ := low_name y 10001 (by omega)
        obtain ⟨dl, hdl, hdl1, hdl2⟩ := low_name (y.tdiv 7) 60 (by omega)
        by_cases hk0 : k = 0
        · subst hk0
          obtain rfl := hkc.out.1 rfl
          have hok := start_ok
          have hW := Lib.hid (within_first n dl hn1 (by omega) hdl1)
          obtain ⟨c, hcs⟩ := name_it Clk.start
          rw [← hcs.out] at l2 hok hW
          have hc00 : wr.cell? ⟨ba, oa, none⟩ = some (.int .i64 y) := hc0
          clear hc0
          obtain ⟨c', hc'⟩ := name_it (c.told n dl)
          rw [← hc'.out] at hW
          have hok' := Lib.hid hW.out.ok
          obtain ⟨a0, ha0, ha01, ha02⟩ := pto_r c' 0
          obtain ⟨a1, ha1, ha11, ha12⟩ := pto_r c' 1
          obtain ⟨a3, ha3, ha31, ha32⟩ := pto_r c' 3
          have ha : a0 ≤ a1 := by rw [← ha0.out, ← ha1.out]; exact pto_mono c' (by omega)
          obtain ⟨gs, hgs⟩ := name_it c'.s
          obtain ⟨gv, hgv⟩ := name_it c'.v
          have g1 : gs ≤ n := by rw [hgs.out]; exact hW.out.s1
          have g2 : n - 7 ≤ gs := by rw [hgs.out]; exact hW.out.s2
          have g0 : 0 ≤ gs := by rw [hgs.out]; exact hW.out.s0
          have g3 : 0 ≤ gv := by rw [hgv.out]; exact hW.out.v0
          have g4 : gv ≤ n := by rw [hgv.out]; exact hW.out.v1
          have hgl := Lib.hid hW.out.l
          have to1 := Lib.hid (told_out c' (-1 - n) 0 (by omega))
          have to2 := Lib.hid (told_out c' (n + 1048576 + 1) 0 (by omega))
          have to3 := Lib.hid (told_out c' n (-1 - n) (by omega))
          go_wp2_with fail
          refine (low_r _ _ n _ hn (by omega) (by omega)).mono ?_
          rintro e w3 ⟨rfl, rfl⟩
          go_wp2_with fail
          refine (low_r _ _ dl _ hdl (by omega) (by omega)).mono ?_
          rintro e w3 ⟨rfl, rfl⟩
          go_wp2_with fail
          refine (sample_any _ _ n dl _ l2.out hok).mono ?_
          rintro e w3 ⟨rfl, l3, g3'⟩
          rw [← hc'.out] at l3
          have b3 := b2.grown g3' (by omega) (fun j hj => by cases hj; omega)
          have s3 := g3'.size
          clear l2 hkc b2 g3' hok
          go_wp2_with fail
          refine (sample_any _ _ _ 0 _ l3 hok'.out).mono ?_
          rintro e w4 ⟨rfl, l4, g4'⟩
          rw [to1.out] at l4
          have b4 := b3.grown g4' (by omega) (fun j hj => by cases hj; omega)
          have s4 := g4'.size
          clear l3 b3 g4'
          go_wp2_with fail
          refine (sample_any _ _ _ 0 _ l4 hok'.out).mono ?_
          rintro e w5 ⟨rfl, l5, g5'⟩
          rw [to2.out] at l5
          have b5 := b4.grown g5' (by omega) (fun j hj => by cases hj; omega)
          have s5 := g5'.size
          clear l4 b4 g5'
          go_wp2_with fail
          refine (sample_any _ _ n _ _ l5 hok'.out).mono ?_
          rintro e w6 ⟨rfl, l6, g6'⟩
          rw [to3.out] at l6
          have b6 := b5.grown g6' (by omega) (fun j hj => by cases hj; omega)
          have s6 := g6'.size
          clear l5 b5 g6'
          go_wp2_with fail
          refine (least_any _ _ _ l6).mono ?_
          rintro e w7 ⟨rfl, rfl⟩
          rw [hgl.out]
          go_wp2_with fail
          refine (smoothed_any _ _ _ l6).mono ?_
          rintro e w7 ⟨rfl, rfl⟩
          rw [← hgs.out]
          go_wp2_with fail
          refine (smoothed_any _ _ _ l6).mono ?_
          rintro e w7 ⟨rfl, rfl⟩
          rw [← hgs.out]
          go_wp2_with fail
          refine (varies_any _ _ _ l6).mono ?_
          rintro e w7 ⟨rfl, rfl⟩
          rw [← hgv.out]
          go_wp2_with fail
          refine (varies_any _ _ _ l6).mono ?_
          rintro e w7 ⟨rfl, rfl⟩
          rw [← hgv.out]
          go_wp2_with fail
          refine (pto_bel _ _ 0 a0 _ l6 hok'.out ha0.out).mono ?_
          rintro e w7 ⟨rfl, b7⟩
          have l7 := l6.below b7 l6.lt
          have b7' := b6.trans (b7.mono (by omega))
          have s7 := b7.size
          clear l6 b6 b7
          go_wp2_with fail
          refine (pto_bel _ _ 3 a3 _ l7 hok'.out ha3.out).mono ?_
          rintro e w8 ⟨rfl, b8⟩
          have l8 := l7.below b8 l7.lt
          have b8' := b7'.trans (b8.mono (by omega))
          have s8 := b8.size
          clear l7 b7' b8
          go_wp2_with fail
          refine (pto_bel _ _ 1 a1 _ l8 hok'.out ha1.out).mono ?_
          rintro e w9 ⟨rfl, b9⟩
          have l9 := l8.below b9 l8.lt
          have b9' := b8'.trans (b9.mono (by omega))
          have s9 := b9.size
          clear l8 b8' b9
          go_wp2_with fail
          refine (pto_bel _ _ 0 a0 _ l9 hok'.out ha0.out).mono ?_
          rintro e w10 ⟨rfl, b10⟩
          have l10 := Lib.hid (l9.below b10 l9.lt)
          have b10' := b9'.trans (b10.mono (by omega))
          clear l9 b9' b10
          have hkc' : Hid ((0 + 1 = 0 → c' = Clk.start) ∧ (1 ≤ 0 + 1 → c'.within n n)) := ⟨by omega, fun _ => hW.out⟩
          clear hc00
          go_wp2
          go_roundw
          case rel => exact ⟨0 + 1, n, n, c', by omega, by go_num, rfl, rfl, by omega, by omega, by omega, l10, hkc', b10'⟩
          case measure => simp [intOf]; omega
        · have hokk := hkc.out.2 (by omega)
          have hok := hokk.ok
          have hW := Lib.hid (within_next hokk n dl hn1 (by omega) hdl1)
          obtain ⟨x', hx'⟩ := name_it (min x n)
          obtain ⟨m', hm'⟩ := name_it (max m n)
          have hx'' := hx'.out.symm
          have hm'' := hm'.out.symm
          rw [hx'', hm''] at hW
          have q1 : 0 ≤ x' := by rw [hx'.out]; omega
          have q2 : x' ≤ m' := by rw [hx'.out, hm'.out]; omega
          have q3 : m' ≤ 10000 := by rw [hm'.out]; omega
          have hne : ((k : Int) == 0) = false := by simp; omega
          clear hokk
          obtain ⟨c', hc'⟩ := name_it (c.told n dl)
          rw [← hc'.out] at hW
          have hok' := Lib.hid hW.out.ok
          obtain ⟨a0, ha0, ha01, ha02⟩ := pto_r c' 0
          obtain ⟨a1, ha1, ha11, ha12⟩ := pto_r c' 1
          obtain ⟨a3, ha3, ha31, ha32⟩ := pto_r c' 3
          have ha : a0 ≤ a1 := by rw [← ha0.out, ← ha1.out]; exact pto_mono c' (by omega)
          obtain ⟨gs, hgs⟩ := name_it c'.s
          obtain ⟨gv, hgv⟩ := name_it c'.v
          have g1 : gs ≤ m' := by rw [hgs.out]; exact hW.out.s1
          have g2 : x' - 7 ≤ gs := by rw [hgs.out]; exact hW.out.s2
          have g0 : 0 ≤ gs := by rw [hgs.out]; exact hW.out.s0
          have g3 : 0 ≤ gv := by rw [hgv.out]; exact hW.out.v0
          have g4 : gv ≤ m' := by rw [hgv.out]; exact hW.out.v1
          have hgl := Lib.hid hW.out.l
          have to1 := Lib.hid (told_out c' (-1 - n) 0 (by omega))
          have to2 := Lib.hid (told_out c' (n + 1048576 + 1) 0 (by omega))
          have to3 := Lib.hid (told_out c' n (-1 - n) (by omega))
          go_wp2_with fail
          refine (low_r _ _ n _ hn (by omega) (by omega)).mono ?_
          rintro e w3 ⟨rfl, rfl⟩
          go_wp2_with fail
          refine (low_r _ _ dl _ hdl (by omega) (by omega)).mono ?_
          rintro e w3 ⟨rfl, rfl⟩
          go_wp2_with fail
          refine (sample_any _ _ n dl _ l2.out hok).mono ?_
          rintro e w3 ⟨rfl, l3, g3'⟩
          rw [← hc'.out] at l3
          have b3 := b2.grown g3' (by omega) (fun j hj => by cases hj; omega)
          have s3 := g3'.size
          clear l2 hkc b2 g3' hok
          go_wp2_with fail
          refine (sample_any _ _ _ 0 _ l3 hok'.out).mono ?_
          rintro e w4 ⟨rfl, l4, g4'⟩
          rw [to1.out] at l4
          have b4 := b3.grown g4' (by omega) (fun j hj => by cases hj; omega)
          have s4 := g4'.size
          clear l3 b3 g4'
          go_wp2_with fail
          refine (sample_any _ _ _ 0 _ l4 hok'.out).mono ?_
          rintro e w5 ⟨rfl, l5, g5'⟩
          rw [to2.out] at l5
          have b5 := b4.grown g5' (by omega) (fun j hj => by cases hj; omega)
          have s5 := g5'.size
          clear l4 b4 g5'
          go_wp2_with fail
          refine (sample_any _ _ n _ _ l5 hok'.out).mono ?_
          rintro e w6 ⟨rfl, l6, g6'⟩
          rw [to3.out] at l6
          have b6 := b5.grown g6' (by omega) (fun j hj => by cases hj; omega)
          have s6 := g6'.size
          clear l5 b5 g6'
          go_wp2_with fail
          refine (least_any _ _ _ l6).mono ?_
          rintro e w7 ⟨rfl, rfl⟩
          rw [hgl.out]
          go_wp2_with fail
          refine (smoothed_any _ _ _ l6).mono ?_
          rintro e w7 ⟨rfl, rfl⟩
          rw [← hgs.out]
          go_wp2_with fail
          refine (smoothed_any _ _ _ l6).mono ?_
          rintro e w7 ⟨rfl, rfl⟩
          rw [← hgs.out]
          go_wp2_with fail
          refine (varies_any _ _ _ l6).mono ?_
          rintro e w7 ⟨rfl, rfl⟩
          rw [← hgv.out]
          go_wp2_with fail
          refine (varies_any _ _ _ l6).mono ?_
          rintro e w7 ⟨rfl, rfl⟩
          rw [← hgv.out]
          go_wp2_with fail
          refine (pto_bel _ _ 0 a0 _ l6 hok'.out ha0.out).mono ?_
          rintro e w7 ⟨rfl, b7⟩
          have l7 := l6.below b7 l6.lt
          have b7' := b6.trans (b7.mono (by omega))
          have s7 := b7.size
          clear l6 b6 b7
          go_wp2_with fail
          refine (pto_bel _ _ 3 a3 _ l7 hok'.out ha3.out).mono ?_
          rintro e w8 ⟨rfl, b8⟩
          have l8 := l7.below b8 l7.lt
          have b8' := b7'.trans (b8.mono (by omega))
          have s8 := b8.size
          clear l7 b7' b8
          go_wp2_with fail
          refine (pto_bel _ _ 1 a1 _ l8 hok'.out ha1.out).mono ?_
          rintro e w9 ⟨rfl, b9⟩
          have l9 := l8.below b9 l8.lt
          have b9' := b8'.trans (b9.mono (by omega))
          have s9 := b9.size
          clear l8 b8' b9
          go_wp2_with fail
          refine (pto_bel _ _ 0 a0 _ l9 hok'.out ha0.out).mono ?_
          rintro e w10 ⟨rfl, b10⟩
          have l10 := Lib.hid (l9.below b10 l9.lt)
          have b10' := b9'.trans (b10.mono (by omega))
          clear l9 b9' b10
          have hkc' : Hid ((k + 1 = 0 → c' = Clk.start) ∧ (1 ≤ k + 1 → c'.within x' m')) := ⟨by omega, fun _ => hW.out⟩
          clear hx'' hm''
          go_wp2
          go_roundw
          case rel => exact ⟨k + 1, x', m', c', by omega, by go_num, rfl, rfl, by omega, by omega, by omega, l10, hkc', b10'⟩
          case measure => simp [intOf]; omega
      · go_wp2_with fail
        refine (awake_any _).mono ?_
        rintro e w6 ⟨rfl, b6⟩
        have b6' := b2.trans (b6.mono (by omega))
        clear b2 b6
        go_wp2
        go_ret
        exact ⟨rfl, b6'⟩

end Go.Proofs.Ytefabmpiimddoaa
