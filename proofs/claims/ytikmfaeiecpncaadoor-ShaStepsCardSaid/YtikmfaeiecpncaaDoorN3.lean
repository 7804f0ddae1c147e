/- A step from any state, and what stands behind a text: the statement's walk. -/
import Derived.Test.YtikmfaeiecpncaaDoorN1
import Derived.Test.YtikmfaeiecpncaaDoorQ
namespace Go.Proofs.YtikmfaeiecpncaaDoor
open Go.RowKit

theorem pads_both (n : Int) (h : n ≤ 10000) : ∃ L : List Int, (∀ w, Calls Tryd.prog 22 #[.int .i64 n] w fun e w' => ∃ v, e = .returned v ∧ NumsAt .u8 w' v L ∧ Below w.heap.size w w') ∧
    ∀ w, Calls Tryd.prog 23 #[.int .i64 n] w fun e w' => ∃ v, e = .returned v ∧ NumsAt .u8 w' v L ∧ Below w.heap.size w w' := by
  by_cases hn : n < 0
  · refine ⟨[], fun w => (pad_neg n w hn).mono ?_, fun w => (refPad_neg n w hn).mono ?_⟩
    · rintro e w' ⟨rfl, rfl⟩; exact ⟨_, rfl, nums_nil _ _, Below.refl _ _⟩
    · rintro e w' ⟨rfl, rfl⟩; exact ⟨_, rfl, nums_nil _ _, Below.refl _ _⟩
  · obtain ⟨m, rfl⟩ := Int.eq_ofNat_of_zero_le (show 0 ≤ n by omega)
    refine ⟨padL m, fun w => (pad_any m w (by omega)).mono ?_, fun w => (refPad_any m w (by omega)).mono ?_⟩
    · rintro e w' ⟨v, rfl, ho, hb⟩; exact ⟨v, rfl, ho.nums, hb⟩
    · rintro e w' ⟨v, rfl, ho, hb⟩; exact ⟨v, rfl, ho.nums, hb⟩

set_option maxHeartbeats 3200000 in
set_option maxRecDepth 100000 in
theorem steps_any (s : St) (blk : List Int) (n : Int) (u : Value) (xs : List Int) (w : World) (hx : blk.length = 64) (hbb : Byt blk) (hg : Gl w) (hu : NumsAt .u8 w u xs) (hb : Byt xs) :
    Calls Tryd.prog 4 #[.agg (wds s.list), .agg (bys blk), .int .i64 n, u] w fun e w' => e = .returned (.bool true) ∧ Below w.heap.size w w' := by
  obtain ⟨i0, hi, hz0, hz1, hz2⟩ := info_parts info5
  obtain ⟨a3, k3, rfl, _⟩ := slice_form hu
  have l0 := Lib.hid ((Blk.new w 32 (wds s.list)).alloc (.cells (bys blk) 33))
  have l1 := Blk.new (w.alloc (.cells (wds s.list) 32)) 33 (bys blk)
  have b0 := Lib.hid (((Below.refl w.heap.size w).alloc (Nat.le_refl _) (.cells (wds s.list) 32)).alloc (by simp) (.cells (bys blk) 33))
  rw [show (w.alloc (.cells (wds s.list) 32)).heap.size = w.heap.size + 1 by simp] at l1
  replace l1 := Lib.hid l1
  obtain ⟨w0, hw0⟩ : ∃ x, x = (w.alloc (.cells (wds s.list) 32)).alloc (.cells (bys blk) 33) := ⟨_, rfl⟩
  have g0 := Lib.hid (show Gl w0 by rw [hw0]; exact hg.below b0.out hg.lt)
  have n0 := Lib.hid (show NumsAt .u8 w0 _ xs by rw [hw0]; exact hu.below b0.out)
  rw [← hw0] at l0 l1 b0
  replace hw0 := Lib.hid hw0
  replace hb := Lib.hid hb
  by_cases hbig : 10000 < n
  · have q1 : decide ((10000 : Int) < n) = true := by simp; omega
    go_enter Tryd.func4, Tryd.ntmps4
    go_wp2_with fail
    change Code.wp _ _ _ _ ((w.alloc (.cells (wds s.list) 32)).alloc (.cells (bys blk) 33))
    rw [← hw0.out]
    go_quiet (fail)
    go_wp2_with fail
    refine (awake_any _ (g0.out.below (below_drewN (Below.refl w0.heap.size w0) nq) g0.out.lt)).mono ?_
    rintro e w1 ⟨rfl, hb1⟩
    go_wp2_with fail
    go_ret
    exact ⟨rfl, below_all b0.out (below_all (below_drewN (Below.refl w0.heap.size w0) nq) hb1)⟩
  have q1 : decide ((10000 : Int) < n) = false := by simp; omega
  by_cases hbig2 : 200 < xs.length
  · have q2 : decide ((200 : Int) < xs.length) = true := by simp; omega
    clear hbig
    go_enter Tryd.func4, Tryd.ntmps4
    go_wp2_with fail
    change Code.wp _ _ _ _ ((w.alloc (.cells (wds s.list) 32)).alloc (.cells (bys blk) 33))
    rw [← hw0.out]
    go_quiet (fail)
    go_wp2_with fail
    refine (awake_any _ (g0.out.below (below_drewN (Below.refl w0.heap.size w0) nq) g0.out.lt)).mono ?_
    rintro e w1 ⟨rfl, hb1⟩
    go_wp2_with fail
    go_ret
    exact ⟨rfl, below_all b0.out (below_all (below_drewN (Below.refl w0.heap.size w0) nq) hb1)⟩
  have q2 : decide ((200 : Int) < xs.length) = false := by simp; omega
  obtain ⟨L, hL, hL'⟩ := pads_both n (by omega)
  have hsame : (L == L) = true := by simp
  have hm32 := guard32
  have hxl : xs.length ≤ 200 := by omega
  replace hL := Lib.hid hL
  replace hL' := Lib.hid hL'
  replace hx := Lib.hid hx
  replace hbb := Lib.hid hbb
  obtain ⟨st', hst'⟩ := name_it (comp s blk)
  clear hbig hbig2 hu
  go_enter Tryd.func4, Tryd.ntmps4
  go_wp2_with fail
  change Code.wp _ _ _ _ ((w.alloc (.cells (wds s.list) 32)).alloc (.cells (bys blk) 33))
  rw [← hw0.out]
  refine region_rel_lit (.step (.step (.step (.step (.step (.step (.step (.step (.step (.step (.step (.step (.step (.step (.step (.step (.step (.step (.step (.step (.step (.step (.step (.base _)))))))))))))))))))))))) (fun i W v => match i with
    | 0 => v = .int .i64 n
    | 1 => v = .bool false
    | 2 => v = .bool false
    | 3 => v = .slice a3 xs.length k3
    | 4 => v = .int .i64 xs.length
    | 5 => v = .bool false
    | 6 => v = .bool false
    | 7 => v = .bool false
    | 8 => v = .agg (wds s.list)
    | 9 => v = .agg (bys blk)
    | 10 => v = (.agg (wds st'.list))
    | 11 => v = .agg (wds s.list)
    | 12 => v = .agg (bys blk)
    | 13 => v = (.agg (wds st'.list))
    | 14 => v = .bool false
    | 15 => v = .bool false
    | 16 => v = .bool false
    | 17 => v = .int .i64 n
    | 18 => NumsAt .u8 W v L
    | 19 => v = .int .i64 n
    | 20 => NumsAt .u8 W v L
    | 21 => v = .bool true
    | _ => v = .bool false) mixed (by kernel_rfl) (by kernel_rfl) ?_ ?_ ?_
  · rintro (_ | _ | _ | _ | _ | _ | _ | _ | _ | _ | _ | _ | _ | _ | _ | _ | _ | _ | _ | _ | _ | _ | i) W W' v h hb
    all_goals first | exact h | exact PartsAt.below h hb | exact NumsAt.below h hb | exact spec_below h hb
  · intro i oi hoi x w5 hb5 hd
    rcases i with _ | _ | _ | _ | _ | _ | _ | _ | _ | _ | _ | _ | _ | _ | _ | _ | _ | _ | _ | _ | _ | _ | _ | i
    · obtain rfl := Option.some.inj hoi
      simp only [fill, Act.put, List.setIfInBounds_toArray, List.set_cons_succ, List.set_cons_zero]
      go_wp2_with fail
      exact ⟨_, rfl, Below.refl _ _, rfl⟩
    · obtain rfl := Option.some.inj hoi
      have h0 : (x 0) = .int .i64 n := hd 0 (by kernel_rfl)
      simp only [fill, Act.put, List.setIfInBounds_toArray, List.set_cons_succ, List.set_cons_zero, h0]
      go_wp2_with fail
      exact ⟨_, rfl, Below.refl _ _, rfl⟩
    · obtain rfl := Option.some.inj hoi
      have h1 : (x 1) = .bool false := hd 1 (by kernel_rfl)
      simp only [fill, Act.put, List.setIfInBounds_toArray, List.set_cons_succ, List.set_cons_zero, h1]
      go_wp2_with fail
      exact ⟨_, rfl, Below.refl _ _, rfl⟩
    · obtain rfl := Option.some.inj hoi
      have h2 : (x 2) = .bool false := hd 2 (by kernel_rfl)
      simp only [fill, Act.put, List.setIfInBounds_toArray, List.set_cons_succ, List.set_cons_zero, h2]
      go_wp2_with fail
      exact ⟨_, rfl, Below.refl _ _, rfl⟩
    · obtain rfl := Option.some.inj hoi
      have h2 : (x 2) = .bool false := hd 2 (by kernel_rfl)
      have h3 : (x 3) = .slice a3 xs.length k3 := hd 3 (by kernel_rfl)
      simp only [fill, Act.put, List.setIfInBounds_toArray, List.set_cons_succ, List.set_cons_zero, h2, h3]
      go_wp2_with fail
      exact ⟨_, rfl, Below.refl _ _, rfl⟩
    · obtain rfl := Option.some.inj hoi
      have h2 : (x 2) = .bool false := hd 2 (by kernel_rfl)
      have h4 : (x 4) = .int .i64 xs.length := hd 4 (by kernel_rfl)
      simp only [fill, Act.put, List.setIfInBounds_toArray, List.set_cons_succ, List.set_cons_zero, h2, h4]
      go_wp2_with fail
      exact ⟨_, rfl, Below.refl _ _, rfl⟩
    · obtain rfl := Option.some.inj hoi
      have h2 : (x 2) = .bool false := hd 2 (by kernel_rfl)
      have h5 : (x 5) = .bool false := hd 5 (by kernel_rfl)
      simp only [fill, Act.put, List.setIfInBounds_toArray, List.set_cons_succ, List.set_cons_zero, h2, h5]
      go_wp2_with fail
      exact ⟨_, rfl, Below.refl _ _, rfl⟩
    · obtain rfl := Option.some.inj hoi
      have h6 : (x 6) = .bool false := hd 6 (by kernel_rfl)
      simp only [fill, Act.put, List.setIfInBounds_toArray, List.set_cons_succ, List.set_cons_zero, h6]
      go_wp2_with fail
      exact ⟨_, rfl, Below.refl _ _, rfl⟩
    · obtain rfl := Option.some.inj hoi
      have h7 : (x 7) = .bool false := hd 7 (by kernel_rfl)
      simp only [fill, Act.put, List.setIfInBounds_toArray, List.set_cons_succ, List.set_cons_zero, h7]
      have e1 := Lib.hid (load_at (P := Tryd.prog) (l0.out.below hb5 l0.out.lt) 8 31 arr32 (by rw [wds_size]; exact sz32))
      go_wp2_with (refine wpList_load_isG (by kernel_rfl) 32 _ rfl rfl e1.out ?_)
      exact ⟨_, rfl, Below.refl _ _, rfl⟩
    · obtain rfl := Option.some.inj hoi
      have h7 : (x 7) = .bool false := hd 7 (by kernel_rfl)
      simp only [fill, Act.put, List.setIfInBounds_toArray, List.set_cons_succ, List.set_cons_zero, h7]
      have e1 := Lib.hid (load_at (P := Tryd.prog) (l1.out.below hb5 l1.out.lt) 64 5 arr33 (by rw [bys_size, hx.out]; exact sz33))
      go_wp2_with (refine wpList_load_isG (by kernel_rfl) 33 _ rfl rfl e1.out ?_)
      exact ⟨_, rfl, Below.refl _ _, rfl⟩
    · obtain rfl := Option.some.inj hoi
      have h7 : (x 7) = .bool false := hd 7 (by kernel_rfl)
      have h8 : (x 8) = .agg (wds s.list) := hd 8 (by kernel_rfl)
      have h9 : (x 9) = .agg (bys blk) := hd 9 (by kernel_rfl)
      simp only [fill, Act.put, List.setIfInBounds_toArray, List.set_cons_succ, List.set_cons_zero, h7, h8, h9]
      go_wp2_with fail
      refine (step_any s blk w5 hx.out (byt_fun hbb.out) (g0.out.below hb5 g0.out.lt)).mono ?_
      rintro e w6 ⟨rfl, hb6⟩
      go_wp2_with fail
      exact ⟨_, rfl, hb6, by rw [hst'.out]⟩
    · obtain rfl := Option.some.inj hoi
      have h7 : (x 7) = .bool false := hd 7 (by kernel_rfl)
      simp only [fill, Act.put, List.setIfInBounds_toArray, List.set_cons_succ, List.set_cons_zero, h7]
      have e1 := Lib.hid (load_at (P := Tryd.prog) (l0.out.below hb5 l0.out.lt) 8 31 arr32 (by rw [wds_size]; exact sz32))
      go_wp2_with (refine wpList_load_isG (by kernel_rfl) 32 _ rfl rfl e1.out ?_)
      exact ⟨_, rfl, Below.refl _ _, rfl⟩
    · obtain rfl := Option.some.inj hoi
      have h7 : (x 7) = .bool false := hd 7 (by kernel_rfl)
      simp only [fill, Act.put, List.setIfInBounds_toArray, List.set_cons_succ, List.set_cons_zero, h7]
      have e1 := Lib.hid (load_at (P := Tryd.prog) (l1.out.below hb5 l1.out.lt) 64 5 arr33 (by rw [bys_size, hx.out]; exact sz33))
      go_wp2_with (refine wpList_load_isG (by kernel_rfl) 33 _ rfl rfl e1.out ?_)
      exact ⟨_, rfl, Below.refl _ _, rfl⟩
    · obtain rfl := Option.some.inj hoi
      have h7 : (x 7) = .bool false := hd 7 (by kernel_rfl)
      have h11 : (x 11) = .agg (wds s.list) := hd 11 (by kernel_rfl)
      have h12 : (x 12) = .agg (bys blk) := hd 12 (by kernel_rfl)
      simp only [fill, Act.put, List.setIfInBounds_toArray, List.set_cons_succ, List.set_cons_zero, h7, h11, h12]
      go_wp2_with fail
      refine (refStep_any s blk w5 hx.out (byt_fun hbb.out)).mono ?_
      rintro e w6 ⟨rfl, hb6⟩
      go_wp2_with fail
      exact ⟨_, rfl, hb6, by rw [hst'.out]⟩
    · obtain rfl := Option.some.inj hoi
      have h7 : (x 7) = .bool false := hd 7 (by kernel_rfl)
      have h10 : (x 10) = (.agg (wds st'.list)) := hd 10 (by kernel_rfl)
      have h13 : (x 13) = (.agg (wds st'.list)) := hd 13 (by kernel_rfl)
      simp only [fill, Act.put, List.setIfInBounds_toArray, List.set_cons_succ, List.set_cons_zero, h7, h10, h13]
      have e1 := equal_wds arr32 st'.list rfl w5
      go_wp2_with fail
      exact ⟨_, rfl, Below.refl _ _, rfl⟩
    · obtain rfl := Option.some.inj hoi
      have h7 : (x 7) = .bool false := hd 7 (by kernel_rfl)
      have h14 : (x 14) = .bool false := hd 14 (by kernel_rfl)
      simp only [fill, Act.put, List.setIfInBounds_toArray, List.set_cons_succ, List.set_cons_zero, h7, h14]
      go_wp2_with fail
      exact ⟨_, rfl, Below.refl _ _, rfl⟩
    · obtain rfl := Option.some.inj hoi
      have h15 : (x 15) = .bool false := hd 15 (by kernel_rfl)
      simp only [fill, Act.put, List.setIfInBounds_toArray, List.set_cons_succ, List.set_cons_zero, h15]
      go_wp2_with fail
      exact ⟨_, rfl, Below.refl _ _, rfl⟩
    · obtain rfl := Option.some.inj hoi
      have h16 : (x 16) = .bool false := hd 16 (by kernel_rfl)
      simp only [fill, Act.put, List.setIfInBounds_toArray, List.set_cons_succ, List.set_cons_zero, h16]
      go_wp2_with fail
      exact ⟨_, rfl, Below.refl _ _, rfl⟩
    · obtain rfl := Option.some.inj hoi
      have h16 : (x 16) = .bool false := hd 16 (by kernel_rfl)
      have h17 : (x 17) = .int .i64 n := hd 17 (by kernel_rfl)
      simp only [fill, Act.put, List.setIfInBounds_toArray, List.set_cons_succ, List.set_cons_zero, h16, h17]
      go_wp2_with fail
      refine (hL.out w5).mono ?_
      rintro e w6 ⟨v6, rfl, hn6, hb6⟩
      go_wp2_with fail
      exact ⟨_, rfl, hb6, hn6⟩
    · obtain rfl := Option.some.inj hoi
      have h16 : (x 16) = .bool false := hd 16 (by kernel_rfl)
      simp only [fill, Act.put, List.setIfInBounds_toArray, List.set_cons_succ, List.set_cons_zero, h16]
      go_wp2_with fail
      exact ⟨_, rfl, Below.refl _ _, rfl⟩
    · obtain rfl := Option.some.inj hoi
      have h16 : (x 16) = .bool false := hd 16 (by kernel_rfl)
      have h19 : (x 19) = .int .i64 n := hd 19 (by kernel_rfl)
      simp only [fill, Act.put, List.setIfInBounds_toArray, List.set_cons_succ, List.set_cons_zero, h16, h19]
      go_wp2_with fail
      refine (hL'.out w5).mono ?_
      rintro e w6 ⟨v6, rfl, hn6, hb6⟩
      go_wp2_with fail
      exact ⟨_, rfl, hb6, hn6⟩
    · obtain rfl := Option.some.inj hoi
      have h16 : (x 16) = .bool false := hd 16 (by kernel_rfl)
      have h18 : NumsAt .u8 w5 (x 18) L := hd 18 (by kernel_rfl)
      have h20 : NumsAt .u8 w5 (x 20) L := hd 20 (by kernel_rfl)
      simp only [fill, Act.put, List.setIfInBounds_toArray, List.set_cons_succ, List.set_cons_zero, h16]
      go_wp2_with fail
      refine (same_is _ _ L L true w5 h18 h20 hsame).mono ?_
      rintro e w6 ⟨rfl, hb6⟩
      go_wp2_with fail
      exact ⟨_, rfl, hb6, rfl⟩
    · obtain rfl := Option.some.inj hoi
      have h16 : (x 16) = .bool false := hd 16 (by kernel_rfl)
      have h21 : (x 21) = .bool true := hd 21 (by kernel_rfl)
      simp only [fill, Act.put, List.setIfInBounds_toArray, List.set_cons_succ, List.set_cons_zero, h16, h21]
      go_wp2_with fail
      exact ⟨_, rfl, Below.refl _ _, rfl⟩
    · cases hoi
  · intro x w5 hb5 hd
    have h16 : (x 16) = .bool false := hd 16 (by decide)
    have h22 : (x 22) = .bool false := hd 22 (by decide)
    simp only [fill, Act.put, List.setIfInBounds_toArray, List.set_cons_succ, List.set_cons_zero, h16, h22]
    have g5 := Lib.hid (g0.out.below hb5 g0.out.lt)
    have n5 := Lib.hid (n0.out.below hb5)
    have b5 := Lib.hid (below_all b0.out hb5)
    clear hb5 l0 l1 b0 n0 g0 hL hL'
    go_wp2_with fail
    refine (copied_any _ xs w5 n5.out (by omega)).mono ?_
    rintro e w6 ⟨v6, rfl, hown6, hb6⟩
    go_wp2_with fail
    refine (pad_any xs.length w6 (by omega)).mono ?_
    rintro e w7 ⟨v7, rfl, hown7, hb7⟩
    have hpl2 := padL_len xs.length
    have hpz := padZ_lt xs.length
    have o6 := Lib.hid (hown6.below hb7)
    have p7 := Lib.hid hown7.nums
    have b57 := Lib.hid (below_all hb6 hb7)
    clear hown6 hown7 hb6 hb7
    go_wp2_with (at_builtin; refine wpList_append_nums rfl _ _ 22 rfl .u8 w5.heap.size 5 i0 1 Tryd.underlying22 hi hz0 hz1 hz2 _ _ xs (padL xs.length) rfl o6.out rfl p7.out (by omega) (by omega) b57.out.size ?_; intro v8 w8 hown8 hgr8; obtain ⟨a8, c8, rfl, _⟩ := slice_form hown8.nums; rw [show (xs ++ padL xs.length).length = (full xs).length from rfl]; have hmod : (((full xs).length : Int) % 64 != 0) = false := (by have := full_len xs; simp; omega); have hfl : ((full xs).length : Int) ≤ 400 := (by simp [full]; omega); obtain ⟨tl, htl⟩ := name_it (full xs).length; rw [← htl.out] at hmod hfl ⊢; replace hown8 := Lib.hid hown8; replace hgr8 := Lib.hid hgr8)
    have b8 := Lib.hid (below_all b5.out (b57.out.grown hgr8.out b57.out.size (o6.out.lt)))
    have hft := full_len xs
    have hbf := byt_full hb.out
    have n8 := hown8.out.nums
    obtain ⟨t, ht⟩ := name_it (full xs)
    rw [show xs ++ padL xs.length = t from ht.out.symm] at n8
    rw [← ht.out] at hft hbf htl
    rw [← htl.out] at n8
    replace n8 := Lib.hid n8
    replace hft := Lib.hid hft
    replace hbf := Lib.hid hbf
    have hlt8 : tl = t.length := htl.out
    replace hlt8 := Lib.hid hlt8
    have n5' := Lib.hid (n5.out.below (b57.out.grown hgr8.out b57.out.size (o6.out.lt)))
    have g8 := Lib.hid (g5.out.below (b57.out.grown hgr8.out b57.out.size (o6.out.lt)) g5.out.lt)
    clear hown8 hgr8 o6 p7 b57 n5 b5 g5 hmod
    refine (start_any _).mono ?_
    rintro e w9 ⟨rfl, hb9⟩
    replace n8 := Lib.hid (n8.out.below hb9)
    replace n5' := Lib.hid (n5'.out.below hb9)
    replace g8 := Lib.hid (g8.out.below hb9 g8.out.lt)
    replace b8 := Lib.hid (below_all b8.out hb9)
    clear hb9
    have ls := Lib.hid ((Blk.new w9 32 (wds (zeros 8))).setRow (wds H0.list))
    have b9 := Lib.hid (below_setRow (g := w9.heap.size) ((Below.refl w9.heap.size w9).alloc (Nat.le_refl _) (.cells (wds (zeros 8)) 32)) (Nat.le_refl _) (wds H0.list))
    have z8 : (Tryd.prog.info? 32).map (·.size) = some (wds H0.list).size := by rw [wds_size]; exact sz32
    replace z8 := Lib.hid z8
    have ho8 : Hid ((wds (zeros 8)).size = (wds H0.list).size) := by show _ = _; rw [wds_size, wds_size]; rfl
    go_wp2_with (refine wpList_store_row rfl 32 _ _ rfl w9.heap.size (wds H0.list) rfl rfl 32 _ (Blk.new w9 32 (wds (zeros 8))) z8.out ho8.out (wds_one _) ?_)
    obtain ⟨b6, hb6⟩ : ∃ b, b = w9.heap.size := ⟨_, rfl⟩
    change Code.wp _ _ _ _ ((w9.alloc (.cells (wds (zeros 8)) 32)).setRow w9.heap.size (wds H0.list))
    generalize (w9.alloc (.cells (wds (zeros 8)) 32)).setRow w9.heap.size (wds H0.list) = w10 at ls b9 ⊢
    rw [← hb6] at ls ⊢
    replace hb6 := Lib.hid hb6
    clear z8 ho8
    have hcut33 := fun (b : Nat) (w : World) => slice_all arr33 len33 el33 b 0 w
    go_loopw [11] (fun v wr => ∃ j m : Nat, j ≤ t.length / 64 ∧ Hid (m = 64 * j) ∧ v = .int .i64 m ∧ Hid (Blk wr b6 32 (wds (runH t j).list)) ∧ Hid (Below w9.heap.size w9 wr)) (fun v _ => t.length - (intOf v).toNat)
    case atStart => exact ⟨0, 0, Nat.zero_le _, rfl, rfl, ls, b9⟩
    case round =>
      clear ls b9
      obtain ⟨j, m, hj, hm, rfl, l6, b5⟩ := hrel
      have hmb : (m : Int) < 1000 := by have := hm.out; have := hft.out; have := hlt8.out; omega
      have h6l := l6.out.lt
      by_cases hlt : j < t.length / 64
      · have q3 : decide ((m : Int) < tl) = true := by have := hm.out; have := hft.out; have := hlt8.out; simp; omega
        have q3' : decide (m < tl) = true := by have := hm.out; have := hft.out; have := hlt8.out; simp; omega
        have hmt : (m : Int) ≤ t.length := by have := hm.out; have := hft.out; omega
        obtain ⟨v', hcut, hcut'⟩ := cut_l n8.out (m : Int) (by omega) hmt
        rw [show (m : Int).toNat = 64 * j by have := hm.out; omega] at hcut'
        obtain ⟨st, hst⟩ := name_it (runH t j)
        rw [← hst.out] at l6
        obtain ⟨bk, hblk⟩ := name_it (blkAt t j)
        have hbl : bk.length = 64 := by rw [hblk.out]; exact blkAt_len _ _ (by have := hft.out; omega)
        have hbb2 : Hid (Byt bk) := by show Byt _; rw [hblk.out]; exact byt_blk hbf.out j
        have hpad : padTo 64 (t.drop (64 * j)) = bk := by
          rw [padTo, hblk.out, blkAt]; simp; have := hft.out; omega
        have nv := Lib.hid (hcut' _ (n8.out.below b5.out))
        replace hpad := Lib.hid hpad
        replace hcut' := Lib.hid hcut'
        obtain ⟨st', hst'⟩ := name_it (comp st bk)
        replace hbl := Lib.hid hbl
        clear hlt hmt
        go_wp2_with fail
        have b11 := Lib.hid (b5.out.alloc b5.out.size (.cells (bys (List.replicate 64 0)) 33))
        have l11 := Lib.hid (l6.out.alloc (.cells (bys (List.replicate 64 0)) 33))
        have k11 := Lib.hid (Blk.new wr 33 (bys (List.replicate 64 0)))
        replace nv := Lib.hid (nv.out.alloc (.cells (bys (List.replicate 64 0)) 33))
        change Code.wp _ _ _ _ (wr.alloc (.cells (bys (List.replicate 64 0)) 33))
        obtain ⟨b12, hb12⟩ : ∃ b, b = wr.heap.size := ⟨_, rfl⟩
        rw [← hb12] at k11 h6l ⊢
        have h12 : Hid (w9.heap.size ≤ b12) := by show _ ≤ _; rw [hb12]; exact b5.out.size
        generalize wr.alloc (.cells (bys (List.replicate 64 0)) 33) = w11 at b11 l11 k11 nv ⊢
        clear hb12 l6 b5
        refine peel_quiet_lit (.step (.step (.step (.step (.base _))))) mixed (by kernel_rfl) (by kernel_rfl) ?_
        repeat (go_big_quiet_step (fail))
        refine wpQuiet_nil ?_
        rintro _ ⟨nq, rfl⟩
        replace b11 := Lib.hid (below_drewN b11.out nq)
        replace l11 := Lib.hid (show Blk (w11.drewN nq) b6 32 (wds st.list) from l11.out)
        replace k11 := Lib.hid (show Blk (w11.drewN nq) b12 33 (bys (List.replicate 64 0)) from k11.out)
        replace nv := Lib.hid (nv.out.below (below_drewN (Below.refl w11.heap.size w11) nq))
        generalize w11.drewN nq = w12 at b11 l11 k11 nv ⊢
        have k12 := Lib.hid (k11.out.setRow (bys bk))
        have l12 := Lib.hid (l11.out.rowOther (b' := b12) (bys bk) (by omega))
        have b13 := Lib.hid (below_setRow (g := b12) b11.out h12.out (bys bk))
        obtain ⟨w13, hw13⟩ : ∃ x, x = w12.setRow b12 (bys bk) := ⟨_, rfl⟩
        rw [← hw13] at k12 l12 b13
        replace hw13 := Lib.hid hw13
        have z64 : Hid ((Tryd.prog.info? 33).map (·.size) = some (bys bk).size) := by show _ = _; rw [bys_size, hbl.out]; exact sz33
        refine wpList_copy_zeros rfl _ _ rfl b12 64 64 33 _ _ rfl rfl k11.out nv.out ?_
        rw [hpad.out, ← hw13.out]
        go_wp2_with (first
          | refine wpList_load_row rfl 32 _ rfl _ rfl 32 _ _ _ l12.out arr32 rfl (by rw [wds_size]; exact sz32) ?_
          | refine wpList_load_row rfl 33 _ rfl _ rfl 33 _ _ _ k12.out arr33 rfl z64.out ?_)
        refine (step_any st bk w13 hbl.out (byt_fun hbb2.out) (g8.out.below b13.out g8.out.lt)).mono ?_
        rintro e w14 ⟨rfl, hb14⟩
        rw [← hst'.out]
        have l14 := l12.out.below hb14 l12.out.lt
        have b14 := b13.out.trans (hb14.mono b13.out.size)
        have z8 : (Tryd.prog.info? 32).map (·.size) = some (wds st'.list).size := by rw [wds_size]; exact sz32
        replace z8 := Lib.hid z8
        have ho8 : Hid ((wds st.list).size = (wds st'.list).size) := by show _ = _; rw [wds_size, wds_size]; rfl
        have l15 := Lib.hid (l14.setRow (wds st'.list))
        have b15 := Lib.hid (below_setRow (g := b6) b14 (by rw [hb6.out]; exact Nat.le_refl _) (wds st'.list))
        go_wp2_with (refine wpList_store_row rfl 32 _ _ rfl _ _ rfl rfl 32 _ l14 z8.out ho8.out (wds_one _) ?_)
        replace l15 := l15.out
        replace b15 := b15.out
        rw [show st' = runH t (j + 1) by rw [hst'.out, hst.out, hblk.out]; rfl] at l15 b15 ⊢
        go_roundw
        case rel => exact ⟨j + 1, m + 64, by have := hft.out; have := hm.out; simp only [decide_eq_true_eq] at q3'; have := hlt8.out; omega, by show _ = _; rw [hm.out]; omega, by go_num, l15, b15⟩
        case measure => simp [intOf]; simp only [decide_eq_true_eq] at q3'; have := hlt8.out; omega
      · have q3 : decide ((m : Int) < tl) = false := by have := hm.out; have := hft.out; have := hlt8.out; simp; omega
        have q3' : decide (m < tl) = false := by have := hm.out; have := hft.out; have := hlt8.out; simp; omega
        obtain rfl : j = t.length / 64 := by omega
        obtain ⟨st, hst⟩ := name_it (runH t (t.length / 64))
        rw [← hst.out] at l6
        obtain ⟨r, hr⟩ := name_it (sha xs)
        have hrs : r = outB st := by rw [hr.out, hst.out, sha, hash, ht.out]
        replace hrs := Lib.hid hrs
        have hrl : Hid (r.length = 32) := by show _ = _; rw [hrs.out]; exact outB_len _
        have nx := Lib.hid (n5'.out.below b5.out)
        have gx := Lib.hid (g8.out.below b5.out g8.out.lt)
        have bx := Lib.hid (below_all b8.out b5.out)
        clear hlt hj b5 n8 n5' g8 b8
        go_wp2_with fail
        have p1 := parts_one (Blk.new wr 22 #[.slice a3 xs.length k3]) (nx.out.alloc _)
        have b1 := Lib.hid ((Below.refl wr.heap.size wr).alloc (Nat.le_refl _) (.cells #[.slice a3 xs.length k3] 22))
        refine (sum_any _ _ xs _ (by simp) p1 hb.out (by omega) (gx.out.below b1.out gx.out.lt)).mono ?_
        rintro e w2 ⟨rfl, hb2⟩
        rw [← hr.out]
        have b2 := Lib.hid (below_all b1.out hb2)
        have l2 := Lib.hid (l6.out.below b2.out l6.out.lt)
        have g2 := Lib.hid (gx.out.below b2.out gx.out.lt)
        replace bx := Lib.hid (below_all bx.out b2.out)
        clear p1 hb2 b1 b2 gx nx l6
        have z8 : (Tryd.prog.info? 26).map (·.size) = some (bys r).size := by rw [bys_size, hrl.out]; exact sz26
        replace z8 := Lib.hid z8
        have ho8 : Hid ((bys (zb 32)).size = (bys r).size) := by show _ = _; rw [bys_size, bys_size, hrl.out]; rfl
        have l2l := l2.out.lt
        have ln := Lib.hid ((Blk.new w2 26 (bys (zb 32))).setRow (bys r))
        have b3 := Lib.hid (below_setRow (g := w2.heap.size) ((Below.refl w2.heap.size w2).alloc (Nat.le_refl _) (.cells (bys (zb 32)) 26)) (Nat.le_refl _) (bys r))
        have l3 := Lib.hid (l2.out.below b3.out l2l)
        have g3 := Lib.hid (g2.out.below b3.out g2.out.lt)
        replace bx := Lib.hid (below_all bx.out b3.out)
        go_wp2_with (refine wpList_store_row rfl 26 _ _ rfl _ _ rfl rfl 26 _ (Blk.new w2 26 (bys (zb 32))) z8.out ho8.out (bys_one _) ?_)
        obtain ⟨b7, hb7⟩ : ∃ b, b = w2.heap.size := ⟨_, rfl⟩
        change Code.wp _ _ _ _ ((w2.alloc (.cells (bys (zb 32)) 26)).setRow w2.heap.size (bys r))
        generalize (w2.alloc (.cells (bys (zb 32)) 26)).setRow w2.heap.size (bys r) = w3 at ln l3 g3 bx b3 ⊢
        rw [← hb7] at ln ⊢
        clear hb7 b3 l2 g2 z8 ho8 l2l
        go_loopw [14] (fun i wr => ∃ k : Nat, k ≤ 32 ∧ i = .int .i64 k ∧ Hid (Below w3.heap.size w3 wr)) (fun i _ => 32 - (intOf i).toNat)
        case atStart => exact ⟨0, by omega, rfl, Below.refl _ _⟩
        case round =>
          obtain ⟨k, hk, rfl, b4⟩ := hrel
          by_cases hlt : k < 32
          · have hkI : (k : Int) < 32 := by omega
            obtain ⟨q, hq⟩ := name_it (k / 4)
            obtain ⟨m4, hm4⟩ := name_it (k % 4)
            have hqI : (k : Int) / 4 = (q : Int) := by have := hq.out; omega
            have hmI : (k : Int) % 4 = (m4 : Int) := by have := hm4.out; omega
            have hq8 : q < 8 := by have := hq.out; omega
            have hq8I : (q : Int) < 8 := by omega
            have hm3 : m4 < 4 := by have := hm4.out; omega
            have hm3I : (m4 : Int) < 4 := by omega
            obtain ⟨x, hx⟩ := name_it (st.list.getD q 0)
            have cx := (l3.out.below b4.out l3.out.lt).word q hq8
            rw [← hx.out] at cx
            obtain ⟨y, hy⟩ := name_it (outV st k)
            have eb : V x / 2 ^ (24 - 8 * m4) % 256 = y := by
              rw [V_shr, hy.out, outV, ← hq.out, ← hm4.out, hx.out]
            have cc := (ln.out.below b4.out ln.out.lt).byte k (by have := hrl.out; omega)
            rw [show r.getD k 0 = y by rw [hrs.out, outB_at st k hlt, hy.out]; rfl] at cc
            have eq1 : (y != y) = false := by simp
            go_wp2_with fail
            go_quiet (fail)
            replace b4 := Lib.hid (below_drewN b4.out nq)
            go_wp2_with fail
            go_roundw
            case rel => exact ⟨k + 1, by omega, by go_num, b4⟩
            case measure => simp [intOf]; omega
          · obtain rfl : k = 32 := by omega
            go_wp2_with fail
            refine (awake_any wr (g3.out.below b4.out g3.out.lt)).mono ?_
            rintro e w4 ⟨rfl, hb4⟩
            go_wp2_with fail
            go_ret
            exact ⟨rfl, below_all bx.out (below_all b4.out hb4)⟩
end Go.Proofs.YtikmfaeiecpncaaDoor
