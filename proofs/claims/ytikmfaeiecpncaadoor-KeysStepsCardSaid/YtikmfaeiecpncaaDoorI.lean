/- The digest, walked: the reference's Sum. -/
import Derived.Test.YtikmfaeiecpncaaDoorH
import Derived.Test.YtikmfaeiecpncaaDoorF2
namespace Go.Proofs.YtikmfaeiecpncaaDoor
open Go.RowKit

theorem blkAt_cut (t : List Int) (j : Nat) : (t.take (64 * j + 64)).drop (64 * j) = blkAt t j := by
  rw [List.drop_take, blkAt]; congr 1; omega
set_option maxHeartbeats 1600000 in
set_option maxRecDepth 100000 in
theorem rsum_any (u : Value) (xs : List Int) (w : World) (hu : NumsAt .u8 w u xs) (hb : Byt xs) (hl : xs.length ≤ 100000) :
    Calls Tryd.prog 18 #[u] w fun e w' => e = .returned (.agg (bys (sha xs))) ∧ Below w.heap.size w w' := by
  obtain ⟨r, hr⟩ := name_it (sha xs)
  rw [← hr.out]
  obtain ⟨i0, hi, hz0, hz1, hz2⟩ := info_parts info5
  replace hb := Lib.hid hb
  have hu1 := Lib.hid (hu.below ((Below.refl w.heap.size w).alloc (Nat.le_refl _) (.cells (bys (zb 32)) 26)))
  obtain ⟨au, cu, rfl, _⟩ := slice_form hu
  have hpl2 := padL_len xs.length
  have hpz := padZ_lt xs.length
  have l2 := Lib.hid (Blk.new w 26 (bys (zb 32)))
  have b1 := Lib.hid ((Below.refl w.heap.size w).alloc (Nat.le_refl _) (.cells (bys (zb 32)) 26))
  have hw1 : (w.alloc (.cells (bys (zb 32)) 26)).heap.size = w.heap.size + 1 := by simp
  clear hu
  go_enter Tryd.func18, Tryd.ntmps18
  go_wp2_with (at_builtin; refine wpList_append_nums rfl _ _ 22 rfl .u8 (w.heap.size + 1) 5 i0 1 Tryd.underlying22 hi hz0 hz1 hz2 _ _ [] xs rfl (OwnNums.nil _ _ _ _) rfl hu1.out (by simp; omega) (by simp; omega) (by simp) ?_; intro v3 w3 hown3 hgr3; replace hown3 := Lib.hid hown3; replace hgr3 := Lib.hid hgr3)
  refine (refPad_any xs.length _ (by omega)).mono ?_
  rintro e w4 ⟨v4, rfl, hpad, hb4⟩
  have hown3 : OwnNums .u8 5 w3 (w.heap.size + 1) v3 xs := hown3.out
  have b3 := b1.out.grown hgr3.out (by omega) (fun j hj => by cases hj)
  have l3 := l2.out.grown hgr3.out (fun e => by cases e)
  have hown4 := Lib.hid (hown3.below hb4)
  have l4 := Lib.hid (l3.below hb4 l3.lt)
  have b4 := Lib.hid (b3.trans (hb4.mono b3.size))
  have hpn := Lib.hid hpad.nums
  have hsz4 := l4.out.lt
  have hne := Lib.hid hown4.out.lt
  clear hown3 hgr3 hpad hb4 b3 l3 l2 b1 hu1 hw1
  go_wp2_with (at_builtin; refine wpList_append_nums rfl _ _ 22 rfl .u8 (w.heap.size + 1) 5 i0 1 Tryd.underlying22 hi hz0 hz1 hz2 _ _ xs (padL xs.length) rfl hown4.out rfl hpn.out (by omega) (by omega) (by omega) ?_; intro v5 w5 hown5 hgr5; replace hown5 := Lib.hid hown5; replace hgr5 := Lib.hid hgr5)
  refine (consts_any _).mono ?_
  rintro e w6 ⟨rfl, hb6⟩
  have b5 := b4.out.grown hgr5.out (by omega) (fun j hj => by have := hne.out j hj; omega)
  have l5 := l4.out.grown hgr5.out (fun e => by have := hne.out _ e.symm; omega)
  have hown5 : OwnNums .u8 5 w5 (w.heap.size + 1) v5 (full xs) := hown5.out
  have hft := full_len xs
  have hbf := byt_full hb.out
  obtain ⟨t, ht⟩ := name_it (full xs)
  rw [← ht.out] at hown5 hft hbf
  replace hbf := Lib.hid hbf
  replace hft := Lib.hid hft
  have htl : t.length ≤ 100200 := by rw [ht.out]; simp [full]; omega
  have hn5 := hown5.nums
  have n6 := hn5.below hb6
  have l6 := l5.below hb6 l5.lt
  have b6 := b5.trans (hb6.mono b5.size)
  have hsz6 := l6.lt
  have ls := (Blk.new w6 75 (wds (zeros 64))).setRow (wds Kc)
  have b7 := below_setRow (g := w6.heap.size) ((Below.refl w6.heap.size w6).alloc (Nat.le_refl _) (.cells (wds (zeros 64)) 75)) (Nat.le_refl _) (wds Kc)
  have n7 := Lib.hid (n6.below b7)
  have l7 := Lib.hid (l6.below b7 l6.lt)
  replace b7 := Lib.hid (b6.trans (b7.mono b6.size))
  replace ls := Lib.hid ls
  have zk : (Tryd.prog.info? 75).map (·.size) = some (wds Kc).size := by rw [wds_size]; exact sz75
  replace zk := Lib.hid zk
  have hk : Hid ((wds (zeros 64)).size = (wds Kc).size) := by show _ = _; rw [wds_size, wds_size]; rfl
  clear hn5 n6 l5 b5 hown5 hgr5 hb6 l6 b6 l4 b4 hown4 hpn hne hsz4
  go_wp2_with (refine wpList_store_row rfl 75 _ _ rfl w6.heap.size (wds Kc) rfl rfl 75 _ (Blk.new w6 75 (wds (zeros 64))) zk.out hk.out (wds_one _) ?_)
  refine (start_any _).mono ?_
  rintro e w8 ⟨rfl, hb8⟩
  obtain ⟨bk, hbk⟩ : ∃ b, b = w6.heap.size := ⟨_, rfl⟩
  change Below (((w6.alloc (.cells (wds (zeros 64)) 75)).setRow w6.heap.size (wds Kc))).heap.size ((w6.alloc (.cells (wds (zeros 64)) 75)).setRow w6.heap.size (wds Kc)) w8 at hb8
  generalize (w6.alloc (.cells (wds (zeros 64)) 75)).setRow w6.heap.size (wds Kc) = w7 at ls l7 b7 n7 hb8
  rw [← hbk] at ls hsz6 ⊢
  clear hbk
  have n8 := Lib.hid (n7.out.below hb8)
  have l8 := Lib.hid (l7.out.below hb8 l7.out.lt)
  have b8 := Lib.hid (b7.out.trans (hb8.mono b7.out.size))
  have k8 := Lib.hid (ls.out.below hb8 ls.out.lt)
  clear n7 l7 b7 ls hb8
  have ls := Lib.hid ((Blk.new w8 32 (wds (zeros 8))).setRow (wds H0.list))
  have b9 := Lib.hid (below_setRow (g := w8.heap.size) ((Below.refl w8.heap.size w8).alloc (Nat.le_refl _) (.cells (wds (zeros 8)) 32)) (Nat.le_refl _) (wds H0.list))
  have z8 : (Tryd.prog.info? 32).map (·.size) = some (wds H0.list).size := by rw [wds_size]; exact sz32
  replace z8 := Lib.hid z8
  have ho8 : Hid ((wds (zeros 8)).size = (wds H0.list).size) := by show _ = _; rw [wds_size, wds_size]; rfl
  go_wp2_with (refine wpList_store_row rfl 32 _ _ rfl w8.heap.size (wds H0.list) rfl rfl 32 _ (Blk.new w8 32 (wds (zeros 8))) z8.out ho8.out (wds_one _) ?_)
  obtain ⟨b6, hb6⟩ : ∃ b, b = w8.heap.size := ⟨_, rfl⟩
  change Code.wp _ _ _ _ ((w8.alloc (.cells (wds (zeros 8)) 32)).setRow w8.heap.size (wds H0.list))
  generalize (w8.alloc (.cells (wds (zeros 8)) 32)).setRow w8.heap.size (wds H0.list) = w9 at ls b9 ⊢
  rw [← hb6] at ls ⊢
  replace hb6 := Lib.hid hb6
  clear z8 ho8 zk hk
  obtain ⟨at5, cap5, rfl, _⟩ := slice_form n8.out
  have hkl := k8.out.lt
  go_loopw [6] (fun v wr => ∃ j m : Nat, j ≤ t.length / 64 ∧ Hid (m = 64 * j) ∧ v = .int .i64 m ∧ Hid (Blk wr b6 32 (wds (runH t j).list)) ∧ Hid (Below w8.heap.size w8 wr)) (fun v _ => t.length - (intOf v).toNat)
  case atStart => exact ⟨0, 0, Nat.zero_le _, rfl, rfl, ls, b9⟩
  case round =>
    clear ls b9
    obtain ⟨j, m, hj, hm, rfl, l6, b5⟩ := hrel
    have hmb : (m : Int) < 200000 := by have := hm.out; have := hft.out; omega
    by_cases hlt : j < t.length / 64
    · have hle : (m : Int) + 64 ≤ t.length := by have := hm.out; have := hft.out; omega
      have hle2 : m + 64 ≤ t.length := by omega
      obtain ⟨v', hcut, hcut'⟩ := cut_lh n8.out (m : Int) ((m : Int) + 64) (by omega) (by omega) (by omega)
      rw [show (m : Int).toNat = 64 * j by have := hm.out; omega, show ((m : Int) + 64).toNat = 64 * j + 64 by have := hm.out; omega, blkAt_cut] at hcut'
      obtain ⟨st, hst⟩ := name_it (runH t j)
      rw [← hst.out] at l6
      obtain ⟨blk, hblk⟩ := name_it (blkAt t j)
      have hbl : blk.length = 64 := by rw [hblk.out]; exact blkAt_len _ _ (by have := hm.out; omega)
      have hbb : Hid (Byt blk) := by show Byt _; rw [hblk.out]; exact byt_blk hbf.out j
      rw [← hblk.out] at hcut'
      replace hcut' := Lib.hid hcut'
      obtain ⟨st', hst'⟩ := name_it (comp st blk)
      go_wp2_with fail
      refine region_rel_lit (.step (.step (.step (.step (.step (.step (.step (.base _)))))))) (fun i _ v => match i with
        | 0 => v = .agg (wds st.list)
        | 1 => v = .slice at5 t.length cap5
        | 2 => v = .int .i64 m
        | 3 => v = .int .i64 m
        | 4 => v = .int .i64 ((m : Int) + 64)
        | 5 => v = v'
        | _ => v = .agg (wds st'.list)) mixed (by kernel_rfl) (by kernel_rfl) ?_ ?_ ?_
      · rintro (_ | _ | _ | _ | _ | _ | i) w w' v h _ <;> exact h
      · intro i oi hoi x w5 hb5 hd
        rcases i with _ | _ | _ | _ | _ | _ | _ | i
        · obtain rfl := Option.some.inj hoi
          simp only [fill, Act.put, List.setIfInBounds_toArray, List.set_cons_succ, List.set_cons_zero]
          go_wp2_with (refine wpList_load_row rfl 32 _ rfl _ rfl 32 _ _ _ (l6.out.below hb5 l6.out.lt) arr32 rfl (by rw [wds_size]; exact sz32) ?_)
          exact ⟨_, rfl, Below.refl _ _, rfl⟩
        · obtain rfl := Option.some.inj hoi
          simp only [fill, Act.put, List.setIfInBounds_toArray, List.set_cons_succ, List.set_cons_zero]
          go_wp2_with fail
          exact ⟨_, rfl, Below.refl _ _, rfl⟩
        · obtain rfl := Option.some.inj hoi
          simp only [fill, Act.put, List.setIfInBounds_toArray, List.set_cons_succ, List.set_cons_zero]
          go_wp2_with fail
          exact ⟨_, rfl, Below.refl _ _, rfl⟩
        · obtain rfl := Option.some.inj hoi
          simp only [fill, Act.put, List.setIfInBounds_toArray, List.set_cons_succ, List.set_cons_zero]
          go_wp2_with fail
          exact ⟨_, rfl, Below.refl _ _, rfl⟩
        · obtain rfl := Option.some.inj hoi
          have h0 : x 3 = .int .i64 m := hd 3 (by kernel_rfl)
          simp only [fill, Act.put, List.setIfInBounds_toArray, List.set_cons_succ, List.set_cons_zero, h0]
          go_wp2_with fail
          exact ⟨_, rfl, Below.refl _ _, rfl⟩
        · obtain rfl := Option.some.inj hoi
          have h1 : x 1 = .slice at5 t.length cap5 := hd 1 (by kernel_rfl)
          have h2 : x 2 = .int .i64 m := hd 2 (by kernel_rfl)
          have h4 : x 4 = .int .i64 ((m : Int) + 64) := hd 4 (by kernel_rfl)
          simp only [fill, Act.put, List.setIfInBounds_toArray, List.set_cons_succ, List.set_cons_zero, h1, h2, h4]
          go_wp2_with fail
          exact ⟨_, rfl, Below.refl _ _, rfl⟩
        · obtain rfl := Option.some.inj hoi
          have h0 : x 0 = .agg (wds st.list) := hd 0 (by kernel_rfl)
          have h5 : x 5 = v' := hd 5 (by kernel_rfl)
          simp only [fill, Act.put, List.setIfInBounds_toArray, List.set_cons_succ, List.set_cons_zero, h0, h5]
          go_wp2_with fail
          refine (rstep_any st blk v' bk w5 hbl (byt_fun hbb.out) ((hcut'.out _ (n8.out.below b5.out)).below ⟨hb5.os, hb5.tape, hb5.output, hb5.size, hb5.block⟩) ((k8.out.below b5.out hkl).below hb5 (by have := b5.out.size; omega))).mono ?_
          rintro e w6 ⟨rfl, hb7⟩
          go_wp2_with fail
          exact ⟨_, rfl, hb7, by rw [hst'.out]⟩
        · cases hoi
      · intro x w5 hb5 hd
        have h6 : x 6 = .agg (wds st'.list) := hd 6 (by decide)
        have z8 : (Tryd.prog.info? 32).map (·.size) = some (wds st'.list).size := by rw [wds_size]; exact sz32
        replace z8 := Lib.hid z8
        have ho8 : Hid ((wds st.list).size = (wds st'.list).size) := by show _ = _; rw [wds_size, wds_size]; rfl
        have l6 := l6.out.below hb5 l6.out.lt
        have l6' := Lib.hid (l6.setRow (wds st'.list))
        have b6' := Lib.hid (below_setRow (g := b6) (b5.out.trans (hb5.mono b5.out.size)) (by rw [hb6.out]; exact Nat.le_refl _) (wds st'.list))
        simp only [fill, Act.put, List.setIfInBounds_toArray, List.set_cons_succ, List.set_cons_zero, h6]
        go_wp2_with (refine wpList_store_row rfl 32 _ _ rfl _ _ rfl rfl 32 _ l6 z8.out ho8.out (wds_one _) ?_)
        replace l6' := l6'.out
        replace b6' := b6'.out
        rw [show st' = runH t (j + 1) by rw [hst'.out, hst.out, hblk.out]; rfl] at l6' b6' ⊢
        go_roundw
        case rel => exact ⟨j + 1, m + 64, by omega, by show _ = _; rw [hm.out]; omega, by go_num, l6', b6'⟩
        case measure => simp [intOf]; omega
    · have hft' := hft.out
      obtain rfl : j = t.length / 64 := by omega
      have hle : ¬ (m : Int) + 64 ≤ t.length := by have := hm.out; omega
      have hle2 : ¬ m + 64 ≤ t.length := by omega
      obtain ⟨st, hst⟩ := name_it (runH t (t.length / 64))
      rw [← hst.out] at l6
      have hrs : r = outB st := by rw [hr.out, hst.out, sha, hash, ht.out]
      replace hrs := Lib.hid hrs
      have l2 := Lib.hid (l8.out.below b5.out l8.out.lt)
      replace b5 := Lib.hid (b8.out.trans (b5.out.mono b8.out.size))
      have hsz5 := l2.out.lt
      have h6l := l6.out.lt
      clear hft' hlt hj l8 b8 n8 k8
      go_wp2_with fail
      have ln := Lib.hid (show Blk (wr.alloc (.cells (bys (zb 32)) 26)) wr.heap.size 26 (bys (outS st 0)) from Blk.new wr 26 (bys (zb 32)))
      replace l2 := Lib.hid (l2.out.alloc (.cells (bys (zb 32)) 26))
      replace l6 := Lib.hid (l6.out.alloc (.cells (bys (zb 32)) 26))
      replace b5 := Lib.hid (b5.out.alloc (by omega) (.cells (bys (zb 32)) 26))
      obtain ⟨b7, hb7⟩ : ∃ b, b = wr.heap.size := ⟨_, rfl⟩
      change Code.wp _ _ _ _ (wr.alloc (.cells (bys (zb 32)) 26))
      generalize wr.alloc (.cells (bys (zb 32)) 26) = w6 at ln l2 l6 b5 ⊢
      rw [← hb7] at ln hsz5 h6l ⊢
      clear hb7
      go_loopw [8] (fun i wr => ∃ k : Nat, k ≤ 32 ∧ i = .int .i64 k ∧ Hid (Blk wr b7 26 (bys (outS st k))) ∧ Hid (Blk wr w.heap.size 26 (bys (zb 32))) ∧ Hid (Blk wr b6 32 (wds st.list)) ∧ Hid (Below w.heap.size w wr)) (fun i _ => 32 - (intOf i).toNat)
      case atStart => exact ⟨0, by omega, rfl, ln, l2, l6, b5⟩
      case round =>
        clear ln l2 b5 l6
        obtain ⟨k, hk, rfl, ln, l2, l6, b5⟩ := hrel
        by_cases hlt : k < 32
        · have hkI : (k : Int) < 32 := by omega
          obtain ⟨q, hq⟩ := name_it (k / 4)
          obtain ⟨m4, hm4⟩ := name_it (k % 4)
          have hqI : (k : Int) / 4 = (q : Int) := by have := hq.out; omega
          have hmI : (k : Int) % 4 = (m4 : Int) := by have := hm4.out; omega
          have hq8 : q < 8 := by have := hq.out; omega
          have hm3 : m4 < 4 := by have := hm4.out; omega
          obtain ⟨x, hx⟩ := name_it (st.list.getD q 0)
          have cx := l6.out.word q hq8
          rw [← hx.out] at cx
          obtain ⟨y, hy⟩ := name_it (outV st k)
          have eb : V x / 2 ^ (24 - 8 * m4) % 256 = y := by
            rw [V_shr, hy.out, outV, ← hq.out, ← hm4.out, hx.out]
          have ff := ln.out.fr k
          have cc := ln.out.byte k (by rw [outS_len]; omega)
          go_wp2_with fail
          have ln' := ln.out.setByte k y
          rw [show (outS st k).set k y = outS st (k + 1) by rw [hy.out]; rfl] at ln'
          have l2' := l2.out.setOther (b' := b7) (o := k) (.int .u8 y) (by omega)
          have l6' := l6.out.setOther (b' := b7) (o := k) (.int .u8 y) (by omega)
          have b5' := b5.out.setCell (p := ⟨b7, k, none⟩) (by show _ ≤ b7; omega) (.int .u8 y)
          go_roundw
          case rel => exact ⟨k + 1, by omega, by go_num, ln', l2', l6', b5'⟩
          case measure => simp [intOf]; omega
        · obtain rfl : k = 32 := by omega
          have ln := ln.out
          rw [outS_all, ← hrs.out] at ln
          have hrl : r.length = 32 := by rw [hrs.out]; exact outB_len _
          have z8 : (Tryd.prog.info? 26).map (·.size) = some (bys r).size := by rw [bys_size, hrl]; exact sz26
          replace z8 := Lib.hid z8
          have ho8 : Hid ((bys (zb 32)).size = (bys r).size) := by show _ = _; rw [bys_size, bys_size, hrl]; rfl
          have l3 := Lib.hid (l2.out.setRow (bys r))
          have b3 := Lib.hid (below_setRow b5.out (Nat.le_refl _) (bys r))
          go_wp2_with (first
            | refine wpList_load_row rfl 26 _ rfl _ rfl 26 _ _ _ ln arr26 rfl z8.out ?_
            | refine wpList_store_row rfl 26 _ _ rfl _ _ rfl rfl 26 _ l2.out z8.out ho8.out (bys_one _) ?_)
          replace l3 := l3.out
          replace b3 := b3.out
          generalize wr.setRow w.heap.size (bys r) = w9 at l3 b3 ⊢
          exact bodyPost_ret (results_cell_row rfl _ _ _ 26 _ _ _ rfl l3 arr26 rfl z8.out) rfl ⟨rfl, b3⟩
end Go.Proofs.YtikmfaeiecpncaaDoor
