/- What is expanded to more bytes: the statement's walk. -/
import Derived.Test.YtikmfaeiecpncaaDoorHF
import Derived.Lib.MinMax
namespace Go.Proofs.YtikmfaeiecpncaaDoor
open Go.RowKit

theorem outO_pre (key info : List Int) (i k : Nat) : ∃ zs, outO key info (i + k) = outO key info i ++ zs := by
  induction k with
  | zero => exact ⟨[], by simp⟩
  | succ k ih =>
    obtain ⟨zs, h⟩ := ih
    exact ⟨zs ++ blkT key info (i + k + 1), by rw [show i + (k + 1) = (i + k) + 1 by omega, outO, h, List.append_assoc]⟩
theorem expand_pre (key info : List Int) (n m : Nat) (h : n ≤ m) : (expand key info m).take n = expand key info n := by
  obtain ⟨k, hk⟩ : ∃ k, (m + 31) / 32 = (n + 31) / 32 + k := ⟨(m + 31) / 32 - (n + 31) / 32, by omega⟩
  obtain ⟨zs, hz⟩ := outO_pre key info ((n + 31) / 32) k
  rw [expand, expand, List.take_take, Nat.min_eq_left h, hk, hz, List.take_append_of_le_length (by rw [outO_len]; omega)]
theorem expand_blk (key info : List Int) (n i : Nat) (h : 32 * (i + 1) ≤ n) : ((expand key info n).take (32 * i + 32)).drop (32 * i) = blkT key info (i + 1) := by
  rw [expand_pre key info (32 * i + 32) n (by omega), expand, show (32 * i + 32 + 31) / 32 = i + 1 by omega, outO]
  rw [List.take_of_length_le (by rw [List.length_append, outO_len, blkT, mac_len]; omega), List.drop_left' (outO_len key info i)]
set_option maxHeartbeats 3200000 in
set_option maxRecDepth 100000 in
theorem grows_any (u v : Value) (key info : List Int) (n0 m0 : Int) (w : World) (hg : Gl w) (hu : NumsAt .u8 w u key) (hv : NumsAt .u8 w v info) (hb : Byt key) (hbi : Byt info) :
    Calls Tryd.prog 7 #[u, v, .int .i64 n0, .int .i64 m0] w fun e w' => e = .returned (.bool true) ∧ Below w.heap.size w w' := by
  obtain ⟨a0, k0, rfl, _⟩ := slice_form hu
  obtain ⟨a1, k1, rfl, _⟩ := slice_form hv
  by_cases hbig : 60 < key.length
  · have q1 : decide ((60 : Int) < key.length) = true := by simp; omega
    go_enter Tryd.func7, Tryd.ntmps7
    go_wp2_with fail
    refine (awake3_any w hg).mono ?_
    rintro e w1 ⟨rfl, hb1⟩
    go_wp2_with fail
    go_ret
    exact ⟨rfl, hb1⟩
  have q1 : decide ((60 : Int) < key.length) = false := by simp; omega
  by_cases hbig2 : 60 < info.length
  · have q2 : decide ((60 : Int) < info.length) = true := by simp; omega
    clear hbig
    go_enter Tryd.func7, Tryd.ntmps7
    go_wp2_with fail
    refine (awake3_any w hg).mono ?_
    rintro e w1 ⟨rfl, hb1⟩
    go_wp2_with fail
    go_ret
    exact ⟨rfl, hb1⟩
  have q2 : decide ((60 : Int) < info.length) = false := by simp; omega
  have hkl : key.length ≤ 60 := by omega
  have hil : info.length ≤ 60 := by omega
  clear hbig hbig2
  obtain ⟨nI, hn, hn0, hn1⟩ := low_name n0 121 (by omega)
  obtain ⟨mI, hm, hm0, hm1⟩ := low_name m0 121 (by omega)
  obtain ⟨n, rfl⟩ := Int.eq_ofNat_of_zero_le hn0
  obtain ⟨m, rfl⟩ := Int.eq_ofNat_of_zero_le hm0
  obtain ⟨p, hp⟩ : ∃ p : Nat, p = min n m := ⟨_, rfl⟩
  obtain ⟨q, hq⟩ : ∃ q : Nat, q = max n m := ⟨_, rfl⟩
  have ep : min (n : Int) m = (p : Int) := by omega
  have eq : max (n : Int) m = (q : Int) := by omega
  have hpq : p ≤ q := by omega
  have hq120 : q ≤ 120 := by omega
  have hpI : (p : Int) ≤ 120 := by omega
  have hqI : (q : Int) ≤ 120 := by omega
  replace hp := Lib.hid hp
  replace hq := Lib.hid hq
  replace hg := Lib.hid hg
  replace hb := Lib.hid hb
  replace hbi := Lib.hid hbi
  replace hu := Lib.hid hu
  replace hv := Lib.hid hv
  go_enter Tryd.func7, Tryd.ntmps7
  go_wp2_with fail
  refine (low_r n0 121 n w hn (by omega) (by omega)).mono ?_
  rintro e w1 ⟨rfl, rfl⟩
  go_wp2_with fail
  refine (low_r m0 121 m w hm (by omega) (by omega)).mono ?_
  rintro e w1 ⟨rfl, rfl⟩
  go_wp2_with fail
  refine (expandN_any _ _ key info p w hg.out hu.out hv.out hb.out hbi.out (by omega) (by omega) (by omega)).mono ?_
  rintro e w1 ⟨v1, rfl, hn1, hb1⟩
  obtain ⟨a5, k5, rfl, _⟩ := slice_form hn1
  rw [expand_len] at hn1 ⊢
  replace hn1 := Lib.hid hn1
  have g1 := Lib.hid (hg.out.below hb1 hg.out.lt)
  have u1 := Lib.hid (hu.out.below hb1)
  have v1 := Lib.hid (hv.out.below hb1)
  replace hb1 := Lib.hid hb1
  go_wp2_with fail
  refine (expandN_any _ _ key info q w1 g1.out u1.out v1.out hb.out hbi.out (by omega) (by omega) (by omega)).mono ?_
  rintro e w2 ⟨v2, rfl, hn2, hb2⟩
  obtain ⟨a6, k6, rfl, _⟩ := slice_form hn2
  obtain ⟨v', hcut, hcut'⟩ := cut_h hn2 (p : Int) (by omega) (by rw [expand_len]; omega)
  rw [expand_len] at hn2 hcut hcut' ⊢
  have nb := Lib.hid (hcut' _ hn2)
  rw [Int.toNat_natCast, expand_pre key info p q hpq] at nb
  obtain ⟨a7, l7, k7, rfl⟩ := slice_any nb.out
  clear hcut'
  replace hn2 := Lib.hid hn2
  replace hn1 := Lib.hid (hn1.out.below hb2)
  have g2 := Lib.hid (g1.out.below hb2 g1.out.lt)
  have u2 := Lib.hid (u1.out.below hb2)
  have v2 := Lib.hid (v1.out.below hb2)
  have b2 := Lib.hid (below_all hb1.out hb2)
  have hsame : (expand key info p == expand key info p) = true := by simp
  have ne1 : ((p : Int) != (p : Int)) = false := by simp
  have ne2 : ((q : Int) != (q : Int)) = false := by simp
  clear hb2 g1 u1 v1 hb1 hg hu hv
  go_wp2_with fail
  refine (same_is _ _ _ _ true w2 nb.out hn1.out hsame).mono ?_
  rintro e w3 ⟨rfl, hb3⟩
  have n3 := Lib.hid (hn2.out.below hb3)
  have g3 := Lib.hid (g2.out.below hb3 g2.out.lt)
  have u3 := Lib.hid (u2.out.below hb3)
  have v3 := Lib.hid (v2.out.below hb3)
  have b3 := Lib.hid (below_all b2.out hb3)
  clear hb3 g2 u2 v2 b2 hn1 hn2 nb hsame
  have hc26 := fun (b : Nat) (w : World) => slice_all arr26 arr26' el26 b 0 w
  go_wp2_with fail
  go_loopw [12, 11] (fun i l wr => ∃ j : Nat, 32 * j ≤ q ∧ i = .int .i64 j ∧ (∃ a n k, l = .slice a n k) ∧ Hid (NumsAt .u8 wr l (blkT key info j)) ∧ Hid (Below w3.heap.size w3 wr)) (fun i _ _ => 200 - (intOf i).toNat)
  case atStart => exact ⟨0, by omega, rfl, ⟨_, _, _, rfl⟩, nums_nil _ _, Below.refl _ _⟩
  case round =>
    obtain ⟨j, hj, rfl, ⟨al, ll, kl, rfl⟩, hl, b4⟩ := hrel
    have hjI : (j : Int) ≤ 4 := by omega
    by_cases hlt : 32 * (j + 1) ≤ q
    · have q3 : decide (32 * ((j : Int) + 1) ≤ q) = true := by simp; omega
      have q3' : decide (32 * (j + 1) ≤ q) = true := by simp; omega
      obtain ⟨c, hc⟩ := name_it (j + 1)
      have ec : (j : Int) + 1 = (c : Int) := by rw [hc.out]; omega
      have hcI : (c : Int) ≤ 5 := by rw [hc.out]; omega
      have hlt' : (32 * (j : Int) + 32) ≤ q := by omega
      have q4 : decide (32 * (c : Int) ≤ q) = true := by rw [hc.out]; simp; omega
      have q4' : decide (32 * c ≤ q) = true := by rw [hc.out]; simp; omega
      have n4 := n3.out.below b4.out
      obtain ⟨vc, ccut, ccut'⟩ := cut_lh n4 (32 * (j : Int)) (32 * (j : Int) + 32) (by omega) (by omega) (by rw [expand_len]; omega)
      rw [show (32 * (j : Int)).toNat = 32 * j by omega, show (32 * (j : Int) + 32).toNat = 32 * j + 32 by omega, expand_blk key info q j hlt] at ccut'
      obtain ⟨ac, lc, kc, rfl⟩ := slice_any (ccut' _ n4)
      replace ccut' := Lib.hid ccut'
      replace n4 := Lib.hid n4
      have g4 := Lib.hid (g3.out.below b4.out g3.out.lt)
      have u4 := Lib.hid (u3.out.below b4.out)
      have v4 := Lib.hid (v3.out.below b4.out)
      replace hj := Lib.hid hj
      replace hlt := Lib.hid hlt
      go_wp2_with fail
      have b5 := ((Below.refl wr.heap.size wr).alloc (Nat.le_refl _) (.cells (bys [(c : Int)]) 5)).alloc (by simp) (.cells #[.slice al ll kl, .slice a1 info.length k1, .slice (some ⟨wr.heap.size, 0, none⟩) 1 1] 22)
      have nc := (nums_lit wr 5 (0, 0) [(c : Int)] 1 rfl (by omega)).alloc (.cells #[.slice al ll kl, .slice a1 info.length k1, .slice (some ⟨wr.heap.size, 0, none⟩) 1 1] 22)
      have p2 := parts_three (Blk.new (wr.alloc (.cells (bys [(c : Int)]) 5)) 22 #[.slice al ll kl, .slice a1 info.length k1, .slice (some ⟨wr.heap.size, 0, none⟩) 1 1]) ((hl.out.alloc _).alloc _) ((v4.out.alloc _).alloc _) nc
      have hfl : ([blkT key info j, info, [(c : Int)]] : List (List Int)).flatten = blkT key info j ++ info ++ [(c : Int)] := by simp
      rw [show (wr.alloc (.cells (bys [(c : Int)]) 5)).heap.size = wr.heap.size + 1 by simp] at p2
      change Calls _ _ _ ((wr.alloc (.cells (bys [(c : Int)]) 5)).alloc (.cells #[.slice al ll kl, .slice a1 info.length k1, .slice (some ⟨wr.heap.size, 0, none⟩) 1 1] 22)) _
      have hTl := blkT_len key info j
      have hTs : mac key (blkT key info j ++ info ++ [(c : Int)]) = blkT key info (j + 1) := by rw [hc.out, blkT, Nat.mod_eq_of_lt (show j + 1 < 256 by omega)]
      refine (mac_any _ _ key _ _ _ (g4.out.below b5 g4.out.lt) (u4.out.below b5) p2 hfl hb.out (byt_app (byt_app (byt_T _ _ _) hbi.out) (byt_of (by simp; omega))) (by omega) (by simp; omega) (by simp)).mono ?_
      rintro e w6 ⟨rfl, hb6⟩
      rw [hTs]
      obtain ⟨z, hz⟩ := name_it (blkT key info (j + 1))
      have hzl : Hid (z.length = 32) := by show _ = _; rw [hz.out, blkT]; exact mac_len _ _
      rw [← hz.out] at ccut' ⊢
      have b6 := Lib.hid (b4.out.trans ((below_all b5 hb6).mono b4.out.size))
      have n6 := Lib.hid (n4.out.below (below_all b5 hb6))
      clear b5 nc p2 hfl hb6 hTs hTl g4 u4 v4 n4 hl
      have z8 : (Tryd.prog.info? 26).map (·.size) = some (bys z).size := by rw [bys_size, hzl.out]; exact sz26
      replace z8 := Lib.hid z8
      have ho8 : Hid ((bys (zb 32)).size = (bys z).size) := by show _ = _; rw [bys_size, bys_size, hzl.out]; rfl
      have ln := Lib.hid ((Blk.new w6 26 (bys (zb 32))).setRow (bys z))
      have b7 := Lib.hid (below_setRow (g := w6.heap.size) ((Below.refl w6.heap.size w6).alloc (Nat.le_refl _) (.cells (bys (zb 32)) 26)) (Nat.le_refl _) (bys z))
      obtain ⟨w7, hw7⟩ : ∃ x, x = (w6.alloc (.cells (bys (zb 32)) 26)).setRow w6.heap.size (bys z) := ⟨_, rfl⟩
      rw [← hw7] at ln b7
      have nz := Lib.hid (ln.out.nums 32 hzl.out (by omega))
      have n7 := Lib.hid (ccut'.out _ (n6.out.below b7.out))
      have b8 := Lib.hid (b6.out.trans (b7.out.mono b6.out.size))
      replace hw7 := Lib.hid hw7
      have hsz : (z == z) = true := by simp
      clear ln b7 n6 b6 ccut'
      go_wp2_with (refine wpList_store_row rfl 26 _ _ rfl _ _ rfl rfl 26 _ (Blk.new w6 26 (bys (zb 32))) z8.out ho8.out (bys_one _) ?_; change wpList _ _ _ _ _ ((w6.alloc (.cells (bys (zb 32)) 26)).setRow w6.heap.size (bys z)); rw [← hw7.out])
      refine (same_is _ _ z z true w7 n7.out nz.out hsz).mono ?_
      rintro e w8 ⟨rfl, hb8⟩
      have n8 := n7.out.below hb8
      have b9 := b8.out.trans (hb8.mono b8.out.size)
      rw [hz.out] at n8
      clear hb8
      go_wp2_with fail
      go_roundw
      case rel => exact ⟨j + 1, hlt.out, by rw [← ec]; go_num, ⟨_, _, _, rfl⟩, n8, b9⟩
      case measure => simp [intOf]; omega
    · have q3 : decide (32 * ((j : Int) + 1) ≤ q) = false := by simp; omega
      have q3' : decide (32 * (j + 1) ≤ q) = false := by simp; omega
      clear hlt
      replace hj := Lib.hid hj
      go_wp2_with fail
      refine (awake3_any wr (g3.out.below b4.out g3.out.lt)).mono ?_
      rintro e w9 ⟨rfl, hb9⟩
      go_wp2_with fail
      go_ret
      exact ⟨rfl, below_all b3.out (below_all b4.out hb9)⟩
end Go.Proofs.YtikmfaeiecpncaaDoor
