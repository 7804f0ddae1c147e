/- What is expanded, and labelled: it is the call's own. -/
import Derived.Test.YtikmfaeiecpncaaDoorKA
namespace Go.Proofs.YtikmfaeiecpncaaDoor
open Go.RowKit

set_option maxHeartbeats 1600000 in
set_option maxRecDepth 100000 in
theorem expandO_any (u v : Value) (key info : List Int) (n : Nat) (w : World) (hg : Gl w) (hu : NumsAt .u8 w u key) (hv : NumsAt .u8 w v info) (hb : Byt key) (hbt : Byt info) (hl : key.length ≤ 10000) (hlt : info.length ≤ 5000) (hn : n ≤ 8160) (hn0 : 0 < n) :
    Calls Tryd.prog 26 #[u, v, .int .i64 n] w fun e w' => ∃ v', e = .returned v' ∧ NumsAt .u8 w' v' (expand key info n) ∧ CutAt w' w.heap.size v' (expand key info n) ∧ Below w.heap.size w w' := by
  obtain ⟨i0, hi, hz0, hz1, hz2⟩ := info_parts info5
  obtain ⟨a0, k0, rfl, _⟩ := slice_form hu
  obtain ⟨a1, l1, k1, rfl⟩ := slice_any hv
  have hc26 := fun (b : Nat) (w : World) => slice_all arr26 arr26' el26 b 0 w
  replace hg := Lib.hid hg
  replace hu := Lib.hid hu
  replace hv := Lib.hid hv
  replace hb := Lib.hid hb
  replace hbt := Lib.hid hbt
  have q1 : decide ((n : Int) < 0) = false := by simp
  have q2 : decide ((8160 : Int) < n) = false := by simp; omega
  have q2' : decide (8160 < n) = false := by simp; omega
  have hnI : (n : Int) ≤ 8160 := by omega
  obtain ⟨m, hm⟩ := name_it ((n + 31) / 32)
  go_enter Tryd.func26, Tryd.ntmps26
  go_wp2_with fail
  go_loopw [7, 8, 9] (fun o l c wr => ∃ i t : Nat, i ≤ m ∧ Hid (t = 32 * i) ∧ c = .int .u8 (((i + 1) % 256 : Nat) : Int) ∧ (∃ a k, o = .slice a t k) ∧ (∃ a n k, l = .slice a n k) ∧ Hid (OwnNums .u8 5 wr w.heap.size o (outO key info i)) ∧ Hid (NumsAt .u8 wr l (blkT key info i)) ∧ Hid (Below w.heap.size w wr)) (fun o _ _ _ => match o with | .slice _ l _ => 9000 - l | _ => 0)
  case atStart => exact ⟨0, 0, Nat.zero_le _, rfl, rfl, ⟨_, _, rfl⟩, ⟨_, _, _, rfl⟩, OwnNums.nil _ _ _ _, nums_nil _ _, Below.refl _ _⟩
  case round =>
    obtain ⟨i, t, him, ht, rfl, ⟨ao, ko, rfl⟩, ⟨al, ll, kl, rfl⟩, hown, hlast, b1⟩ := hrel
    by_cases hlt2 : t < n
    · have q3 : (t : Int) < n := by omega
      have hti : i < m := by have := ht.out; have := hm.out; omega
      obtain ⟨c, hc⟩ := name_it ((i + 1) % 256)
      have hcI : (c : Int) < 256 := by have := hc.out; omega
      have htI : (t : Int) ≤ 8160 := by omega
      rw [← hc.out]
      go_wp2_with fail
      have b2 := ((Below.refl wr.heap.size wr).alloc (Nat.le_refl _) (.cells (bys [(c : Int)]) 5)).alloc (by simp) (.cells #[.slice al ll kl, .slice a1 l1 k1, .slice (some ⟨wr.heap.size, 0, none⟩) 1 1] 22)
      have g2 := (hg.out.below b1.out hg.out.lt).below b2 (hg.out.below b1.out hg.out.lt).lt
      have u2 := (hu.out.below b1.out).below b2
      have nc := (nums_lit wr 5 (0, 0) [(c : Int)] 1 rfl (by omega)).alloc (.cells #[.slice al ll kl, .slice a1 l1 k1, .slice (some ⟨wr.heap.size, 0, none⟩) 1 1] 22)
      have p2 := parts_three (Blk.new (wr.alloc (.cells (bys [(c : Int)]) 5)) 22 #[.slice al ll kl, .slice a1 l1 k1, .slice (some ⟨wr.heap.size, 0, none⟩) 1 1]) ((hlast.out.alloc _).alloc _) (((hv.out.below b1.out).alloc _).alloc _) nc
      have hfl : ([blkT key info i, info, [(c : Int)]] : List (List Int)).flatten = blkT key info i ++ info ++ [(c : Int)] := by simp
      rw [show (wr.alloc (.cells (bys [(c : Int)]) 5)).heap.size = wr.heap.size + 1 by simp] at p2
      change Calls _ _ _ ((wr.alloc (.cells (bys [(c : Int)]) 5)).alloc (.cells #[.slice al ll kl, .slice a1 l1 k1, .slice (some ⟨wr.heap.size, 0, none⟩) 1 1] 22)) _
      have hTl := blkT_len key info i
      refine (mac_any _ _ key _ _ _ g2 u2 p2 hfl hb.out (byt_app (byt_app (byt_T _ _ _) hbt.out) (by rw [hc.out]; exact byt_one _)) hl (by simp; omega) (by simp)).mono ?_
      rintro e w3 ⟨rfl, hb3⟩
      have hTs : mac key (blkT key info i ++ info ++ [(c : Int)]) = blkT key info (i + 1) := by rw [hc.out]; rfl
      rw [hTs]
      obtain ⟨z, hz⟩ := name_it (blkT key info (i + 1))
      have hzl : Hid (z.length = 32) := by show _ = _; rw [hz.out, blkT]; exact mac_len _ _
      rw [← hz.out]
      have b3 := Lib.hid (below_all b2 hb3)
      have own3 := Lib.hid (hown.out.below b3.out)
      have b4 := Lib.hid (b1.out.trans (b3.out.mono b1.out.size))
      clear b2 g2 u2 nc p2 hfl hb3 hTs hTl
      have z8 : (Tryd.prog.info? 26).map (·.size) = some (bys z).size := by rw [bys_size, hzl.out]; exact sz26
      replace z8 := Lib.hid z8
      have ho8 : Hid ((bys (zb 32)).size = (bys z).size) := by show _ = _; rw [bys_size, bys_size, hzl.out]; rfl
      have ln := Lib.hid ((Blk.new w3 26 (bys (zb 32))).setRow (bys z))
      have b5 := Lib.hid (below_setRow (g := w3.heap.size) ((Below.refl w3.heap.size w3).alloc (Nat.le_refl _) (.cells (bys (zb 32)) 26)) (Nat.le_refl _) (bys z))
      obtain ⟨w5, hw5⟩ : ∃ x, x = (w3.alloc (.cells (bys (zb 32)) 26)).setRow w3.heap.size (bys z) := ⟨_, rfl⟩
      rw [← hw5] at ln b5
      have own5 := Lib.hid (own3.out.below b5.out)
      have b6 := Lib.hid (below_all b4.out b5.out)
      have nz := Lib.hid (ln.out.nums 32 hzl.out (by omega))
      have hol := outO_len key info i
      replace hol := Lib.hid hol
      replace hw5 := Lib.hid hw5
      have hlt5 := own5.out.lt
      replace hlt5 := Lib.hid hlt5
      go_wp2_with (first
        | (refine wpList_store_row rfl 26 _ _ rfl _ _ rfl rfl 26 _ (Blk.new w3 26 (bys (zb 32))) z8.out ho8.out (bys_one _) ?_; change wpList _ _ _ _ _ ((w3.alloc (.cells (bys (zb 32)) 26)).setRow w3.heap.size (bys z)); rw [← hw5.out])
        | (at_builtin; refine wpList_append_nums rfl _ _ 22 rfl .u8 w.heap.size 5 i0 1 Tryd.underlying22 hi hz0 hz1 hz2 _ _ (outO key info i) z rfl own5.out rfl nz.out (by rw [hol.out, hzl.out]; have := ht.out; omega) (by rw [hol.out, hzl.out]; have := ht.out; omega) b6.out.size ?_; intro v7 w7 hown7 hgr7; obtain ⟨a7, c7, rfl, _⟩ := slice_form hown7.nums; rw [show (outO key info i ++ z).length = t + 32 by rw [List.length_append, hol.out, hzl.out, ht.out]]; replace hown7 := Lib.hid hown7; replace hgr7 := Lib.hid hgr7))
      have b7 := b6.out.grown hgr7.out b6.out.size hlt5.out
      have nz7 : NumsAt .u8 w7 (.slice (some ⟨w3.heap.size, 0, none⟩) 32 32) z := by
        have hne := hlt5.out
        have l7 := ln.out.grown hgr7.out (fun e => by
          have h5 := World.ownsRow.lt own3.out _ e.symm
          omega)
        exact l7.nums 32 hzl.out (by omega)
      have own7 : OwnNums .u8 5 w7 w.heap.size (.slice a7 (t + 32) c7) (outO key info (i + 1)) := by
        have := hown7.out
        rw [show (outO key info i ++ z).length = t + 32 by rw [List.length_append, hol.out, hzl.out, ht.out], hz.out] at this
        exact this
      rw [hz.out] at nz7
      go_roundw
      case rel => exact ⟨i + 1, t + 32, by omega, by show _ = _; rw [ht.out]; omega, by rw [hc.out]; go_num, ⟨_, _, by go_num⟩, ⟨_, _, _, rfl⟩, own7, nz7, b7⟩
      case measure => simp; omega
    · have q3 : decide ((t : Int) < n) = false := by simp; omega
      have q3' : decide (t < n) = false := by simp; omega
      obtain rfl : i = m := by have := ht.out; have := hm.out; omega
      have hol := outO_len key info i
      have nO := hown.out.nums
      obtain ⟨v', hcut, nv, cv⟩ := cut_own hown.out n hn0 (by rw [hol]; have := ht.out; omega)
      rw [show (outO key info i).take n = expand key info n by rw [hm.out]; rfl] at nv cv
      replace nv := Lib.hid nv
      replace cv := Lib.hid cv
      clear nO hol
      go_wp2_with fail
      go_ret
      exact ⟨_, rfl, nv.out, cv.out, b1.out⟩
set_option maxHeartbeats 1600000 in
set_option maxRecDepth 100000 in
theorem labelO_any (u v : Value) (secret ctx : List Int) (s : ByteArray) (m : Nat) (w : World) (hg : Gl w) (hu : NumsAt .u8 w u secret) (hv : NumsAt .u8 w v ctx) (hb : Byt secret) (hbc : Byt ctx) (hl : secret.length ≤ 10000) (hs249 : s.size ≤ 249) (hc255 : ctx.length ≤ 255) (hm0 : 0 < m) (hm1 : m ≤ 8160) :
    Calls Tryd.prog 29 #[u, .string s, v, .int .i64 m] w fun e w' => ∃ v', e = .returned v' ∧ NumsAt .u8 w' v' (labelI secret (strB s) ctx m) ∧ CutAt w' w.heap.size v' (labelI secret (strB s) ctx m) ∧ Below w.heap.size w w' := by
  obtain ⟨i0, hi, hz0, hz1, hz2⟩ := info_parts info5
  obtain ⟨a0, l0, k0, rfl⟩ := slice_any hu
  have hcm := hv.len
  obtain ⟨a1, k1, rfl, _⟩ := slice_form hv
  have hsl := strB_len s
  have hcI : (ctx.length : Int) ≤ 9223372036854775807 := by omega
  have hsI : (s.size : Int) ≤ 9223372036854775000 := by omega
  obtain ⟨L, hL⟩ := name_it (labelI secret (strB s) ctx m)
  rw [← hL.out]
  replace hsl := Lib.hid hsl
  replace hcm := Lib.hid hcm
  have q1 : decide ((255 : Int) < 6 + s.size) = false := by simp; omega
  have q2 : decide ((255 : Int) < ctx.length) = false := by simp; omega
  have q3 : decide ((m : Int) < 0) = false := by simp
  have q4 : decide ((8160 : Int) < m) = false := by simp; omega
  have hLe : L = expand secret (labelInfo (strB s) ctx m) m := by
    rw [hL.out, labelI, if_neg (by rw [hsl.out]; omega)]; rfl
  replace hLe := Lib.hid hLe
  have hmI : (m : Int) ≤ 8160 := by omega
  obtain ⟨x0, hx0⟩ := name_it (m / 256)
  obtain ⟨x1, hx1⟩ := name_it (m % 256)
  obtain ⟨x2, hx2⟩ := name_it (6 + s.size)
  obtain ⟨x3, hx3⟩ := name_it ctx.length
  have e0 : (m : Int) / 256 = (x0 : Int) := by rw [hx0.out]; omega
  have e1 : (m : Int) % 256 = (x1 : Int) := by rw [hx1.out]; omega
  have e2 : 6 + (s.size : Int) = (x2 : Int) := by rw [hx2.out]; omega
  have hx0I : (x0 : Int) ≤ 255 := by rw [hx0.out]; omega
  have hx2I : (x2 : Int) ≤ 255 := by rw [hx2.out]; omega
  have hx3I : (x3 : Int) ≤ 255 := by rw [hx3.out]; omega
  rw [e2] at q1
  rw [← hx3.out] at q2 hcI hv ⊢
  have hf : Hid (labelInfo (strB s) ctx m = [(x0 : Int), (x1 : Int), (x2 : Int)] ++ (preB ++ strB s) ++ [(x3 : Int)] ++ ctx) := by
    show _ = _
    rw [labelInfo, hsl.out, Nat.mod_eq_of_lt (show m / 256 < 256 by omega), Nat.mod_eq_of_lt (show 6 + s.size < 256 by omega), Nat.mod_eq_of_lt (show ctx.length < 256 by omega), hx0.out, hx1.out, hx2.out, hx3.out]
  have hfl : Hid ((labelInfo (strB s) ctx m).length ≤ 600) := by
    show _ ≤ _
    rw [hf.out]; simp [preB, hsl.out]; omega
  have own1 := Lib.hid (show OwnNums .u8 5 (w.alloc (.cells #[.int .u8 x0, .int .u8 x1, .int .u8 x2] 5)) w.heap.size (.slice (some ⟨w.heap.size, 0, none⟩) 3 3) [(x0 : Int), (x1 : Int), (x2 : Int)] from World.ownsRow_lit w #[.int .u8 x0, .int .u8 x1, .int .u8 x2] 3 (Nat.le_refl _) (by unfold maxLen; omega) (by simp))
  have hs3 : Hid ([(x0 : Int), (x1 : Int), (x2 : Int)].length + (⟨#[116, 108, 115, 49, 51, 32]⟩ ++ s : ByteArray).size ≤ 100000) := by
    show _ ≤ _
    rw [ByteArray.size_append, show (⟨#[116, 108, 115, 49, 51, 32]⟩ : ByteArray).size = 6 from rfl]
    simp; omega
  replace hg := Lib.hid hg
  replace hb := Lib.hid hb
  replace hbc := Lib.hid hbc
  replace hu := Lib.hid hu
  replace hv := Lib.hid hv
  go_enter Tryd.func29, Tryd.ntmps29
  go_wp2_with (at_builtin; first
    | (refine wpList_append_str rfl _ _ rfl w.heap.size _ _ rfl own1.out _ rfl hs3.out (by simp) ?_; intro v4 w4 hown4 hgr4; rw [strB_pre] at hown4; obtain ⟨a4, l4, c4, rfl⟩ := slice_any hown4.nums; replace hown4 := Lib.hid hown4; replace hgr4 := Lib.hid hgr4; have b4 := Lib.hid (((Below.refl w.heap.size w).alloc (Nat.le_refl _) _).grown hgr4.out (by simp) own1.out.lt))
    | (refine wpList_append_nums rfl _ _ 22 rfl .u8 w.heap.size 5 i0 1 Tryd.underlying22 hi hz0 hz1 hz2 _ _ _ [(x3 : Int)] rfl (hown4.out.alloc _) rfl (own_lit .u8 5 w4 w4.heap.size (Nat.le_refl _) (x3 : Int)).nums (by simp [preB, hsl.out]; omega) (by simp [preB, hsl.out]; omega) (by have := b4.out.size; simp; omega) ?_; intro v5 w5 hown5 hgr5; obtain ⟨a5, l5, c5, rfl⟩ := slice_any hown5.nums; replace hown5 := Lib.hid hown5; replace hgr5 := Lib.hid hgr5; have b5 := Lib.hid ((b4.out.alloc b4.out.size (.cells #[.int .u8 x3] 5)).grown hgr5.out (by have := b4.out.size; simp; omega) hown4.out.lt); have nc5 := Lib.hid (hv.out.below b5.out))
    | (refine wpList_append_nums rfl _ _ 22 rfl .u8 w.heap.size 5 i0 1 Tryd.underlying22 hi hz0 hz1 hz2 _ _ _ ctx rfl hown5.out rfl nc5.out (by have := hfl.out; rw [hf.out, List.length_append] at this; omega) (by have := hfl.out; rw [hf.out, List.length_append] at this; omega) b5.out.size ?_; intro v6 w6 hown6 hgr6; obtain ⟨a6, l6, c6, rfl⟩ := slice_any hown6.nums; replace hown6 := Lib.hid hown6; replace hgr6 := Lib.hid hgr6))
  have b6 : Below w.heap.size w w6 := b5.out.grown hgr6.out b5.out.size hown5.out.lt
  have n6 : NumsAt .u8 w6 (.slice a6 l6 c6) (labelInfo (strB s) ctx m) := by rw [hf.out]; exact hown6.out.nums
  refine (expandO_any _ _ secret _ m w6 (hg.out.below b6 hg.out.lt) (hu.out.below b6) n6 hb.out (byt_info _ _ _ (byt_str s) hbc.out) hl (by have := hfl.out; omega) (by omega) hm0).mono ?_
  rintro e w7 ⟨v7, rfl, hn7, cv7, hb7⟩
  obtain ⟨a7, l7, c7, rfl⟩ := slice_any hn7
  rw [← hLe.out] at hn7 cv7
  replace hn7 := Lib.hid hn7
  replace cv7 := Lib.hid (cv7.mono b6.size)
  have b7 := Lib.hid (below_all b6 hb7)
  go_wp2_with fail
  go_ret
  exact ⟨_, rfl, hn7.out, cv7.out, b7.out⟩
/-- How long a label's expansion is. -/
theorem lab_len (k s c : List Int) (n : Nat) (h1 : s.length ≤ 249) (h2 : c.length ≤ 255) (h3 : n ≤ 8160) : (labelI k s c (n : Int)).length = n := by
  rw [labelI, if_neg (by omega), expand_len]; rfl
theorem byt_lab (k s c : List Int) (n : Int) : Byt (labelI k s c n) := by
  unfold labelI; split
  · exact byt_nil
  · exact byt_expand _ _ _
end Go.Proofs.YtikmfaeiecpncaaDoor
