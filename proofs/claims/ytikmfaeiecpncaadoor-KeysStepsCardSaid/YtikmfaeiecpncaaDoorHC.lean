/- What is expanded. -/
import Derived.Test.YtikmfaeiecpncaaDoorHB
namespace Go.Proofs.YtikmfaeiecpncaaDoor
open Go.RowKit

def blkT (key info : List Int) : Nat → List Int
  | 0 => []
  | i + 1 => mac key (blkT key info i ++ info ++ [(((i + 1) % 256 : Nat) : Int)])
def outO (key info : List Int) : Nat → List Int
  | 0 => []
  | i + 1 => outO key info i ++ blkT key info (i + 1)
theorem blkT_len (key info : List Int) (i : Nat) : (blkT key info i).length ≤ 32 := by
  cases i with
  | zero => simp [blkT]
  | succ i => rw [blkT, mac_len]; omega
theorem byt_T (key info : List Int) (i : Nat) : Byt (blkT key info i) := by
  cases i with
  | zero => exact byt_nil
  | succ i => exact byt_mac _ _
theorem outO_len (key info : List Int) (i : Nat) : (outO key info i).length = 32 * i := by induction i with
  | zero => rfl
  | succ i ih => rw [outO, List.length_append, ih, blkT, mac_len]; omega
theorem byt_O (key info : List Int) (i : Nat) : Byt (outO key info i) := by induction i with
  | zero => exact byt_nil
  | succ i ih => exact byt_app ih (byt_T _ _ _)
def expand (key info : List Int) (n : Nat) : List Int := (outO key info ((n + 31) / 32)).take n
theorem expand_len (key info : List Int) (n : Nat) : (expand key info n).length = n := by
  rw [expand, List.length_take, outO_len]; omega
theorem byt_expand (key info : List Int) (n : Nat) : Byt (expand key info n) := byt_take (byt_O _ _ _) _
def expandI (key info : List Int) (n : Int) : List Int := if n < 0 ∨ 8160 < n then [] else expand key info n.toNat
theorem byt_one (x : Nat) : Byt [((x % 256 : Nat) : Int)] := byt_of fun n hn => by simp at hn; omega

set_option maxHeartbeats 1600000 in
set_option maxRecDepth 100000 in
theorem expandN_any (u v : Value) (key info : List Int) (n : Nat) (w : World) (hg : Gl w) (hu : NumsAt .u8 w u key) (hv : NumsAt .u8 w v info) (hb : Byt key) (hbt : Byt info) (hl : key.length ≤ 10000) (hlt : info.length ≤ 5000) (hn : n ≤ 8160) :
    Calls Tryd.prog 26 #[u, v, .int .i64 n] w fun e w' => ∃ v', e = .returned v' ∧ NumsAt .u8 w' v' (expand key info n) ∧ Below w.heap.size w w' := by
  obtain ⟨i0, hi, hz0, hz1, hz2⟩ := info_parts info5
  obtain ⟨a0, k0, rfl, _⟩ := slice_form hu
  obtain ⟨a1, l1, k1, rfl⟩ := slice_any hv
  have hc26 := fun (b : Nat) (w : World) => slice_all arr26 arr26' el26 b 0 w
  replace hg := Lib.hid hg
  replace hu := Lib.hid hu
  replace hv := Lib.hid hv
  replace hb := Lib.hid hb
  replace hbt := Lib.hid hbt
  have q1 : decide ((n : Int) < 0) = false := by simp
  have q2 : decide ((8160 : Int) < n) = false := by simp; omega
  have q2' : decide (8160 < n) = false := by simp; omega
  have hnI : (n : Int) ≤ 8160 := by omega
  obtain ⟨m, hm⟩ := name_it ((n + 31) / 32)
  go_enter Tryd.func26, Tryd.ntmps26
  go_wp2_with fail
  go_loopw [7, 8, 9] (fun o l c wr => ∃ i t : Nat, i ≤ m ∧ Hid (t = 32 * i) ∧ c = .int .u8 (((i + 1) % 256 : Nat) : Int) ∧ (∃ a k, o = .slice a t k) ∧ (∃ a n k, l = .slice a n k) ∧ Hid (OwnNums .u8 5 wr w.heap.size o (outO key info i)) ∧ Hid (NumsAt .u8 wr l (blkT key info i)) ∧ Hid (Below w.heap.size w wr)) (fun o _ _ _ => match o with | .slice _ l _ => 9000 - l | _ => 0)
  case atStart => exact ⟨0, 0, Nat.zero_le _, rfl, rfl, ⟨_, _, rfl⟩, ⟨_, _, _, rfl⟩, OwnNums.nil _ _ _ _, nums_nil _ _, Below.refl _ _⟩
  case round =>
    obtain ⟨i, t, him, ht, rfl, ⟨ao, ko, rfl⟩, ⟨al, ll, kl, rfl⟩, hown, hlast, b1⟩ := hrel
    by_cases hlt2 : t < n
    · have q3 : (t : Int) < n := by omega
      have hti : i < m := by have := ht.out; have := hm.out; omega
      obtain ⟨c, hc⟩ := name_it ((i + 1) % 256)
      have hcI : (c : Int) < 256 := by have := hc.out; omega
      have htI : (t : Int) ≤ 8160 := by omega
      rw [← hc.out]
      go_wp2_with fail
      have b2 := ((Below.refl wr.heap.size wr).alloc (Nat.le_refl _) (.cells (bys [(c : Int)]) 5)).alloc (by simp) (.cells #[.slice al ll kl, .slice a1 l1 k1, .slice (some ⟨wr.heap.size, 0, none⟩) 1 1] 22)
      have g2 := (hg.out.below b1.out hg.out.lt).below b2 (hg.out.below b1.out hg.out.lt).lt
      have u2 := (hu.out.below b1.out).below b2
      have nc := (nums_lit wr 5 (0, 0) [(c : Int)] 1 rfl (by omega)).alloc (.cells #[.slice al ll kl, .slice a1 l1 k1, .slice (some ⟨wr.heap.size, 0, none⟩) 1 1] 22)
      have p2 := parts_three (Blk.new (wr.alloc (.cells (bys [(c : Int)]) 5)) 22 #[.slice al ll kl, .slice a1 l1 k1, .slice (some ⟨wr.heap.size, 0, none⟩) 1 1]) ((hlast.out.alloc _).alloc _) (((hv.out.below b1.out).alloc _).alloc _) nc
      have hfl : ([blkT key info i, info, [(c : Int)]] : List (List Int)).flatten = blkT key info i ++ info ++ [(c : Int)] := by simp
      rw [show (wr.alloc (.cells (bys [(c : Int)]) 5)).heap.size = wr.heap.size + 1 by simp] at p2
      change Calls _ _ _ ((wr.alloc (.cells (bys [(c : Int)]) 5)).alloc (.cells #[.slice al ll kl, .slice a1 l1 k1, .slice (some ⟨wr.heap.size, 0, none⟩) 1 1] 22)) _
      have hTl := blkT_len key info i
      refine (mac_any _ _ key _ _ _ g2 u2 p2 hfl hb.out (byt_app (byt_app (byt_T _ _ _) hbt.out) (by rw [hc.out]; exact byt_one _)) hl (by simp; omega) (by simp)).mono ?_
      rintro e w3 ⟨rfl, hb3⟩
      have hTs : mac key (blkT key info i ++ info ++ [(c : Int)]) = blkT key info (i + 1) := by rw [hc.out]; rfl
      rw [hTs]
      obtain ⟨z, hz⟩ := name_it (blkT key info (i + 1))
      have hzl : Hid (z.length = 32) := by show _ = _; rw [hz.out, blkT]; exact mac_len _ _
      rw [← hz.out]
      have b3 := Lib.hid (below_all b2 hb3)
      have own3 := Lib.hid (hown.out.below b3.out)
      have b4 := Lib.hid (b1.out.trans (b3.out.mono b1.out.size))
      clear b2 g2 u2 nc p2 hfl hb3 hTs hTl
      have z8 : (Tryd.prog.info? 26).map (·.size) = some (bys z).size := by rw [bys_size, hzl.out]; exact sz26
      replace z8 := Lib.hid z8
      have ho8 : Hid ((bys (zb 32)).size = (bys z).size) := by show _ = _; rw [bys_size, bys_size, hzl.out]; rfl
      have ln := Lib.hid ((Blk.new w3 26 (bys (zb 32))).setRow (bys z))
      have b5 := Lib.hid (below_setRow (g := w3.heap.size) ((Below.refl w3.heap.size w3).alloc (Nat.le_refl _) (.cells (bys (zb 32)) 26)) (Nat.le_refl _) (bys z))
      obtain ⟨w5, hw5⟩ : ∃ x, x = (w3.alloc (.cells (bys (zb 32)) 26)).setRow w3.heap.size (bys z) := ⟨_, rfl⟩
      rw [← hw5] at ln b5
      have own5 := Lib.hid (own3.out.below b5.out)
      have b6 := Lib.hid (below_all b4.out b5.out)
      have nz := Lib.hid (ln.out.nums 32 hzl.out (by omega))
      have hol := outO_len key info i
      replace hol := Lib.hid hol
      replace hw5 := Lib.hid hw5
      have hlt5 := own5.out.lt
      replace hlt5 := Lib.hid hlt5
      go_wp2_with (first
        | (refine wpList_store_row rfl 26 _ _ rfl _ _ rfl rfl 26 _ (Blk.new w3 26 (bys (zb 32))) z8.out ho8.out (bys_one _) ?_; change wpList _ _ _ _ _ ((w3.alloc (.cells (bys (zb 32)) 26)).setRow w3.heap.size (bys z)); rw [← hw5.out])
        | (at_builtin; refine wpList_append_nums rfl _ _ 22 rfl .u8 w.heap.size 5 i0 1 Tryd.underlying22 hi hz0 hz1 hz2 _ _ (outO key info i) z rfl own5.out rfl nz.out (by rw [hol.out, hzl.out]; have := ht.out; omega) (by rw [hol.out, hzl.out]; have := ht.out; omega) b6.out.size ?_; intro v7 w7 hown7 hgr7; obtain ⟨a7, c7, rfl, _⟩ := slice_form hown7.nums; rw [show (outO key info i ++ z).length = t + 32 by rw [List.length_append, hol.out, hzl.out, ht.out]]; replace hown7 := Lib.hid hown7; replace hgr7 := Lib.hid hgr7))
      have b7 := b6.out.grown hgr7.out b6.out.size hlt5.out
      have nz7 : NumsAt .u8 w7 (.slice (some ⟨w3.heap.size, 0, none⟩) 32 32) z := by
        have hne := hlt5.out
        have l7 := ln.out.grown hgr7.out (fun e => by
          have h5 := World.ownsRow.lt own3.out _ e.symm
          omega)
        exact l7.nums 32 hzl.out (by omega)
      have own7 : OwnNums .u8 5 w7 w.heap.size (.slice a7 (t + 32) c7) (outO key info (i + 1)) := by
        have := hown7.out
        rw [show (outO key info i ++ z).length = t + 32 by rw [List.length_append, hol.out, hzl.out, ht.out], hz.out] at this
        exact this
      rw [hz.out] at nz7
      go_roundw
      case rel => exact ⟨i + 1, t + 32, by omega, by show _ = _; rw [ht.out]; omega, by rw [hc.out]; go_num, ⟨_, _, by go_num⟩, ⟨_, _, _, rfl⟩, own7, nz7, b7⟩
      case measure => simp; omega
    · have q3 : decide ((t : Int) < n) = false := by simp; omega
      have q3' : decide (t < n) = false := by simp; omega
      obtain rfl : i = m := by have := ht.out; have := hm.out; omega
      have hol := outO_len key info i
      have nO := hown.out.nums
      obtain ⟨v', hcut, hcut'⟩ := cut_hm nO (n : Int) (by omega) (by rw [hol]; have := ht.out; omega)
      have nv := hcut' _ nO
      rw [show (n : Int).toNat = n by omega, show (outO key info i).take n = expand key info n by rw [hm.out]; rfl] at nv
      replace nv := Lib.hid nv
      clear hcut' nO hol
      go_wp2_with fail
      go_ret
      exact ⟨_, rfl, nv.out, b1.out⟩
theorem expand_any (u v : Value) (key info : List Int) (n : Int) (w : World) (hg : Gl w) (hu : NumsAt .u8 w u key) (hv : NumsAt .u8 w v info) (hb : Byt key) (hbt : Byt info) (hl : key.length ≤ 10000) (hlt : info.length ≤ 5000) :
    Calls Tryd.prog 26 #[u, v, .int .i64 n] w fun e w' => ∃ v', e = .returned v' ∧ NumsAt .u8 w' v' (expandI key info n) ∧ Below w.heap.size w w' := by
  by_cases h0 : n < 0
  · have q1 : decide (n < 0) = true := by simp; omega
    rw [show expandI key info n = [] by rw [expandI, if_pos (.inl h0)]]
    go_enter Tryd.func26, Tryd.ntmps26
    go_wp2_with fail
    go_ret
    exact ⟨_, rfl, nums_nil _ _, Below.refl _ _⟩
  by_cases h1 : 8160 < n
  · have q1 : decide (n < 0) = false := by simp; omega
    have q2 : decide (8160 < n) = true := by simp; omega
    rw [show expandI key info n = [] by rw [expandI, if_pos (.inr h1)]]
    go_enter Tryd.func26, Tryd.ntmps26
    go_wp2_with fail
    go_ret
    exact ⟨_, rfl, nums_nil _ _, Below.refl _ _⟩
  obtain ⟨m, rfl⟩ := Int.eq_ofNat_of_zero_le (show 0 ≤ n by omega)
  rw [show expandI key info (m : Int) = expand key info m by rw [expandI, if_neg (by omega)]; rfl]
  exact expandN_any u v key info m w hg hu hv hb hbt hl hlt (by omega)
end Go.Proofs.YtikmfaeiecpncaaDoor
