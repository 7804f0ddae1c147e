/- What every program answers that is one (chapter 3). -/
import Derived.Test.YtikmfaeiecpncaaDoorHE
namespace Go.Proofs.YtikmfaeiecpncaaDoor
open Go.RowKit

def fox : List Int := [84, 104, 101, 32, 113, 117, 105, 99, 107, 32, 98, 114, 111, 119, 110, 32, 102, 111, 120, 32, 106, 117, 109, 112, 115, 32, 111, 118, 101, 114, 32, 116, 104, 101, 32, 108, 97, 122, 121, 32, 100, 111, 103]
theorem mac_fox : (mac [107, 101, 121] fox).getD 0 0 = 247 ∧ (mac [107, 101, 121] fox).getD 1 0 = 188 ∧ (mac [107, 101, 121] fox).getD 31 0 = 216 := ⟨by kernel_rfl, by kernel_rfl, by kernel_rfl⟩
set_option maxHeartbeats 800000 in
set_option maxRecDepth 100000 in
theorem awake3_any (w : World) (hg : Gl w) : Calls Tryd.prog 25 #[] w fun e w' => e = .returned (.bool true) ∧ Below w.heap.size w w' := by
  obtain ⟨r, hr⟩ := name_it (mac [107, 101, 121] fox)
  have hr0 : r.getD 0 0 = 247 := by rw [hr.out]; exact mac_fox.1
  have hr1 : r.getD 1 0 = 188 := by rw [hr.out]; exact mac_fox.2.1
  have hr31 : r.getD 31 0 = 216 := by rw [hr.out]; exact mac_fox.2.2
  have hrl : r.length = 32 := by rw [hr.out]; exact mac_len _ _
  have n1 := ((nums_lit w 5 (3, 4) [107, 101, 121] 3 rfl (by omega)).alloc (.cells (bys fox) 5 (43, 44))).alloc (.cells #[.slice (some ⟨w.heap.size + 1, 0, none⟩) 43 43] 22)
  have n2 := (nums_lit (w.alloc (.cells (bys [107, 101, 121]) 5 (3, 4))) 5 (43, 44) fox 43 rfl (by omega)).alloc (.cells #[.slice (some ⟨w.heap.size + 1, 0, none⟩) 43 43] 22)
  have l1 := Blk.new ((w.alloc (.cells (bys [107, 101, 121]) 5 (3, 4))).alloc (.cells (bys fox) 5 (43, 44))) 22 #[.slice (some ⟨w.heap.size + 1, 0, none⟩) 43 43]
  have b1 := (((Below.refl w.heap.size w).alloc (Nat.le_refl _) (.cells (bys [107, 101, 121]) 5 (3, 4))).alloc (by simp) (.cells (bys fox) 5 (43, 44))).alloc (by simp; omega) (.cells #[.slice (some ⟨w.heap.size + 1, 0, none⟩) 43 43] 22)
  rw [show (w.alloc (.cells (bys [107, 101, 121]) 5 (3, 4))).heap.size = w.heap.size + 1 by simp] at n2
  rw [show ((w.alloc (.cells (bys [107, 101, 121]) 5 (3, 4))).alloc (.cells (bys fox) 5 (43, 44))).heap.size = w.heap.size + 1 + 1 by simp] at l1
  obtain ⟨w1, hw1⟩ : ∃ x, x = ((w.alloc (.cells (bys [107, 101, 121]) 5 (3, 4))).alloc (.cells (bys fox) 5 (43, 44))).alloc (.cells #[.slice (some ⟨w.heap.size + 1, 0, none⟩) 43 43] 22) := ⟨_, rfl⟩
  rw [← hw1] at n1 n2 l1 b1
  replace hw1 := Lib.hid hw1
  have g1 := Lib.hid (hg.below b1 hg.lt)
  replace n1 := Lib.hid n1
  replace n2 := Lib.hid n2
  replace l1 := Lib.hid l1
  replace b1 := Lib.hid b1
  have kc := conv_lit
  go_enter Tryd.func25, Tryd.ntmps25
  go_wp2_with fail
  change Calls _ _ _ (((w.alloc (.cells (bys [107, 101, 121]) 5 (3, 4))).alloc (.cells (bys fox) 5 (43, 44))).alloc (.cells #[.slice (some ⟨w.heap.size + 1, 0, none⟩) 43 43] 22)) _
  rw [← hw1.out]
  refine (mac_any _ _ [107, 101, 121] fox [fox] w1 g1.out n1.out (parts_one l1.out n2.out) (by simp) (byt_of (by simp)) (byt_of (by simp [fox])) (by simp) (by simp [fox]) (by simp)).mono ?_
  rintro e w2 ⟨rfl, hb2⟩
  rw [← hr.out]
  replace b1 := Lib.hid (below_all b1.out hb2)
  have g2 := Lib.hid (g1.out.below hb2 g1.out.lt)
  have z8 : (Tryd.prog.info? 26).map (·.size) = some (bys r).size := by rw [bys_size, hrl]; exact sz26
  replace z8 := Lib.hid z8
  have ho8 : Hid ((bys (zb 32)).size = (bys r).size) := by show _ = _; rw [bys_size, bys_size, hrl]; rfl
  have ln := Lib.hid ((Blk.new w2 26 (bys (zb 32))).setRow (bys r))
  have b2 := Lib.hid (below_setRow (g := w2.heap.size) ((Below.refl w2.heap.size w2).alloc (Nat.le_refl _) (.cells (bys (zb 32)) 26)) (Nat.le_refl _) (bys r))
  clear n1 n2 l1 hb2 kc
  obtain ⟨w3, hw3⟩ : ∃ x, x = (w2.alloc (.cells (bys (zb 32)) 26)).setRow w2.heap.size (bys r) := ⟨_, rfl⟩
  rw [← hw3] at ln b2
  have g3 := Lib.hid (g2.out.below b2.out g2.out.lt)
  have b3 := Lib.hid (below_all b1.out b2.out)
  replace hw3 := Lib.hid hw3
  have c0 := ln.out.byte 0 (by omega)
  have c1 := ln.out.byte 1 (by omega)
  have c31 := ln.out.byte 31 (by omega)
  rw [hr0] at c0
  rw [hr1] at c1
  rw [hr31] at c31
  go_wp2_with (first
    | (refine wpList_store_row rfl 26 _ _ rfl _ _ rfl rfl 26 _ (Blk.new w2 26 (bys (zb 32))) z8.out ho8.out (bys_one _) ?_; change wpList _ _ _ _ _ ((w2.alloc (.cells (bys (zb 32)) 26)).setRow w2.heap.size (bys r)); rw [← hw3.out])
    | fail)
  refine (expand_any _ _ [] [] 8161 w3 g3.out (nums_nil _ _) (nums_nil _ _) byt_nil byt_nil (by simp) (by simp)).mono ?_
  rintro e w4 ⟨v4, rfl, hn4, hb4⟩
  rw [show expandI [] [] 8161 = [] from rfl] at hn4
  obtain ⟨a4, k4, rfl, _⟩ := slice_form hn4
  have g4 := Lib.hid (g3.out.below hb4 g3.out.lt)
  have b4 := Lib.hid (below_all b3.out hb4)
  clear hn4 hb4 c0 c1 c31
  go_wp2_with fail
  refine (label_any _ _ [] [] ⟨#[97]⟩ 5 w4 g4.out (nums_nil _ _) (nums_nil _ _) byt_nil byt_nil (by simp) (show (1 : Nat) ≤ _ by omega)).mono ?_
  rintro e w5 ⟨v5, rfl, hn5, hb5⟩
  have hll : (labelI [] (strB ⟨#[97]⟩) [] 5).length = 5 := by
    rw [labelI, if_neg (by rw [strB_len]; decide)]; exact expand_len _ _ _
  obtain ⟨a5, k5, rfl, _⟩ := slice_form hn5
  rw [hll]
  have b5 := Lib.hid (below_all b4.out hb5)
  clear hn5 hb5 hll
  go_wp2_with fail
  refine (equal_any _ _ [] [] _ (nums_nil _ _) (nums_lit w5 5 (0, 0) [] 0 rfl (by omega)) byt_nil byt_nil).mono ?_
  rintro e w6 ⟨rfl, hb6⟩
  have b6 := Lib.hid (below_all b5.out (below_all ((Below.refl w5.heap.size w5).alloc (Nat.le_refl _) (.cells (bys []) 5)) hb6))
  clear hb6
  go_wp2_with fail
  refine (equal_any _ _ [1] [2] _ ((nums_lit w6 5 (0, 0) [1] 1 rfl (by omega)).alloc (.cells (bys [2]) 5)) (by
    have := nums_lit (w6.alloc (.cells (bys [1]) 5)) 5 (0, 0) [2] 1 rfl (by omega)
    rw [show (w6.alloc (.cells (bys [1]) 5)).heap.size = w6.heap.size + 1 by simp] at this
    exact this) (byt_of (by simp)) (byt_of (by simp))).mono ?_
  rintro e w7 ⟨rfl, hb7⟩
  have b7 := Lib.hid (below_all b6.out (below_all (((Below.refl w6.heap.size w6).alloc (Nat.le_refl _) (.cells (bys [1]) 5)).alloc (by simp) (.cells (bys [2]) 5)) hb7))
  clear hb7
  go_wp2_with fail
  go_ret
  exact ⟨rfl, b7.out⟩
end Go.Proofs.YtikmfaeiecpncaaDoor
