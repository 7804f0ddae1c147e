/- What tells of a reset, and the document's. -/
import Derived.Test.YtikmfaeiecpncaaDoorKF
namespace Go.Proofs.YtikmfaeiecpncaaDoor
open Go.RowKit

def resB : List Int := [114, 101, 115, 101, 116]
def resetL (k c : List Int) : List Int := (mac k (resB ++ c)).take 16
theorem resetL_len (k c : List Int) : (resetL k c).length = 16 := by rw [resetL, List.length_take, mac_len]; rfl
theorem byt_res : Byt resB := byt_of (by simp [resB])
set_option maxHeartbeats 1600000 in
set_option maxRecDepth 100000 in
theorem reset_any (u v : Value) (key text : List Int) (w : World) (hg : Gl w) (hu : NumsAt .u8 w u key) (hv : NumsAt .u8 w v text) (hb : Byt key) (hbt : Byt text) (hl : key.length ≤ 10000) (hlt : text.length ≤ 5000) :
    Calls Tryd.prog 47 #[u, v] w fun e w' => e = .returned (.agg (bys (resetL key text))) ∧ Below w.heap.size w w' := by
  obtain ⟨a0, l0, k0, rfl⟩ := slice_any hu
  obtain ⟨a1, m1, k1, rfl⟩ := slice_any hv
  obtain ⟨T, hT⟩ := name_it (resB ++ text)
  have hTl : Hid (T.length ≤ 5010) := by show _ ≤ _; rw [hT.out]; simp [resB]; omega
  have hbT : Hid (Byt T) := by show Byt _; rw [hT.out]; exact byt_app byt_res hbt
  obtain ⟨n, hn⟩ := name_it (mac key T)
  have hnl : Hid (n.length = 32) := by show _ = _; rw [hn.out]; exact mac_len _ _
  obtain ⟨r, hr⟩ := name_it (resetL key text)
  have hr' : Hid (n.take 16 = r) := by show _ = _; rw [hr.out, hn.out, hT.out]; rfl
  have hrl : Hid (r.length = 16) := by show _ = _; rw [hr.out]; exact resetL_len _ _
  rw [← hr.out]
  have zr : (Tryd.prog.info? 52).map (·.size) = some (bys r).size := by rw [bys_size, hrl.out]; exact sz52
  replace zr := Lib.hid zr
  have hor : Hid ((bys (zb 16)).size = (bys r).size) := by show _ = _; rw [bys_size, bys_size, hrl.out]; rfl
  have hc26 := fun (b : Nat) (w : World) => slice_all arr26 arr26' el26 b 0 w
  have hc52 := fun (b : Nat) (w : World) => slice_all arr52 len52 el52 b 0 w
  have kc := conv_lit
  replace hb := Lib.hid hb
  replace hbt := Lib.hid hbt
  have b1 := (Below.refl w.heap.size w).alloc (Nat.le_refl _) (.cells (bys (zb 16)) 52)
  have l1 := Blk.new w 52 (bys (zb 16))
  obtain ⟨w1, hw1⟩ : ∃ x, x = w.alloc (.cells (bys (zb 16)) 52) := ⟨_, rfl⟩
  rw [← hw1] at b1 l1
  have hs1 : w1.heap.size = w.heap.size + 1 := by rw [hw1]; simp
  have c2 := (Below.refl w1.heap.size w1).alloc (Nat.le_refl _) (.cells (bys resB) 5 (5, 6))
  have n2 := nums_lit w1 5 (5, 6) resB 5 rfl (by omega)
  obtain ⟨w2, hw2⟩ : ∃ x, x = w1.alloc (.cells (bys resB) 5 (5, 6)) := ⟨_, rfl⟩
  rw [← hw2] at c2 n2
  have hs2 : w2.heap.size = w1.heap.size + 1 := by rw [hw2]; simp
  have b2 := below_all b1 c2
  have v2 := hv.below b2
  have p3 := parts_two (Blk.new w2 22 #[.slice (some ⟨w1.heap.size, 0, none⟩) 5 5, .slice a1 m1 k1]) (n2.alloc _) (v2.alloc _)
  have c3 := (Below.refl w2.heap.size w2).alloc (Nat.le_refl _) (.cells #[.slice (some ⟨w1.heap.size, 0, none⟩) 5 5, .slice a1 m1 k1] 22)
  have b3 := Lib.hid (below_all b2 c3)
  have l3 := Lib.hid (below_cell c3 (below_cell c2 l1))
  have g3 := Lib.hid (hg.below b3.out hg.lt)
  have u3 := Lib.hid (hu.below b3.out)
  replace p3 := Lib.hid p3
  replace hw1 := Lib.hid hw1
  replace hw2 := Lib.hid hw2
  clear hu hv hg b1 l1 c2 n2 b2 v2 c3
  go_enter Tryd.func47, Tryd.ntmps47
  go_wp2_with fail
  change Calls _ _ _ (((w.alloc (.cells (bys (zb 16)) 52)).alloc (.cells (bys resB) 5 (5, 6))).alloc (.cells #[.slice (some ⟨w.heap.size + 1, 0, none⟩) 5 5, .slice a1 m1 k1] 22)) _
  rw [← hw1.out, ← hs1, ← hw2.out, ← hs2]
  refine (mac_any _ _ key T [resB, text] _ g3.out u3.out p3.out (by rw [hT.out]; simp) hb.out hbT.out hl (by have := hTl.out; omega) (by simp)).mono ?_
  rintro ee w4 ⟨rfl, hb4⟩
  rw [← hn.out]
  have b4 := Lib.hid (below_all b3.out hb4)
  have l4 := Lib.hid (below_cell hb4 l3.out)
  clear hb4 b3 l3 g3 u3 p3 hw1 hw2 hs1 hs2 kc
  have z8 : (Tryd.prog.info? 26).map (·.size) = some (bys n).size := by rw [bys_size, hnl.out]; exact sz26
  replace z8 := Lib.hid z8
  have ho8 : Hid ((bys (zb 32)).size = (bys n).size) := by show _ = _; rw [bys_size, bys_size, hnl.out]; rfl
  have ln_b5 := Lib.hid ((Blk.new w4 26 (bys (zb 32))).setRow (bys n))
  have bb8 := Lib.hid (below_setRow (g := w4.heap.size) ((Below.refl w4.heap.size w4).alloc (Nat.le_refl _) (.cells (bys (zb 32)) 26)) (Nat.le_refl _) (bys n))
  obtain ⟨w5, hw8⟩ : ∃ x, x = (w4.alloc (.cells (bys (zb 32)) 26)).setRow w4.heap.size (bys n) := ⟨_, rfl⟩
  rw [← hw8] at ln_b5 bb8
  have hlt_b5 := ln_b5.out.lt
  replace hlt_b5 := Lib.hid hlt_b5
  have b5 := Lib.hid (below_all b4.out bb8.out)
  have l5 := Lib.hid (below_cell bb8.out l4.out)
  clear b4 l4
  have n5 := ln_b5.out.nums 32 hnl.out (by omega)
  have ea := arrayAt_ok arr52 (some ⟨w4.heap.size, 0, none⟩) 32 32 (by omega) w5
  have el := load_nums arr52 sz52 n5 (by rw [hnl.out]; omega)
  rw [hr'.out] at el
  replace el := Lib.hid el
  have l6 := Lib.hid (l5.out.setRow (bys r))
  have b6 := Lib.hid (below_setRow b5.out (Nat.le_refl _) (bys r))
  clear n5
  replace hw8 := Lib.hid hw8
  go_wp2_with (first | (refine wpList_store_row rfl 26 _ _ rfl _ _ rfl rfl 26 _ (Blk.new w4 26 (bys (zb 32))) z8.out ho8.out (bys_one _) ?_; change wpList _ _ _ _ _ ((w4.alloc (.cells (bys (zb 32)) 26)).setRow w4.heap.size (bys n)); rw [← hw8.out]) | refine wpList_load_is rfl 52 _ rfl rfl el.out ?_ | refine wpList_store_row rfl 52 _ _ rfl _ _ rfl rfl 52 _ l5.out zr.out hor.out (bys_one _) ?_)
  replace l6 := l6.out
  replace b6 := b6.out
  generalize w5.setRow w.heap.size (bys r) = w10 at l6 b6 ⊢
  exact bodyPost_ret (results_cell_row rfl _ _ _ 52 _ _ _ rfl l6 arr52 rfl zr.out) rfl ⟨rfl, b6⟩
set_option maxHeartbeats 1600000 in
set_option maxRecDepth 100000 in
theorem rreset_any (u v : Value) (key text : List Int) (w : World) (hu : NumsAt .u8 w u key) (hv : NumsAt .u8 w v text) (hb : Byt key) (hbt : Byt text) (hl : key.length ≤ 10000) (hlt : text.length ≤ 5000) :
    Calls Tryd.prog 48 #[u, v] w fun e w' => e = .returned (.agg (bys (resetL key text))) ∧ Below w.heap.size w w' := by
  obtain ⟨a0, l0, k0, rfl⟩ := slice_any hu
  obtain ⟨a1, m1, k1, rfl⟩ := slice_any hv
  obtain ⟨T, hT⟩ := name_it (resB ++ text)
  have hTl : Hid (T.length ≤ 5010) := by show _ ≤ _; rw [hT.out]; simp [resB]; omega
  have hbT : Hid (Byt T) := by show Byt _; rw [hT.out]; exact byt_app byt_res hbt
  obtain ⟨n, hn⟩ := name_it (mac key T)
  have hnl : Hid (n.length = 32) := by show _ = _; rw [hn.out]; exact mac_len _ _
  obtain ⟨r, hr⟩ := name_it (resetL key text)
  have hr' : Hid (n.take 16 = r) := by show _ = _; rw [hr.out, hn.out, hT.out]; rfl
  have hrl : Hid (r.length = 16) := by show _ = _; rw [hr.out]; exact resetL_len _ _
  rw [← hr.out]
  have zr : (Tryd.prog.info? 52).map (·.size) = some (bys r).size := by rw [bys_size, hrl.out]; exact sz52
  replace zr := Lib.hid zr
  have hor : Hid ((bys (zb 16)).size = (bys r).size) := by show _ = _; rw [bys_size, bys_size, hrl.out]; rfl
  have hc26 := fun (b : Nat) (w : World) => slice_all arr26 arr26' el26 b 0 w
  have hc52 := fun (b : Nat) (w : World) => slice_all arr52 len52 el52 b 0 w
  have kc := conv_lit
  replace hb := Lib.hid hb
  replace hbt := Lib.hid hbt
  have b1 := (Below.refl w.heap.size w).alloc (Nat.le_refl _) (.cells (bys (zb 16)) 52)
  have l1 := Blk.new w 52 (bys (zb 16))
  obtain ⟨w1, hw1⟩ : ∃ x, x = w.alloc (.cells (bys (zb 16)) 52) := ⟨_, rfl⟩
  rw [← hw1] at b1 l1
  have hs1 : w1.heap.size = w.heap.size + 1 := by rw [hw1]; simp
  have c2 := (Below.refl w1.heap.size w1).alloc (Nat.le_refl _) (.cells (bys (zb 16)) 52)
  have m2 := Blk.new w1 52 (bys (zb 16))
  obtain ⟨w2, hw2⟩ : ∃ x, x = w1.alloc (.cells (bys (zb 16)) 52) := ⟨_, rfl⟩
  rw [← hw2] at c2 m2
  have hs2 : w2.heap.size = w1.heap.size + 1 := by rw [hw2]; simp
  have hle : w.heap.size ≤ w1.heap.size := by omega
  have hne : w.heap.size ≠ w1.heap.size := by omega
  replace hle := Lib.hid hle
  replace hne := Lib.hid hne
  have c3 := (Below.refl w2.heap.size w2).alloc (Nat.le_refl _) (.cells (bys resB) 5 (5, 6))
  have n3 := Lib.hid (nums_lit w2 5 (5, 6) resB 5 rfl (by omega))
  obtain ⟨w3, hw3⟩ : ∃ x, x = w2.alloc (.cells (bys resB) 5 (5, 6)) := ⟨_, rfl⟩
  rw [← hw3] at c3 n3
  have b3 := Lib.hid (below_all (below_all b1 c2) c3)
  have l3 := Lib.hid (below_cell c3 (below_cell c2 l1))
  have m3 := Lib.hid (below_cell c3 m2)
  have u3 := Lib.hid (hu.below b3.out)
  have v3 := Lib.hid (hv.below b3.out)
  replace hw1 := Lib.hid hw1
  replace hw2 := Lib.hid hw2
  replace hw3 := Lib.hid hw3
  clear hu hv b1 l1 c2 c3 m2
  go_enter Tryd.func48, Tryd.ntmps48
  go_wp2_with (at_builtin; change wpList _ _ _ _ _ (((w.alloc (.cells (bys (zb 16)) 52)).alloc (.cells (bys (zb 16)) 52)).alloc (.cells (bys resB) 5 (5, 6))); rw [← hw1.out, ← hw2.out, ← hw3.out, ← hs1, ← hs2]; refine wpList_append_full rfl _ _ rfl w2.heap.size 0 5 resB text _ rfl rfl rfl (by omega) n3.out v3.out (by omega) ?_; intro v4 w4 hn4 hb4; obtain ⟨a4, l4', k4, rfl⟩ := slice_any hn4; replace hn4 := Lib.hid hn4; replace hb4 := Lib.hid hb4)
  have b4 := Lib.hid (below_all b3.out hb4.out)
  have l4 := Lib.hid (below_cell hb4.out l3.out)
  have m4 := Lib.hid (below_cell hb4.out m3.out)
  have u4 := Lib.hid (u3.out.below hb4.out)
  have n4 : NumsAt .u8 w4 (.slice a4 l4' k4) T := by rw [hT.out]; exact hn4.out
  refine (rmac_any _ _ key T _ u4.out n4 hb.out hbT.out hl (by have := hTl.out; omega)).mono ?_
  rintro ee w5 ⟨rfl, hb5⟩
  rw [← hn.out]
  have b5 := Lib.hid (below_all b4.out hb5)
  have l5 := Lib.hid (below_cell hb5 l4.out)
  have m5 := Lib.hid (below_cell hb5 m4.out)
  clear hb5 n4 hn4 hb4 b4 l4 m4 u4 b3 l3 m3 u3 v3 n3 kc hw3 hs2 hw2 hw1
  obtain ⟨b9, hb9'⟩ : ∃ b, b = w.heap.size + 1 := ⟨_, rfl⟩
  rw [hs1, ← hb9'] at m5 hle hne
  rw [← hb9']
  clear hs1 hb9'
  have z8 : (Tryd.prog.info? 26).map (·.size) = some (bys n).size := by rw [bys_size, hnl.out]; exact sz26
  replace z8 := Lib.hid z8
  have ho8 : Hid ((bys (zb 32)).size = (bys n).size) := by show _ = _; rw [bys_size, bys_size, hnl.out]; rfl
  have ln_b5 := Lib.hid ((Blk.new w5 26 (bys (zb 32))).setRow (bys n))
  have bb8 := Lib.hid (below_setRow (g := w5.heap.size) ((Below.refl w5.heap.size w5).alloc (Nat.le_refl _) (.cells (bys (zb 32)) 26)) (Nat.le_refl _) (bys n))
  obtain ⟨w6, hw8⟩ : ∃ x, x = (w5.alloc (.cells (bys (zb 32)) 26)).setRow w5.heap.size (bys n) := ⟨_, rfl⟩
  rw [← hw8] at ln_b5 bb8
  have hlt_b5 := ln_b5.out.lt
  replace hlt_b5 := Lib.hid hlt_b5
  have b6 := Lib.hid (below_all b5.out bb8.out)
  have l6 := Lib.hid (below_cell bb8.out l5.out)
  have m6 := Lib.hid (below_cell bb8.out m5.out)
  clear b5 l5 m5
  replace hw8 := Lib.hid hw8
  go_wp2_with (refine wpList_store_row rfl 26 _ _ rfl _ _ rfl rfl 26 _ (Blk.new w5 26 (bys (zb 32))) z8.out ho8.out (bys_one _) ?_; change wpList _ _ _ _ _ ((w5.alloc (.cells (bys (zb 32)) 26)).setRow w5.heap.size (bys n)); rw [← hw8.out])
  obtain ⟨b5, hb8⟩ : ∃ b, b = w5.heap.size := ⟨_, rfl⟩
  rw [← hb8] at ln_b5 ⊢
  clear hb8 hw8 z8 ho8 bb8
  refine region_rel_lit (.step (.step (.base _))) (fun i W v => match i with
    | 0 => v = .slice (some ⟨b9, 0, none⟩) 16 16
    | _ => v = .slice (some ⟨b5, 0, none⟩) 32 32) mixed (by kernel_rfl) (by kernel_rfl) ?_ ?_ ?_
  · rintro (_ | i) W W' v h hb
    all_goals first | exact h | exact PartsAt.below h hb | exact NumsAt.below h hb | exact sl_below h hb | exact SlAt.below h hb | exact PtrAt.below h hb | exact blk_spec h hb | exact spec_below h hb
  · intro i oi hoi x w9 hb9 hd
    rcases i with _ | _ | i
    · obtain rfl := Option.some.inj hoi
      simp only [fill, Act.put, List.setIfInBounds_toArray, List.set_cons_succ, List.set_cons_zero]
      go_wp2_with fail
      exact ⟨_, rfl, Below.refl _ _, rfl⟩
    · obtain rfl := Option.some.inj hoi
      simp only [fill, Act.put, List.setIfInBounds_toArray, List.set_cons_succ, List.set_cons_zero]
      go_wp2_with fail
      exact ⟨_, rfl, Below.refl _ _, rfl⟩
    · cases hoi
  · intro x w9 hb9 hd
    have h0 : (x 0) = .slice (some ⟨b9, 0, none⟩) 16 16 := hd 0 (by decide)
    have h1 : (x 1) = .slice (some ⟨b5, 0, none⟩) 32 32 := hd 1 (by decide)
    simp only [fill, Act.put, List.setIfInBounds_toArray, List.set_cons_succ, List.set_cons_zero, h0, h1]
    have m7 := Lib.hid (below_cell hb9 m6.out)
    have n7 := Lib.hid ((below_cell hb9 ln_b5.out).nums 32 hnl.out (by omega))
    have ep : padTo 16 n = r := by rw [← hr'.out, padTo, hnl.out]; simp
    have b7 := Lib.hid (below_setRow (below_all b6.out hb9) hle.out (bys r))
    have l7 := Lib.hid ((below_cell hb9 l6.out).rowOther (b' := b9) (bys r) hne.out)
    have m8 := Lib.hid (m7.out.setRow (bys r))
    replace ep := Lib.hid ep
    obtain ⟨w7, hw7⟩ : ∃ x, x = w9.setRow b9 (bys r) := ⟨_, rfl⟩
    rw [← hw7] at b7 l7 m8
    replace hw7 := Lib.hid hw7
    have el := Lib.hid (load_at (P := Tryd.prog) m8.out 16 5 arr52 (by rw [bys_size, hrl.out]; exact sz52))
    have l8 := Lib.hid (l7.out.setRow (bys r))
    have b8 := Lib.hid (below_setRow b7.out (Nat.le_refl _) (bys r))
    go_wp2_with (first | (refine wpList_copy_zeros rfl _ _ rfl b9 16 16 52 _ n rfl rfl m7.out n7.out ?_; rw [ep.out, ← hw7.out]) | refine wpList_load_is rfl 52 _ rfl rfl el.out ?_ | refine wpList_store_row rfl 52 _ _ rfl _ _ rfl rfl 52 _ l7.out zr.out hor.out (bys_one _) ?_)
    replace l8 := l8.out
    replace b8 := b8.out
    generalize w7.setRow w.heap.size (bys r) = w10 at l8 b8 ⊢
    exact bodyPost_ret (results_cell_row rfl _ _ _ 52 _ _ _ rfl l8 arr52 rfl zr.out) rfl ⟨rfl, b8⟩
end Go.Proofs.YtikmfaeiecpncaaDoor
