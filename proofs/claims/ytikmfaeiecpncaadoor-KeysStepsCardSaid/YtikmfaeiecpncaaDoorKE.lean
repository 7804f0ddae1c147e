/- The secret behind another one, and the document's. -/
import Derived.Test.YtikmfaeiecpncaaDoorKD
namespace Go.Proofs.YtikmfaeiecpncaaDoor
open Go.RowKit

def nextL (k : List Int) : List Int := mac (lab k ⟨#[100, 101, 114, 105, 118, 101, 100]⟩ (sha []) 32) (zb 32)
theorem nextL_len (k : List Int) : (nextL k).length = 32 := mac_len _ _
theorem byt_next (k : List Int) : Byt (nextL k) := byt_mac _ _
theorem byt_zb (n : Nat) : Byt (zb n) := byt_of fun m hm => by simp [zb] at hm; omega
set_option maxHeartbeats 1600000 in
set_option maxRecDepth 100000 in
theorem next_any (u : Value) (key : List Int) (w : World) (hg : Gl w) (hu : NumsAt .u8 w u key) (hb : Byt key) (hl : key.length ≤ 10000) :
    Calls Tryd.prog 54 #[u] w fun e w' => ∃ v, e = .returned v ∧ NumsAt .u8 w' v (nextL key) ∧ Below w.heap.size w w' := by
  obtain ⟨a0, l0, k0, rfl⟩ := slice_any hu
  obtain ⟨n, hn⟩ := name_it (sha [])
  have hnl : Hid (n.length = 32) := by show _ = _; rw [hn.out]; exact sha_len _
  have hbn : Hid (Byt n) := by show Byt _; rw [hn.out]; exact byt_sha _
  obtain ⟨D, hD⟩ := name_it (lab key ⟨#[100, 101, 114, 105, 118, 101, 100]⟩ n 32)
  have hDl : Hid (D.length = 32) := by show _ = _; rw [hD.out]; exact labS_len _ _ _ _ (by decide) (by rw [hnl.out]; omega) (by omega)
  have hbD : Hid (Byt D) := by show Byt _; rw [hD.out]; exact byt_labS _ _ _ _
  obtain ⟨r, hr⟩ := name_it (nextL key)
  have hr' : Hid (mac D (zb 32) = r) := by show _ = _; rw [hr.out, hD.out, hn.out]; rfl
  have hrl : Hid (r.length = 32) := by show _ = _; rw [hr.out]; exact nextL_len _
  rw [← hr.out]
  have zr : (Tryd.prog.info? 26).map (·.size) = some (bys r).size := by rw [bys_size, hrl.out]; exact sz26
  replace zr := Lib.hid zr
  have hor : Hid ((bys (zb 32)).size = (bys r).size) := by show _ = _; rw [bys_size, bys_size, hrl.out]; rfl
  have hc26 := fun (b : Nat) (w : World) => slice_all arr26 arr26' el26 b 0 w
  have hmk : ∀ w : World, (Instr.makeSlice 22 (.int .i64 32) (.int .i64 32)).run Tryd.prog w = .ok (.slice (some ⟨w.heap.size, 0, none⟩) 32 32) (w.alloc (.cells (bys (List.replicate 32 0)) 5)) := fun w => make_bytes 32 (by omega) w
  replace hg := Lib.hid hg
  replace hu := Lib.hid hu
  replace hb := Lib.hid hb
  go_enter Tryd.func54, Tryd.ntmps54
  go_wp2_with fail
  refine (sum_any _ [] [] w rfl (parts_nil w) byt_nil (by simp) hg.out).mono ?_
  rintro ee w2 ⟨rfl, hb2⟩
  rw [← hn.out]
  have g2 := Lib.hid (hg.out.below hb2 hg.out.lt)
  have u2 := Lib.hid (hu.out.below hb2)
  replace hb2 := Lib.hid hb2
  clear hg hu
  have z8 : (Tryd.prog.info? 26).map (·.size) = some (bys n).size := by rw [bys_size, hnl.out]; exact sz26
  replace z8 := Lib.hid z8
  have ho8 : Hid ((bys (zb 32)).size = (bys n).size) := by show _ = _; rw [bys_size, bys_size, hnl.out]; rfl
  have ln_b5 := Lib.hid ((Blk.new w2 26 (bys (zb 32))).setRow (bys n))
  have bb8 := Lib.hid (below_setRow (g := w2.heap.size) ((Below.refl w2.heap.size w2).alloc (Nat.le_refl _) (.cells (bys (zb 32)) 26)) (Nat.le_refl _) (bys n))
  obtain ⟨w3, hw8⟩ : ∃ x, x = (w2.alloc (.cells (bys (zb 32)) 26)).setRow w2.heap.size (bys n) := ⟨_, rfl⟩
  rw [← hw8] at ln_b5 bb8
  have hlt_b5 := ln_b5.out.lt
  replace hlt_b5 := Lib.hid hlt_b5
  have b3 := Lib.hid (below_all hb2.out bb8.out)
  have g3 := Lib.hid (g2.out.below bb8.out g2.out.lt)
  have u3 := Lib.hid (u2.out.below bb8.out)
  clear hb2 g2 u2
  replace hw8 := Lib.hid hw8
  go_wp2_with (refine wpList_store_row rfl 26 _ _ rfl _ _ rfl rfl 26 _ (Blk.new w2 26 (bys (zb 32))) z8.out ho8.out (bys_one _) ?_; change wpList _ _ _ _ _ ((w2.alloc (.cells (bys (zb 32)) 26)).setRow w2.heap.size (bys n)); rw [← hw8.out])
  obtain ⟨b5, hb8⟩ : ∃ b, b = w2.heap.size := ⟨_, rfl⟩
  rw [← hb8] at ln_b5 ⊢
  clear hb8 hw8 z8 ho8 bb8
  refine region_rel_lit (.step (.step (.step (.step (.step (.step (.base _))))))) (fun i W v => match i with
    | 0 => v = .slice a0 l0 k0
    | 1 => v = (.slice (some ⟨b5, 0, none⟩) 32 32)
    | 2 => ∃ a n k, v = Value.slice a n k ∧ NumsAt .u8 W v D
    | 3 => ∃ a n k, v = Value.slice a n k ∧ NumsAt .u8 W v (zb 32)
    | 4 => v = .agg (bys r)
    | _ => ∃ b, v = .pointer (some ⟨b, 0, none⟩) ∧ w3.heap.size ≤ b ∧ Blk W b 26 (bys (zb 32))) mixed (by kernel_rfl) (by kernel_rfl) ?_ ?_ ?_
  · rintro (_ | _ | _ | _ | _ | i) W W' v h hb
    all_goals first | exact h | exact PartsAt.below h hb | exact NumsAt.below h hb | exact sl_below h hb | exact SlAt.below h hb | exact PtrAt.below h hb | exact blk_spec h hb | exact spec_below h hb
  · intro i oi hoi x w9 hb9 hd
    rcases i with _ | _ | _ | _ | _ | _ | i
    · obtain rfl := Option.some.inj hoi
      simp only [fill, Act.put, List.setIfInBounds_toArray, List.set_cons_succ, List.set_cons_zero]
      go_wp2_with fail
      exact ⟨_, rfl, Below.refl _ _, rfl⟩
    · obtain rfl := Option.some.inj hoi
      simp only [fill, Act.put, List.setIfInBounds_toArray, List.set_cons_succ, List.set_cons_zero]
      go_wp2_with fail
      exact ⟨_, rfl, Below.refl _ _, rfl⟩
    · obtain rfl := Option.some.inj hoi
      have h0 : (x 0) = .slice a0 l0 k0 := hd 0 (by kernel_rfl)
      have h1 : (x 1) = (.slice (some ⟨b5, 0, none⟩) 32 32) := hd 1 (by kernel_rfl)
      simp only [fill, Act.put, List.setIfInBounds_toArray, List.set_cons_succ, List.set_cons_zero, h0, h1]
      go_wp2_with fail
      refine (of_any _ _ key n ⟨#[100, 101, 114, 105, 118, 101, 100]⟩ w9 (g3.out.below hb9 g3.out.lt) (u3.out.below hb9) ((below_cell hb9 ln_b5.out).nums 32 hnl.out (by omega)) hb.out hbn.out hl (by decide) (by rw [hnl.out]; omega)).mono ?_
      rintro ee w10 ⟨v10, rfl, hn10, _, hb10⟩
      obtain ⟨a9, l9, k9, rfl⟩ := slice_any hn10
      go_wp2_with fail
      exact ⟨_, rfl, hb10, _, _, _, rfl, by rw [hD.out]; exact hn10⟩
    · obtain rfl := Option.some.inj hoi
      simp only [fill, Act.put, List.setIfInBounds_toArray, List.set_cons_succ, List.set_cons_zero]
      go_wp2_with fail
      exact ⟨_, rfl, (Below.refl _ _).alloc (Nat.le_refl _) _, _, _, _, rfl, (Blk.new w9 5 (bys (zb 32))).nums 32 (by simp [zb]) (by omega)⟩
    · obtain rfl := Option.some.inj hoi
      have h2 : ∃ a n k, (x 2) = Value.slice a n k ∧ NumsAt .u8 w9 (x 2) D := hd 2 (by kernel_rfl)
      have h3 : ∃ a n k, (x 3) = Value.slice a n k ∧ NumsAt .u8 w9 (x 3) (zb 32) := hd 3 (by kernel_rfl)
      simp only [fill, Act.put, List.setIfInBounds_toArray, List.set_cons_succ, List.set_cons_zero]
      obtain ⟨a7, l7, k7, e7, hn7⟩ := h2
      obtain ⟨a6, l6, k6, e6, hn6⟩ := h3
      rw [e7] at hn7
      rw [e6] at hn6
      simp only [e7, e6]
      go_wp2_with fail
      refine (extract_any _ _ D (zb 32) w9 (g3.out.below hb9 g3.out.lt) hn7 hn6 hbD.out (byt_zb 32) (by rw [hDl.out]; omega) (by simp [zb])).mono ?_
      rintro ee w10 ⟨rfl, hb10⟩
      go_wp2_with fail
      exact ⟨_, rfl, hb10, by rw [hr'.out]⟩
    · obtain rfl := Option.some.inj hoi
      simp only [fill, Act.put, List.setIfInBounds_toArray, List.set_cons_succ, List.set_cons_zero]
      go_wp2_with fail
      exact ⟨_, rfl, (Below.refl _ _).alloc (Nat.le_refl _) (.cells (bys (zb 32)) 26), _, rfl, hb9.size, Blk.new w9 26 (bys (zb 32))⟩
    · cases hoi
  · intro x w9 hb9 hd
    have h4 : (x 4) = .agg (bys r) := hd 4 (by decide)
    have h5 : ∃ b, (x 5) = .pointer (some ⟨b, 0, none⟩) ∧ w3.heap.size ≤ b ∧ Blk w9 b 26 (bys (zb 32)) := hd 5 (by decide)
    simp only [fill, Act.put, List.setIfInBounds_toArray, List.set_cons_succ, List.set_cons_zero, h4]
    obtain ⟨b6, e6, hle6, l6⟩ := h5
    simp only [e6]
    have b7 := Lib.hid (below_setRow (below_all b3.out hb9) (Nat.le_trans b3.out.size hle6) (bys r))
    have l7 := Lib.hid (l6.setRow (bys r))
    replace l6 := Lib.hid l6
    clear hd e6
    have n7 := Lib.hid (l7.out.nums 32 hrl.out (by omega))
    go_wp2_with (refine wpList_store_row rfl 26 _ _ rfl _ _ rfl rfl 26 _ l6.out zr.out hor.out (bys_one _) ?_)
    go_ret
    exact ⟨_, rfl, n7.out, b7.out⟩
set_option maxHeartbeats 1600000 in
set_option maxRecDepth 100000 in
theorem rnext_any (key : List Int) (w : World) (hb : Byt key) (hl : key.length = 32) :
    Calls Tryd.prog 56 #[.agg (bys key)] w fun e w' => e = .returned (.agg (bys (nextL key))) ∧ Below w.heap.size w w' := by
  obtain ⟨n, hn⟩ := name_it (sha [])
  have hnl : Hid (n.length = 32) := by show _ = _; rw [hn.out]; exact sha_len _
  have hbn : Hid (Byt n) := by show Byt _; rw [hn.out]; exact byt_sha _
  obtain ⟨D, hD⟩ := name_it (lab key ⟨#[100, 101, 114, 105, 118, 101, 100]⟩ n 32)
  have hDl : Hid (D.length = 32) := by show _ = _; rw [hD.out]; exact labS_len _ _ _ _ (by decide) (by rw [hnl.out]; omega) (by omega)
  have hbD : Hid (Byt D) := by show Byt _; rw [hD.out]; exact byt_labS _ _ _ _
  obtain ⟨r, hr⟩ := name_it (nextL key)
  have hr' : Hid (mac D (zb 32) = r) := by show _ = _; rw [hr.out, hD.out, hn.out]; rfl
  have hrl : Hid (r.length = 32) := by show _ = _; rw [hr.out]; exact nextL_len _
  rw [← hr.out]
  have zr : (Tryd.prog.info? 26).map (·.size) = some (bys r).size := by rw [bys_size, hrl.out]; exact sz26
  replace zr := Lib.hid zr
  have hor : Hid ((bys (zb 32)).size = (bys r).size) := by show _ = _; rw [bys_size, bys_size, hrl.out]; rfl
  have hc26 := fun (b : Nat) (w : World) => slice_all arr26 arr26' el26 b 0 w
  have hmk : ∀ w : World, (Instr.makeSlice 22 (.int .i64 32) (.int .i64 32)).run Tryd.prog w = .ok (.slice (some ⟨w.heap.size, 0, none⟩) 32 32) (w.alloc (.cells (bys (List.replicate 32 0)) 5)) := fun w => make_bytes 32 (by omega) w
  have zk : (Tryd.prog.info? 26).map (·.size) = some (bys key).size := by rw [bys_size, hl]; exact sz26
  have b1 := (Below.refl w.heap.size w).alloc (Nat.le_refl _) (.cells (bys key) 26)
  have l1 := Blk.new w 26 (bys key)
  obtain ⟨w1, hw1⟩ : ∃ x, x = w.alloc (.cells (bys key) 26) := ⟨_, rfl⟩
  rw [← hw1] at b1 l1
  have hs1 : w1.heap.size = w.heap.size + 1 := by rw [hw1]; simp
  have b2 := Lib.hid (b1.alloc b1.size (.cells (bys (zb 32)) 26))
  have l2 := Lib.hid (l1.alloc (.cells (bys (zb 32)) 26))
  have m2 := Lib.hid (Blk.new w1 26 (bys (zb 32)))
  have hle : w.heap.size ≤ w1.heap.size := by omega
  clear b1 l1
  replace hb := Lib.hid hb
  replace hl := Lib.hid hl
  replace hw1 := Lib.hid hw1
  replace hle := Lib.hid hle
  replace zk := Lib.hid zk
  go_enter Tryd.func56, Tryd.ntmps56
  go_wp2_with fail
  change Calls _ _ _ ((w.alloc (.cells (bys key) 26)).alloc (.cells (bys (zb 32)) 26)) _
  rw [← hw1.out]
  refine (rsum_any _ [] _ (nums_nil _ _) byt_nil (by simp)).mono ?_
  rintro ee w2 ⟨rfl, hb2⟩
  rw [← hn.out, ← hs1]
  have c2 := Lib.hid (below_all b2.out hb2)
  have l3 := Lib.hid (below_cell hb2 l2.out)
  have m3 := Lib.hid (below_cell hb2 m2.out)
  clear b2 l2 m2 hb2
  obtain ⟨b9, hb9'⟩ : ∃ b, b = w1.heap.size := ⟨_, rfl⟩
  rw [← hb9'] at m3 hle ⊢
  clear hs1 hw1 hb9'
  have z8 : (Tryd.prog.info? 26).map (·.size) = some (bys n).size := by rw [bys_size, hnl.out]; exact sz26
  replace z8 := Lib.hid z8
  have ho8 : Hid ((bys (zb 32)).size = (bys n).size) := by show _ = _; rw [bys_size, bys_size, hnl.out]; rfl
  have ln_b5 := Lib.hid ((Blk.new w2 26 (bys (zb 32))).setRow (bys n))
  have bb8 := Lib.hid (below_setRow (g := w2.heap.size) ((Below.refl w2.heap.size w2).alloc (Nat.le_refl _) (.cells (bys (zb 32)) 26)) (Nat.le_refl _) (bys n))
  obtain ⟨w3, hw8⟩ : ∃ x, x = (w2.alloc (.cells (bys (zb 32)) 26)).setRow w2.heap.size (bys n) := ⟨_, rfl⟩
  rw [← hw8] at ln_b5 bb8
  have hlt_b5 := ln_b5.out.lt
  replace hlt_b5 := Lib.hid hlt_b5
  have b3 := Lib.hid (below_all c2.out bb8.out)
  have l4 := Lib.hid (below_cell bb8.out l3.out)
  have m4 := Lib.hid (below_cell bb8.out m3.out)
  clear c2 l3 m3
  replace hw8 := Lib.hid hw8
  go_wp2_with (refine wpList_store_row rfl 26 _ _ rfl _ _ rfl rfl 26 _ (Blk.new w2 26 (bys (zb 32))) z8.out ho8.out (bys_one _) ?_; change wpList _ _ _ _ _ ((w2.alloc (.cells (bys (zb 32)) 26)).setRow w2.heap.size (bys n)); rw [← hw8.out])
  obtain ⟨b5, hb8⟩ : ∃ b, b = w2.heap.size := ⟨_, rfl⟩
  rw [← hb8] at ln_b5 ⊢
  clear hb8 hw8 z8 ho8 bb8
  refine region_rel_lit (.step (.step (.step (.step (.step (.base _)))))) (fun i W v => match i with
    | 0 => v = .slice (some ⟨w.heap.size, 0, none⟩) 32 32
    | 1 => v = (.slice (some ⟨b5, 0, none⟩) 32 32)
    | 2 => ∃ a n k, v = Value.slice a n k ∧ NumsAt .u8 W v D
    | 3 => ∃ a n k, v = Value.slice a n k ∧ NumsAt .u8 W v (zb 32)
    | _ => v = .agg (bys r)) mixed (by kernel_rfl) (by kernel_rfl) ?_ ?_ ?_
  · rintro (_ | _ | _ | _ | i) W W' v h hb
    all_goals first | exact h | exact PartsAt.below h hb | exact NumsAt.below h hb | exact sl_below h hb | exact SlAt.below h hb | exact PtrAt.below h hb | exact blk_spec h hb | exact spec_below h hb
  · intro i oi hoi x w9 hb9 hd
    rcases i with _ | _ | _ | _ | _ | i
    · obtain rfl := Option.some.inj hoi
      simp only [fill, Act.put, List.setIfInBounds_toArray, List.set_cons_succ, List.set_cons_zero]
      go_wp2_with fail
      exact ⟨_, rfl, Below.refl _ _, rfl⟩
    · obtain rfl := Option.some.inj hoi
      simp only [fill, Act.put, List.setIfInBounds_toArray, List.set_cons_succ, List.set_cons_zero]
      go_wp2_with fail
      exact ⟨_, rfl, Below.refl _ _, rfl⟩
    · obtain rfl := Option.some.inj hoi
      have h0 : (x 0) = .slice (some ⟨w.heap.size, 0, none⟩) 32 32 := hd 0 (by kernel_rfl)
      have h1 : (x 1) = (.slice (some ⟨b5, 0, none⟩) 32 32) := hd 1 (by kernel_rfl)
      simp only [fill, Act.put, List.setIfInBounds_toArray, List.set_cons_succ, List.set_cons_zero, h0, h1]
      go_wp2_with fail
      refine (rlab_any _ _ key n ⟨#[100, 101, 114, 105, 118, 101, 100]⟩ 32 _ w9 rfl ((below_cell hb9 l4.out).nums 32 hl.out (by omega)) ((below_cell hb9 ln_b5.out).nums 32 hnl.out (by omega)) hb.out hbn.out (by rw [hl.out]; omega) (by decide)).mono ?_
      rintro ee w10 ⟨v10, rfl, hn10, hb10⟩
      obtain ⟨a9, l9, k9, rfl⟩ := slice_any hn10
      go_wp2_with fail
      exact ⟨_, rfl, hb10, _, _, _, rfl, by rw [hD.out]; exact hn10⟩
    · obtain rfl := Option.some.inj hoi
      simp only [fill, Act.put, List.setIfInBounds_toArray, List.set_cons_succ, List.set_cons_zero]
      go_wp2_with fail
      exact ⟨_, rfl, (Below.refl _ _).alloc (Nat.le_refl _) _, _, _, _, rfl, (Blk.new w9 5 (bys (zb 32))).nums 32 (by simp [zb]) (by omega)⟩
    · obtain rfl := Option.some.inj hoi
      have h2 : ∃ a n k, (x 2) = Value.slice a n k ∧ NumsAt .u8 w9 (x 2) D := hd 2 (by kernel_rfl)
      have h3 : ∃ a n k, (x 3) = Value.slice a n k ∧ NumsAt .u8 w9 (x 3) (zb 32) := hd 3 (by kernel_rfl)
      simp only [fill, Act.put, List.setIfInBounds_toArray, List.set_cons_succ, List.set_cons_zero]
      obtain ⟨a7, l7, k7, e7, hn7⟩ := h2
      obtain ⟨a6, l6, k6, e6, hn6⟩ := h3
      rw [e7] at hn7
      rw [e6] at hn6
      simp only [e7, e6]
      go_wp2_with fail
      refine (rextract_any _ _ D (zb 32) w9 hn7 hn6 hbD.out (byt_zb 32) (by rw [hDl.out]; omega) (by simp [zb])).mono ?_
      rintro ee w10 ⟨rfl, hb10⟩
      go_wp2_with fail
      exact ⟨_, rfl, hb10, by rw [hr'.out]⟩
    · cases hoi
  · intro x w9 hb9 hd
    have h4 : (x 4) = .agg (bys r) := hd 4 (by decide)
    simp only [fill, Act.put, List.setIfInBounds_toArray, List.set_cons_succ, List.set_cons_zero, h4]
    have l6 := Lib.hid (below_cell hb9 m4.out)
    have b7 := Lib.hid (below_setRow (below_all b3.out hb9) hle.out (bys r))
    have l7 := Lib.hid (l6.out.setRow (bys r))
    clear hd
    go_wp2_with (refine wpList_store_row rfl 26 _ _ rfl _ _ rfl rfl 26 _ l6.out zr.out hor.out (bys_one _) ?_)
    replace l7 := l7.out
    replace b7 := b7.out
    generalize w9.setRow b9 (bys r) = w10 at l7 b7 ⊢
    exact bodyPost_ret (results_cell_row rfl _ _ _ 26 _ _ _ rfl l7 arr26 rfl zr.out) rfl ⟨rfl, b7⟩
end Go.Proofs.YtikmfaeiecpncaaDoor
