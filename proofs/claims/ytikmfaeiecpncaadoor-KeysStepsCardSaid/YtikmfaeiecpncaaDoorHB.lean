/- The keyed digest, and what is extracted. -/
import Derived.Test.YtikmfaeiecpncaaDoorHA
namespace Go.Proofs.YtikmfaeiecpncaaDoor
open Go.RowKit

theorem Below.flat {w w' : World} (h : Below w.heap.size w w') {B : Nat} (hB : B ≤ w.heap.size) {w0 : World} (h0 : Below B w0 w) : Below B w0 w' := h0.trans (h.mono hB)
set_option maxHeartbeats 1600000 in
set_option maxRecDepth 100000 in
theorem mac_any (u v : Value) (key text : List Int) (ps : List (List Int)) (w : World) (hg : Gl w) (hu : NumsAt .u8 w u key) (hv : PartsAt w v ps) (hps : ps.flatten = text) (hb : Byt key) (hbt : Byt text) (hl : key.length ≤ 10000) (hlt : text.length ≤ 10000) (hlp : ps.length ≤ 1000) :
    Calls Tryd.prog 27 #[u, v] w fun e w' => e = .returned (.agg (bys (mac key text))) ∧ Below w.heap.size w w' := by
  obtain ⟨a0, k0, rfl, _⟩ := slice_form hu
  obtain ⟨a1, k1, rfl, _⟩ := hv
  have hv : PartsAt w (.slice a1 ps.length k1) ps := ⟨a1, k1, rfl, by assumption⟩
  obtain ⟨r, hr⟩ := name_it (mac key text)
  rw [← hr.out]
  have hrl : Hid (r.length = 32) := by show _ = _; rw [hr.out]; exact mac_len _ _
  obtain ⟨z, hz⟩ := name_it (sha (maskB key 54 ++ text))
  have hzl : Hid (z.length = 32) := by show _ = _; rw [hz.out]; exact sha_len _
  obtain ⟨w1, hw1⟩ : ∃ x, x = w.alloc (.cells (bys (zb 32)) 26) := ⟨_, rfl⟩
  have b1 := Lib.hid (show Below w.heap.size w w1 by rw [hw1]; exact (Below.refl w.heap.size w).alloc (Nat.le_refl _) (.cells (bys (zb 32)) 26))
  have l1 := Lib.hid (show Blk w1 w.heap.size 26 (bys (zb 32)) by rw [hw1]; exact Blk.new w 26 (bys (zb 32)))
  replace hg := Lib.hid (hg.below b1.out hg.lt)
  replace hu := Lib.hid (hu.below b1.out)
  replace hv := Lib.hid (hv.below b1.out)
  replace hb := Lib.hid hb
  replace hbt := Lib.hid hbt
  replace hps := Lib.hid hps
  have hml := maskB_len key 54
  replace hml := Lib.hid hml
  have hml2 := Lib.hid (maskB_len key 92)
  replace hw1 := Lib.hid hw1
  go_enter Tryd.func27, Tryd.ntmps27
  go_wp2_with fail
  change Calls _ _ _ (w.alloc (.cells (bys (zb 32)) 26)) _
  rw [← hw1.out]
  refine (masked_any _ key 54 w1 hg.out hu.out hb.out (by omega)).mono ?_
  rintro e w2 ⟨v2, rfl, hn2, hb2⟩
  obtain ⟨a2, l2', k2, rfl⟩ := slice_any hn2
  replace hn2 := Lib.hid hn2
  have b2 := Lib.hid (below_all b1.out hb2)
  have l2 := Lib.hid (l1.out.below hb2 l1.out.lt)
  have g2 := Lib.hid (hg.out.below hb2 hg.out.lt)
  have u2 := Lib.hid (hu.out.below hb2)
  have v2 := Lib.hid (hv.out.below hb2)
  clear hb2 l1 b1 hg hu hv hw1
  have own2 : (w2.alloc (.cells #[.slice a2 l2' k2] 22)).ownsRow w2.heap.size 22 1 (.slice (some ⟨w2.heap.size, 0, none⟩) 1 1) [Value.slice a2 l2' k2].length [.slice a2 l2' k2] := World.ownsRow_lit w2 #[.slice a2 l2' k2] 1 (Nat.le_refl _) (by unfold maxLen; omega) (by simp)
  replace own2 := Lib.hid own2
  go_wp2_with (at_builtin; refine wpList_append_parts rfl _ _ rfl w2.heap.size (.slice (some ⟨w2.heap.size, 0, none⟩) 1 1) _ [.slice a2 l2' k2] ps rfl own2.out rfl v2.out ((Below.refl w2.heap.size w2).alloc (Nat.le_refl _) _) (by simp; omega) (by simp) ?_; intro us v3 w3 hus hnus hown3 hgr3; replace hown3 := Lib.hid hown3; replace hgr3 := Lib.hid hgr3; replace hnus := Lib.hid hnus)
  have b3 : Below w2.heap.size w2 w3 := ((Below.refl w2.heap.size w2).alloc (Nat.le_refl _) _).grown hgr3.out (by simp) (fun j hj => Nat.le_of_eq (by simpa [Value.ownBlock] using hj))
  have p3 : PartsAt w3 v3 (maskB key 54 :: ps) := by
    refine parts_of_row (us := .slice a2 l2' k2 :: us) (by simpa [Nat.add_comm] using hown3.out) (by simp [hus]) (by simp; omega) fun i hi => ?_
    rcases i with _ | i
    · exact hn2.out.below b3
    · have := hnus.out i (by simpa using hi)
      exact this.below b3
  have hfl : (maskB key 54 :: ps).flatten = maskB key 54 ++ text := by rw [List.flatten_cons, hps.out]
  refine (sum_any _ _ _ w3 hfl p3 (byt_app (byt_mask _ _) hbt.out) (by rw [List.length_append, hml.out]; omega) (g2.out.below b3 g2.out.lt)).mono ?_
  rintro e w4 ⟨rfl, hb4⟩
  rw [← hz.out]
  have b34 := Lib.hid (below_all b3 hb4)
  clear p3 hfl b3 hb4 hown3 hgr3 hnus own2 hn2 v2
  have l4 := Lib.hid (l2.out.below b34.out l2.out.lt)
  have g4 := Lib.hid (g2.out.below b34.out g2.out.lt)
  have u4 := Lib.hid (u2.out.below b34.out)
  have b4 := Lib.hid (below_all b2.out b34.out)
  clear b34 l2 g2 u2 b2
  have l4l := l4.out.lt
  have z8 : (Tryd.prog.info? 26).map (·.size) = some (bys z).size := by rw [bys_size, hzl.out]; exact sz26
  replace z8 := Lib.hid z8
  have ho8 : Hid ((bys (zb 32)).size = (bys z).size) := by show _ = _; rw [bys_size, bys_size, hzl.out]; rfl
  have ln := Lib.hid ((Blk.new w4 26 (bys (zb 32))).setRow (bys z))
  have b5 := Lib.hid (below_setRow (g := w4.heap.size) ((Below.refl w4.heap.size w4).alloc (Nat.le_refl _) (.cells (bys (zb 32)) 26)) (Nat.le_refl _) (bys z))
  have l5 := Lib.hid (l4.out.below b5.out l4l)
  have g5 := Lib.hid (g4.out.below b5.out g4.out.lt)
  have u5 := Lib.hid (u4.out.below b5.out)
  replace b4 := Lib.hid (below_all b4.out b5.out)
  have hc26 := fun (b : Nat) (w : World) => slice_all arr26 arr26' el26 b 0 w
  go_wp2_with (refine wpList_store_row rfl 26 _ _ rfl _ _ rfl rfl 26 _ (Blk.new w4 26 (bys (zb 32))) z8.out ho8.out (bys_one _) ?_)
  obtain ⟨b6, hb6⟩ : ∃ b, b = w4.heap.size := ⟨_, rfl⟩
  change Code.wp _ _ _ _ ((w4.alloc (.cells (bys (zb 32)) 26)).setRow w4.heap.size (bys z))
  have hne : w.heap.size ≠ w4.heap.size := by omega
  clear b5
  generalize (w4.alloc (.cells (bys (zb 32)) 26)).setRow w4.heap.size (bys z) = w6 at ln l5 g5 u5 b4 ⊢
  rw [← hb6] at ln hne ⊢
  clear hb6 z8 ho8 l4 g4 u4 l4l
  refine region_rel_lit (.step (.step (.step (.step (.step (.base _)))))) (fun i W v => match i with
    | 0 => v = .slice a0 key.length k0
    | 1 => ∃ a n k, v = Value.slice a n k ∧ NumsAt .u8 W v (maskB key 92)
    | 2 => v = (.slice (some ⟨b6, 0, none⟩) 32 32)
    | 3 => PartsAt W v [maskB key 92, z]
    | _ => v = .agg (bys r)) mixed (by kernel_rfl) (by kernel_rfl) ?_ ?_ ?_
  · rintro (_ | _ | _ | _ | i) W W' v h hb
    all_goals first | exact h | exact PartsAt.below h hb | exact NumsAt.below h hb | exact sl_below h hb | exact spec_below h hb
  · intro i oi hoi x w5 hb5 hd
    rcases i with _ | _ | _ | _ | _ | i
    · obtain rfl := Option.some.inj hoi
      simp only [fill, Act.put, List.setIfInBounds_toArray, List.set_cons_succ, List.set_cons_zero]
      go_wp2_with fail
      exact ⟨_, rfl, Below.refl _ _, rfl⟩
    · obtain rfl := Option.some.inj hoi
      have h0 : (x 0) = .slice a0 key.length k0 := hd 0 (by kernel_rfl)
      simp only [fill, Act.put, List.setIfInBounds_toArray, List.set_cons_succ, List.set_cons_zero, h0]
      go_wp2_with fail
      refine (masked_any _ key 92 w5 (g5.out.below hb5 g5.out.lt) (u5.out.below hb5) hb.out (by omega)).mono ?_
      rintro e w7 ⟨v7, rfl, hn7, hb7⟩
      obtain ⟨a7, l7, k7, rfl⟩ := slice_any hn7
      go_wp2_with fail
      exact ⟨_, rfl, hb7, _, _, _, rfl, hn7⟩
    · obtain rfl := Option.some.inj hoi
      simp only [fill, Act.put, List.setIfInBounds_toArray, List.set_cons_succ, List.set_cons_zero]
      go_wp2_with fail
      exact ⟨_, rfl, Below.refl _ _, rfl⟩
    · obtain rfl := Option.some.inj hoi
      have h1 : ∃ a n k, (x 1) = Value.slice a n k ∧ NumsAt .u8 w5 (x 1) (maskB key 92) := hd 1 (by kernel_rfl)
      have h2 : (x 2) = (.slice (some ⟨b6, 0, none⟩) 32 32) := hd 2 (by kernel_rfl)
      simp only [fill, Act.put, List.setIfInBounds_toArray, List.set_cons_succ, List.set_cons_zero, h2]
      obtain ⟨a7, l7, k7, e7, hn7⟩ := h1
      rw [e7] at hn7 ⊢
      go_wp2_with fail
      have hp := parts_two (Blk.new w5 22 #[.slice a7 l7 k7, .slice (some ⟨b6, 0, none⟩) 32 32]) (hn7.alloc _) (((ln.out.below hb5 ln.out.lt).nums 32 hzl.out (by omega)).alloc _)
      exact ⟨_, rfl, (Below.refl _ _).alloc (Nat.le_refl _) _, hp⟩
    · obtain rfl := Option.some.inj hoi
      have h3 : PartsAt w5 (x 3) [maskB key 92, z] := hd 3 (by kernel_rfl)
      simp only [fill, Act.put, List.setIfInBounds_toArray, List.set_cons_succ, List.set_cons_zero]
      go_wp2_with fail
      refine (sum_any _ _ (maskB key 92 ++ z) w5 (by simp) h3 (byt_app (byt_mask _ _) (by rw [hz.out]; exact byt_sha _)) (by rw [List.length_append, hml2.out, hzl.out]; omega) (g5.out.below hb5 g5.out.lt)).mono ?_
      rintro e w7 ⟨rfl, hb7⟩
      go_wp2_with fail
      exact ⟨_, rfl, hb7, by rw [hr.out, hz.out]; rfl⟩
    · cases hoi
  · intro x w5 hb5 hd
    have h4 : (x 4) = .agg (bys r) := hd 4 (by decide)
    simp only [fill, Act.put, List.setIfInBounds_toArray, List.set_cons_succ, List.set_cons_zero, h4]
    have z8 : (Tryd.prog.info? 26).map (·.size) = some (bys r).size := by rw [bys_size, hrl.out]; exact sz26
    replace z8 := Lib.hid z8
    have ho8 : Hid ((bys (zb 32)).size = (bys r).size) := by show _ = _; rw [bys_size, bys_size, hrl.out]; rfl
    have l6 := Lib.hid (l5.out.below hb5 l5.out.lt)
    have b6 := Lib.hid (below_all b4.out hb5)
    have l7 := Lib.hid (l6.out.setRow (bys r))
    have b7 := Lib.hid (below_setRow b6.out (Nat.le_refl _) (bys r))
    go_wp2_with (refine wpList_store_row rfl 26 _ _ rfl _ _ rfl rfl 26 _ l6.out z8.out ho8.out (bys_one _) ?_)
    replace l7 := l7.out
    replace b7 := b7.out
    generalize w5.setRow w.heap.size (bys r) = w9 at l7 b7 ⊢
    exact bodyPost_ret (results_cell_row rfl _ _ _ 26 _ _ _ rfl l7 arr26 rfl z8.out) rfl ⟨rfl, b7⟩

set_option maxHeartbeats 400000 in
theorem extract_any (u v : Value) (key text : List Int) (w : World) (hg : Gl w) (hu : NumsAt .u8 w u key) (hv : NumsAt .u8 w v text) (hb : Byt key) (hbt : Byt text) (hl : key.length ≤ 10000) (hlt : text.length ≤ 10000) :
    Calls Tryd.prog 31 #[u, v] w fun e w' => e = .returned (.agg (bys (mac key text))) ∧ Below w.heap.size w w' := by
  obtain ⟨a1, l1', k1, rfl⟩ := slice_any hv
  obtain ⟨r, hr⟩ := name_it (mac key text)
  have hrl : Hid (r.length = 32) := by show _ = _; rw [hr.out]; exact mac_len _ _
  have b1 := (Below.refl w.heap.size w).alloc (Nat.le_refl _) (.cells (bys (zb 32)) 26)
  have l1 := Blk.new w 26 (bys (zb 32))
  obtain ⟨w1, hw1⟩ : ∃ x, x = w.alloc (.cells (bys (zb 32)) 26) := ⟨_, rfl⟩
  rw [← hw1] at b1 l1
  have hz : w1.heap.size = w.heap.size + 1 := by rw [hw1]; simp
  replace hw1 := Lib.hid hw1
  have b2 := below_all b1 ((Below.refl w1.heap.size w1).alloc (Nat.le_refl _) (.cells #[.slice a1 l1' k1] 22))
  have l2 := l1.alloc (.cells #[.slice a1 l1' k1] 22)
  have p2 := parts_one (Blk.new w1 22 #[.slice a1 l1' k1]) ((hv.below b1).alloc _)
  have u2 := (hu.below b1).alloc (.cells #[.slice a1 l1' k1] 22)
  have g2 := hg.below b2 hg.lt
  rw [← hr.out]
  replace b2 := Lib.hid b2
  replace l2 := Lib.hid l2
  replace p2 := Lib.hid p2
  replace u2 := Lib.hid u2
  replace g2 := Lib.hid g2
  clear hu hv b1 l1
  replace hb := Lib.hid hb
  replace hbt := Lib.hid hbt
  go_enter Tryd.func31, Tryd.ntmps31
  go_wp2_with fail
  change Calls _ _ _ ((w.alloc (.cells (bys (zb 32)) 26)).alloc (.cells #[.slice a1 l1' k1] 22)) _
  rw [← hw1.out, ← hz]
  refine (mac_any _ _ key text _ _ g2.out u2.out p2.out (by simp) hb.out hbt.out hl hlt (by simp)).mono ?_
  rintro e w3 ⟨rfl, hb3⟩
  rw [← hr.out]
  have z8 : (Tryd.prog.info? 26).map (·.size) = some (bys r).size := by rw [bys_size, hrl.out]; exact sz26
  replace z8 := Lib.hid z8
  have ho8 : Hid ((bys (zb 32)).size = (bys r).size) := by show _ = _; rw [bys_size, bys_size, hrl.out]; rfl
  have l3 := Lib.hid (l2.out.below hb3 l2.out.lt)
  have b3 := Lib.hid (below_all b2.out hb3)
  have l4 := Lib.hid (l3.out.setRow (bys r))
  have b4 := Lib.hid (below_setRow b3.out (Nat.le_refl _) (bys r))
  go_wp2_with (refine wpList_store_row rfl 26 _ _ rfl _ _ rfl rfl 26 _ l3.out z8.out ho8.out (bys_one _) ?_)
  replace l4 := l4.out
  replace b4 := b4.out
  generalize w3.setRow w.heap.size (bys r) = w9 at l4 b4 ⊢
  exact bodyPost_ret (results_cell_row rfl _ _ _ 26 _ _ _ rfl l4 arr26 rfl z8.out) rfl ⟨rfl, b4⟩
end Go.Proofs.YtikmfaeiecpncaaDoor
