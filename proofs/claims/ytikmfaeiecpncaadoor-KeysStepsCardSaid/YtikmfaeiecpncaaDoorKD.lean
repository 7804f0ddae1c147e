/- The keys of the first packets, and the document's. -/
import Derived.Test.YtikmfaeiecpncaaDoorKC
namespace Go.Proofs.YtikmfaeiecpncaaDoor
open Go.RowKit

theorem zero_of {t : TypeId} {v : Value} (h : (Tryd.prog.info? t).bind (·.zero) = some v) (w : World) : (zeroValue t).run Tryd.prog w = .ok v w := by
  cases hi : Tryd.prog.info? t with
  | none => simp [hi] at h
  | some i =>
    have h2 : i.zero = some v := by simpa [hi] using h
    simp [zeroValue, typeInfo, hi, h2]
theorem zero56 : (Tryd.prog.info? 56).bind (·.zero) = some (.agg (bys (zb 88))) := by kernel_rfl
theorem zero62 : (Tryd.prog.info? 62).bind (·.zero) = some (.agg (bys (zb 88))) := by kernel_rfl
def firstL (psk dst : List Int) : List Int := packetL (lab (mac dst psk) ⟨#[99, 108, 105, 101, 110, 116, 32, 105, 110]⟩ [] 32) ++ packetL (lab (mac dst psk) ⟨#[115, 101, 114, 118, 101, 114, 32, 105, 110]⟩ [] 32)
theorem firstL_len (psk dst : List Int) : (firstL psk dst).length = 88 := by rw [firstL, List.length_append, packetL_len, packetL_len]
set_option maxHeartbeats 1600000 in
set_option maxRecDepth 100000 in
theorem first_any (u v : Value) (psk dst : List Int) (w : World) (hg : Gl w) (hu : NumsAt .u8 w u psk) (hv : NumsAt .u8 w v dst) (hb : Byt psk) (hbd : Byt dst) (hl : psk.length ≤ 10000) (hld : dst.length ≤ 10000) :
    Calls Tryd.prog 39 #[u, v] w fun e w' => e = .returned (.agg (bys (firstL psk dst))) ∧ Below w.heap.size w w' := by
  obtain ⟨a0, l0, k0, rfl⟩ := slice_any hu
  obtain ⟨a1, l1, k1, rfl⟩ := slice_any hv
  obtain ⟨e, he⟩ := name_it (mac dst psk)
  have hel : Hid (e.length = 32) := by show _ = _; rw [he.out]; exact mac_len _ _
  have hbe : Hid (Byt e) := by show Byt _; rw [he.out]; exact byt_mac _ _
  obtain ⟨C1, hC1⟩ := name_it (lab e ⟨#[99, 108, 105, 101, 110, 116, 32, 105, 110]⟩ [] 32)
  obtain ⟨C2, hC2⟩ := name_it (lab e ⟨#[115, 101, 114, 118, 101, 114, 32, 105, 110]⟩ [] 32)
  have z1 : Hid (C1.length = 32) := by show _ = _; rw [hC1.out]; exact labS_len _ _ _ _ (by decide) (by simp) (by omega)
  have z2 : Hid (C2.length = 32) := by show _ = _; rw [hC2.out]; exact labS_len _ _ _ _ (by decide) (by simp) (by omega)
  have y1 : Hid (Byt C1) := by show Byt _; rw [hC1.out]; exact byt_labS _ _ _ _
  have y2 : Hid (Byt C2) := by show Byt _; rw [hC2.out]; exact byt_labS _ _ _ _
  obtain ⟨P1, hP1⟩ := name_it (packetL C1)
  obtain ⟨P2, hP2⟩ := name_it (packetL C2)
  obtain ⟨r, hr⟩ := name_it (firstL psk dst)
  have hr' : Hid (r = P1 ++ P2) := by show _ = _; rw [hr.out, hP1.out, hP2.out, hC1.out, hC2.out, he.out]; rfl
  have hrl : Hid (r.length = 88) := by show _ = _; rw [hr.out]; exact firstL_len _ _
  have hbt := Lib.hid (built56 P1 P2 (by rw [hP1.out]; exact packetL_len _) (by rw [hP2.out]; exact packetL_len _))
  rw [← hr'.out] at hbt
  rw [← hr.out]
  have zr : (Tryd.prog.info? 56).map (·.size) = some (bys r).size := by rw [bys_size, hrl.out]; exact sz56
  replace zr := Lib.hid zr
  have hor : Hid ((bys (zb 88)).size = (bys r).size) := by show _ = _; rw [bys_size, bys_size, hrl.out]; rfl
  have hc26 := fun (b : Nat) (w : World) => slice_all arr26 arr26' el26 b 0 w
  have hzz := fun w => zero_of zero56 w
  have b1 := (Below.refl w.heap.size w).alloc (Nat.le_refl _) (.cells (bys (zb 88)) 56)
  have l1 := Lib.hid (Blk.new w 56 (bys (zb 88)))
  have u1 := Lib.hid (hu.below b1)
  have v1 := Lib.hid (hv.below b1)
  have g1 := Lib.hid (hg.below b1 hg.lt)
  replace b1 := Lib.hid b1
  replace hb := Lib.hid hb
  replace hbd := Lib.hid hbd
  clear hu hv hg
  go_enter Tryd.func39, Tryd.ntmps39
  go_wp2_with fail
  refine (extract_any _ _ dst psk _ g1.out v1.out u1.out hbd.out hb.out hld hl).mono ?_
  rintro ee w2 ⟨rfl, hb2⟩
  rw [← he.out]
  have b2 := Lib.hid (below_all b1.out hb2)
  have l2 := Lib.hid (l1.out.below hb2 l1.out.lt)
  have g2 := Lib.hid (g1.out.below hb2 g1.out.lt)
  clear u1 v1 b1 l1 hb2
  clear g1
  have z8 : (Tryd.prog.info? 26).map (·.size) = some (bys e).size := by rw [bys_size, hel.out]; exact sz26
  replace z8 := Lib.hid z8
  have ho8 : Hid ((bys (zb 32)).size = (bys e).size) := by show _ = _; rw [bys_size, bys_size, hel.out]; rfl
  have ln_b5 := Lib.hid ((Blk.new w2 26 (bys (zb 32))).setRow (bys e))
  have bb8 := Lib.hid (below_setRow (g := w2.heap.size) ((Below.refl w2.heap.size w2).alloc (Nat.le_refl _) (.cells (bys (zb 32)) 26)) (Nat.le_refl _) (bys e))
  obtain ⟨w3, hw8⟩ : ∃ x, x = (w2.alloc (.cells (bys (zb 32)) 26)).setRow w2.heap.size (bys e) := ⟨_, rfl⟩
  rw [← hw8] at ln_b5 bb8
  have hlt_b5 := ln_b5.out.lt
  replace hlt_b5 := Lib.hid hlt_b5
  have b3 := Lib.hid (below_all b2.out bb8.out)
  have l3 := Lib.hid (below_cell bb8.out l2.out)
  have g3 := Lib.hid (g2.out.below bb8.out g2.out.lt)
  clear b2 l2 g2
  replace hw8 := Lib.hid hw8
  go_wp2_with (refine wpList_store_row rfl 26 _ _ rfl _ _ rfl rfl 26 _ (Blk.new w2 26 (bys (zb 32))) z8.out ho8.out (bys_one _) ?_; change wpList _ _ _ _ _ ((w2.alloc (.cells (bys (zb 32)) 26)).setRow w2.heap.size (bys e)); rw [← hw8.out])
  obtain ⟨b5, hb8⟩ : ∃ b, b = w2.heap.size := ⟨_, rfl⟩
  rw [← hb8] at ln_b5 ⊢
  clear hb8 hw8 z8 ho8 bb8
  refine region_rel_lit (.step (.step (.step (.step (.step (.step (.step (.base _)))))))) (fun i W v => match i with
    | 0 => v = (.slice (some ⟨b5, 0, none⟩) 32 32)
    | 1 => ∃ a n k, v = Value.slice a n k ∧ NumsAt .u8 W v C1
    | 2 => v = .agg (bys P1)
    | 3 => v = (.slice (some ⟨b5, 0, none⟩) 32 32)
    | 4 => ∃ a n k, v = Value.slice a n k ∧ NumsAt .u8 W v C2
    | 5 => v = .agg (bys P2)
    | _ => v = .agg (bys r)) mixed (by kernel_rfl) (by kernel_rfl) ?_ ?_ ?_
  · rintro (_ | _ | _ | _ | _ | _ | i) W W' v h hb
    all_goals first | exact h | exact PartsAt.below h hb | exact NumsAt.below h hb | exact sl_below h hb | exact SlAt.below h hb | exact PtrAt.below h hb | exact blk_spec h hb | exact spec_below h hb
  · intro i oi hoi x w9 hb9 hd
    rcases i with _ | _ | _ | _ | _ | _ | _ | i
    · obtain rfl := Option.some.inj hoi
      simp only [fill, Act.put, List.setIfInBounds_toArray, List.set_cons_succ, List.set_cons_zero]
      go_wp2_with fail
      exact ⟨_, rfl, Below.refl _ _, rfl⟩
    · obtain rfl := Option.some.inj hoi
      have h0 : (x 0) = (.slice (some ⟨b5, 0, none⟩) 32 32) := hd 0 (by kernel_rfl)
      simp only [fill, Act.put, List.setIfInBounds_toArray, List.set_cons_succ, List.set_cons_zero, h0]
      go_wp2_with fail
      refine (of_any _ _ e [] ⟨#[99, 108, 105, 101, 110, 116, 32, 105, 110]⟩ w9 (g3.out.below hb9 g3.out.lt) ((below_cell hb9 ln_b5.out).nums 32 hel.out (by omega)) (nums_nil _ _) hbe.out byt_nil (by rw [hel.out]; omega) (by decide) (by simp)).mono ?_
      rintro ee w10 ⟨v10, rfl, hn10, _, hb10⟩
      obtain ⟨a9, l9, k9, rfl⟩ := slice_any hn10
      go_wp2_with fail
      exact ⟨_, rfl, hb10, _, _, _, rfl, by rw [hC1.out]; exact hn10⟩
    · obtain rfl := Option.some.inj hoi
      have h1 : ∃ a n k, (x 1) = Value.slice a n k ∧ NumsAt .u8 w9 (x 1) C1 := hd 1 (by kernel_rfl)
      simp only [fill, Act.put, List.setIfInBounds_toArray, List.set_cons_succ, List.set_cons_zero]
      obtain ⟨a7, l7, k7, e7, hn7⟩ := h1
      rw [e7] at hn7
      simp only [e7]
      go_wp2_with fail
      refine (packet_any _ C1 w9 (g3.out.below hb9 g3.out.lt) hn7 y1.out (by rw [z1.out]; omega)).mono ?_
      rintro ee w10 ⟨rfl, hb10⟩
      go_wp2_with fail
      exact ⟨_, rfl, hb10, by rw [hP1.out]⟩
    · obtain rfl := Option.some.inj hoi
      simp only [fill, Act.put, List.setIfInBounds_toArray, List.set_cons_succ, List.set_cons_zero]
      go_wp2_with fail
      exact ⟨_, rfl, Below.refl _ _, rfl⟩
    · obtain rfl := Option.some.inj hoi
      have h3 : (x 3) = (.slice (some ⟨b5, 0, none⟩) 32 32) := hd 3 (by kernel_rfl)
      simp only [fill, Act.put, List.setIfInBounds_toArray, List.set_cons_succ, List.set_cons_zero, h3]
      go_wp2_with fail
      refine (of_any _ _ e [] ⟨#[115, 101, 114, 118, 101, 114, 32, 105, 110]⟩ w9 (g3.out.below hb9 g3.out.lt) ((below_cell hb9 ln_b5.out).nums 32 hel.out (by omega)) (nums_nil _ _) hbe.out byt_nil (by rw [hel.out]; omega) (by decide) (by simp)).mono ?_
      rintro ee w10 ⟨v10, rfl, hn10, _, hb10⟩
      obtain ⟨a9, l9, k9, rfl⟩ := slice_any hn10
      go_wp2_with fail
      exact ⟨_, rfl, hb10, _, _, _, rfl, by rw [hC2.out]; exact hn10⟩
    · obtain rfl := Option.some.inj hoi
      have h4 : ∃ a n k, (x 4) = Value.slice a n k ∧ NumsAt .u8 w9 (x 4) C2 := hd 4 (by kernel_rfl)
      simp only [fill, Act.put, List.setIfInBounds_toArray, List.set_cons_succ, List.set_cons_zero]
      obtain ⟨a7, l7, k7, e7, hn7⟩ := h4
      rw [e7] at hn7
      simp only [e7]
      go_wp2_with fail
      refine (packet_any _ C2 w9 (g3.out.below hb9 g3.out.lt) hn7 y2.out (by rw [z2.out]; omega)).mono ?_
      rintro ee w10 ⟨rfl, hb10⟩
      go_wp2_with fail
      exact ⟨_, rfl, hb10, by rw [hP2.out]⟩
    · obtain rfl := Option.some.inj hoi
      have h2 : (x 2) = .agg (bys P1) := hd 2 (by kernel_rfl)
      have h5 : (x 5) = .agg (bys P2) := hd 5 (by kernel_rfl)
      simp only [fill, Act.put, List.setIfInBounds_toArray, List.set_cons_succ, List.set_cons_zero, h2, h5]
      go_wp2_with (refine wpList_buildTo rfl 56 _ rfl _ rfl (bys r) (by refine Eq.trans (b := Tryd.prog.built 56 [(0, .agg (bys P1)), (1, .agg (bys P2))]) (by kernel_rfl) hbt.out) ?_)
      exact ⟨_, rfl, Below.refl _ _, rfl⟩
    · cases hoi
  · intro x w9 hb9 hd
    have h6 : (x 6) = .agg (bys r) := hd 6 (by decide)
    simp only [fill, Act.put, List.setIfInBounds_toArray, List.set_cons_succ, List.set_cons_zero, h6]
    have l6 := Lib.hid (below_cell hb9 l3.out)
    have l7 := Lib.hid (l6.out.setRow (bys r))
    have b7 := Lib.hid (below_setRow (below_all b3.out hb9) (Nat.le_refl _) (bys r))
    go_wp2_with (refine wpList_store_row rfl 56 _ _ rfl _ _ rfl rfl 56 _ l6.out zr.out hor.out (bys_one _) ?_)
    replace l7 := l7.out
    replace b7 := b7.out
    generalize w9.setRow w.heap.size (bys r) = w10 at l7 b7 ⊢
    exact bodyPost_ret (results_cell_row rfl _ _ _ 56 _ _ _ rfl l7 Tryd.underlying56 rfl zr.out) rfl ⟨rfl, b7⟩
set_option maxHeartbeats 1600000 in
set_option maxRecDepth 100000 in
theorem rfirst_any (u v : Value) (psk dst : List Int) (w : World) (hu : NumsAt .u8 w u psk) (hv : NumsAt .u8 w v dst) (hb : Byt psk) (hbd : Byt dst) (hl : psk.length ≤ 10000) (hld : dst.length ≤ 10000) :
    Calls Tryd.prog 40 #[u, v] w fun e w' => e = .returned (.agg (bys (firstL psk dst))) ∧ Below w.heap.size w w' := by
  obtain ⟨a0, l0, k0, rfl⟩ := slice_any hu
  obtain ⟨a1, l1, k1, rfl⟩ := slice_any hv
  obtain ⟨e, he⟩ := name_it (mac dst psk)
  have hel : Hid (e.length = 32) := by show _ = _; rw [he.out]; exact mac_len _ _
  have hbe : Hid (Byt e) := by show Byt _; rw [he.out]; exact byt_mac _ _
  obtain ⟨C1, hC1⟩ := name_it (lab e ⟨#[99, 108, 105, 101, 110, 116, 32, 105, 110]⟩ [] 32)
  obtain ⟨C2, hC2⟩ := name_it (lab e ⟨#[115, 101, 114, 118, 101, 114, 32, 105, 110]⟩ [] 32)
  have z1 : Hid (C1.length = 32) := by show _ = _; rw [hC1.out]; exact labS_len _ _ _ _ (by decide) (by simp) (by omega)
  have z2 : Hid (C2.length = 32) := by show _ = _; rw [hC2.out]; exact labS_len _ _ _ _ (by decide) (by simp) (by omega)
  have y1 : Hid (Byt C1) := by show Byt _; rw [hC1.out]; exact byt_labS _ _ _ _
  have y2 : Hid (Byt C2) := by show Byt _; rw [hC2.out]; exact byt_labS _ _ _ _
  obtain ⟨P1, hP1⟩ := name_it (packetL C1)
  obtain ⟨P2, hP2⟩ := name_it (packetL C2)
  obtain ⟨r, hr⟩ := name_it (firstL psk dst)
  have hr' : Hid (r = P1 ++ P2) := by show _ = _; rw [hr.out, hP1.out, hP2.out, hC1.out, hC2.out, he.out]; rfl
  have hrl : Hid (r.length = 88) := by show _ = _; rw [hr.out]; exact firstL_len _ _
  have hbt := Lib.hid (built62 P1 P2 (by rw [hP1.out]; exact packetL_len _) (by rw [hP2.out]; exact packetL_len _))
  rw [← hr'.out] at hbt
  rw [← hr.out]
  have zr : (Tryd.prog.info? 62).map (·.size) = some (bys r).size := by rw [bys_size, hrl.out]; exact sz62
  replace zr := Lib.hid zr
  have hor : Hid ((bys (zb 88)).size = (bys r).size) := by show _ = _; rw [bys_size, bys_size, hrl.out]; rfl
  have hc26 := fun (b : Nat) (w : World) => slice_all arr26 arr26' el26 b 0 w
  have hzz := fun w => zero_of zero62 w
  have b1 := (Below.refl w.heap.size w).alloc (Nat.le_refl _) (.cells (bys (zb 88)) 62)
  have l1 := Lib.hid (Blk.new w 62 (bys (zb 88)))
  have u1 := Lib.hid (hu.below b1)
  have v1 := Lib.hid (hv.below b1)
  replace b1 := Lib.hid b1
  replace hb := Lib.hid hb
  replace hbd := Lib.hid hbd
  clear hu hv
  go_enter Tryd.func40, Tryd.ntmps40
  go_wp2_with fail
  refine (rextract_any _ _ dst psk _ v1.out u1.out hbd.out hb.out hld hl).mono ?_
  rintro ee w2 ⟨rfl, hb2⟩
  rw [← he.out]
  have b2 := Lib.hid (below_all b1.out hb2)
  have l2 := Lib.hid (l1.out.below hb2 l1.out.lt)
  clear u1 v1 b1 l1 hb2
  have z8 : (Tryd.prog.info? 26).map (·.size) = some (bys e).size := by rw [bys_size, hel.out]; exact sz26
  replace z8 := Lib.hid z8
  have ho8 : Hid ((bys (zb 32)).size = (bys e).size) := by show _ = _; rw [bys_size, bys_size, hel.out]; rfl
  have ln_b5 := Lib.hid ((Blk.new w2 26 (bys (zb 32))).setRow (bys e))
  have bb8 := Lib.hid (below_setRow (g := w2.heap.size) ((Below.refl w2.heap.size w2).alloc (Nat.le_refl _) (.cells (bys (zb 32)) 26)) (Nat.le_refl _) (bys e))
  obtain ⟨w3, hw8⟩ : ∃ x, x = (w2.alloc (.cells (bys (zb 32)) 26)).setRow w2.heap.size (bys e) := ⟨_, rfl⟩
  rw [← hw8] at ln_b5 bb8
  have hlt_b5 := ln_b5.out.lt
  replace hlt_b5 := Lib.hid hlt_b5
  have b3 := Lib.hid (below_all b2.out bb8.out)
  have l3 := Lib.hid (below_cell bb8.out l2.out)
  clear b2 l2
  replace hw8 := Lib.hid hw8
  go_wp2_with (refine wpList_store_row rfl 26 _ _ rfl _ _ rfl rfl 26 _ (Blk.new w2 26 (bys (zb 32))) z8.out ho8.out (bys_one _) ?_; change wpList _ _ _ _ _ ((w2.alloc (.cells (bys (zb 32)) 26)).setRow w2.heap.size (bys e)); rw [← hw8.out])
  obtain ⟨b5, hb8⟩ : ∃ b, b = w2.heap.size := ⟨_, rfl⟩
  rw [← hb8] at ln_b5 ⊢
  clear hb8 hw8 z8 ho8 bb8
  refine region_rel_lit (.step (.step (.step (.step (.step (.step (.step (.base _)))))))) (fun i W v => match i with
    | 0 => v = (.slice (some ⟨b5, 0, none⟩) 32 32)
    | 1 => ∃ a n k, v = Value.slice a n k ∧ NumsAt .u8 W v C1
    | 2 => v = .agg (bys P1)
    | 3 => v = (.slice (some ⟨b5, 0, none⟩) 32 32)
    | 4 => ∃ a n k, v = Value.slice a n k ∧ NumsAt .u8 W v C2
    | 5 => v = .agg (bys P2)
    | _ => v = .agg (bys r)) mixed (by kernel_rfl) (by kernel_rfl) ?_ ?_ ?_
  · rintro (_ | _ | _ | _ | _ | _ | i) W W' v h hb
    all_goals first | exact h | exact PartsAt.below h hb | exact NumsAt.below h hb | exact sl_below h hb | exact SlAt.below h hb | exact PtrAt.below h hb | exact blk_spec h hb | exact spec_below h hb
  · intro i oi hoi x w9 hb9 hd
    rcases i with _ | _ | _ | _ | _ | _ | _ | i
    · obtain rfl := Option.some.inj hoi
      simp only [fill, Act.put, List.setIfInBounds_toArray, List.set_cons_succ, List.set_cons_zero]
      go_wp2_with fail
      exact ⟨_, rfl, Below.refl _ _, rfl⟩
    · obtain rfl := Option.some.inj hoi
      have h0 : (x 0) = (.slice (some ⟨b5, 0, none⟩) 32 32) := hd 0 (by kernel_rfl)
      simp only [fill, Act.put, List.setIfInBounds_toArray, List.set_cons_succ, List.set_cons_zero, h0]
      go_wp2_with fail
      refine (rlab_any _ _ e [] ⟨#[99, 108, 105, 101, 110, 116, 32, 105, 110]⟩ 32 _ w9 rfl ((below_cell hb9 ln_b5.out).nums 32 hel.out (by omega)) (nums_nil _ _) hbe.out byt_nil (by rw [hel.out]; omega) (by decide)).mono ?_
      rintro ee w10 ⟨v10, rfl, hn10, hb10⟩
      obtain ⟨a9, l9, k9, rfl⟩ := slice_any hn10
      go_wp2_with fail
      exact ⟨_, rfl, hb10, _, _, _, rfl, by rw [hC1.out]; exact hn10⟩
    · obtain rfl := Option.some.inj hoi
      have h1 : ∃ a n k, (x 1) = Value.slice a n k ∧ NumsAt .u8 w9 (x 1) C1 := hd 1 (by kernel_rfl)
      simp only [fill, Act.put, List.setIfInBounds_toArray, List.set_cons_succ, List.set_cons_zero]
      obtain ⟨a7, l7, k7, e7, hn7⟩ := h1
      rw [e7] at hn7
      simp only [e7]
      go_wp2_with fail
      refine (rpacket_any _ C1 w9 hn7 y1.out (by rw [z1.out]; omega)).mono ?_
      rintro ee w10 ⟨rfl, hb10⟩
      go_wp2_with fail
      exact ⟨_, rfl, hb10, by rw [hP1.out]⟩
    · obtain rfl := Option.some.inj hoi
      simp only [fill, Act.put, List.setIfInBounds_toArray, List.set_cons_succ, List.set_cons_zero]
      go_wp2_with fail
      exact ⟨_, rfl, Below.refl _ _, rfl⟩
    · obtain rfl := Option.some.inj hoi
      have h3 : (x 3) = (.slice (some ⟨b5, 0, none⟩) 32 32) := hd 3 (by kernel_rfl)
      simp only [fill, Act.put, List.setIfInBounds_toArray, List.set_cons_succ, List.set_cons_zero, h3]
      go_wp2_with fail
      refine (rlab_any _ _ e [] ⟨#[115, 101, 114, 118, 101, 114, 32, 105, 110]⟩ 32 _ w9 rfl ((below_cell hb9 ln_b5.out).nums 32 hel.out (by omega)) (nums_nil _ _) hbe.out byt_nil (by rw [hel.out]; omega) (by decide)).mono ?_
      rintro ee w10 ⟨v10, rfl, hn10, hb10⟩
      obtain ⟨a9, l9, k9, rfl⟩ := slice_any hn10
      go_wp2_with fail
      exact ⟨_, rfl, hb10, _, _, _, rfl, by rw [hC2.out]; exact hn10⟩
    · obtain rfl := Option.some.inj hoi
      have h4 : ∃ a n k, (x 4) = Value.slice a n k ∧ NumsAt .u8 w9 (x 4) C2 := hd 4 (by kernel_rfl)
      simp only [fill, Act.put, List.setIfInBounds_toArray, List.set_cons_succ, List.set_cons_zero]
      obtain ⟨a7, l7, k7, e7, hn7⟩ := h4
      rw [e7] at hn7
      simp only [e7]
      go_wp2_with fail
      refine (rpacket_any _ C2 w9 hn7 y2.out (by rw [z2.out]; omega)).mono ?_
      rintro ee w10 ⟨rfl, hb10⟩
      go_wp2_with fail
      exact ⟨_, rfl, hb10, by rw [hP2.out]⟩
    · obtain rfl := Option.some.inj hoi
      have h2 : (x 2) = .agg (bys P1) := hd 2 (by kernel_rfl)
      have h5 : (x 5) = .agg (bys P2) := hd 5 (by kernel_rfl)
      simp only [fill, Act.put, List.setIfInBounds_toArray, List.set_cons_succ, List.set_cons_zero, h2, h5]
      go_wp2_with (refine wpList_buildTo rfl 62 _ rfl _ rfl (bys r) (by refine Eq.trans (b := Tryd.prog.built 62 [(0, .agg (bys P1)), (1, .agg (bys P2))]) (by kernel_rfl) hbt.out) ?_)
      exact ⟨_, rfl, Below.refl _ _, rfl⟩
    · cases hoi
  · intro x w9 hb9 hd
    have h6 : (x 6) = .agg (bys r) := hd 6 (by decide)
    simp only [fill, Act.put, List.setIfInBounds_toArray, List.set_cons_succ, List.set_cons_zero, h6]
    have l6 := Lib.hid (below_cell hb9 l3.out)
    have l7 := Lib.hid (l6.out.setRow (bys r))
    have b7 := Lib.hid (below_setRow (below_all b3.out hb9) (Nat.le_refl _) (bys r))
    go_wp2_with (refine wpList_store_row rfl 62 _ _ rfl _ _ rfl rfl 62 _ l6.out zr.out hor.out (bys_one _) ?_)
    replace l7 := l7.out
    replace b7 := b7.out
    generalize w9.setRow w.heap.size (bys r) = w10 at l7 b7 ⊢
    exact bodyPost_ret (results_cell_row rfl _ _ _ 62 _ _ _ rfl l7 Tryd.underlying62 rfl zr.out) rfl ⟨rfl, b7⟩
end Go.Proofs.YtikmfaeiecpncaaDoor
