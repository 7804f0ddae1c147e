/- The document's keys of a secret. -/
import Derived.Test.YtikmfaeiecpncaaDoorKB
namespace Go.Proofs.YtikmfaeiecpncaaDoor
open Go.RowKit

set_option maxHeartbeats 1600000 in
set_option maxRecDepth 100000 in
theorem rpacket_any (u : Value) (key : List Int) (w : World) (hu : NumsAt .u8 w u key) (hb : Byt key) (hl : key.length ≤ 10000) :
    Calls Tryd.prog 44 #[u] w fun e w' => e = .returned (.agg (bys (packetL key))) ∧ Below w.heap.size w w' := by
  obtain ⟨a0, l0, k0, rfl⟩ := slice_any hu
  obtain ⟨L1, hL1⟩ := name_it (lab key ⟨#[113, 117, 105, 99, 32, 107, 101, 121]⟩ [] 16)
  obtain ⟨L2, hL2⟩ := name_it (lab key ⟨#[113, 117, 105, 99, 32, 105, 118]⟩ [] 12)
  obtain ⟨L3, hL3⟩ := name_it (lab key ⟨#[113, 117, 105, 99, 32, 104, 112]⟩ [] 16)
  have z1 : Hid (L1.length = 16) := by show _ = _; rw [hL1.out]; exact labS_len _ _ _ _ (by decide) (by simp) (by omega)
  have z2 : Hid (L2.length = 12) := by show _ = _; rw [hL2.out]; exact labS_len _ _ _ _ (by decide) (by simp) (by omega)
  have z3 : Hid (L3.length = 16) := by show _ = _; rw [hL3.out]; exact labS_len _ _ _ _ (by decide) (by simp) (by omega)
  obtain ⟨r, hr⟩ := name_it (packetL key)
  have hr' : Hid (r = L1 ++ L2 ++ L3) := by show _ = _; rw [hr.out, hL1.out, hL2.out, hL3.out]; rfl
  have hrl : Hid (r.length = 44) := by show _ = _; rw [hr.out]; exact packetL_len _
  have z8 : (Tryd.prog.info? 61).map (·.size) = some (bys r).size := by rw [bys_size, hrl.out]; exact sz61
  replace z8 := Lib.hid z8
  have ho8 : Hid ((bys (zb 44)).size = (bys r).size) := by show _ = _; rw [bys_size, bys_size, hrl.out]; rfl
  rw [← hr.out]
  have c52 := fun (b o : Nat) (w : World) => slice_all arr52 len52 el52 b o w
  have c53 := fun (b o : Nat) (w : World) => slice_all arr53 len53 el53 b o w
  have b1 := (Below.refl w.heap.size w).alloc (Nat.le_refl _) (.cells (bys (zb 44)) 61)
  have l1 := Blk.new w 61 (bys (zb 44))
  obtain ⟨w1, hw1⟩ : ∃ x, x = w.alloc (.cells (bys (zb 44)) 61) := ⟨_, rfl⟩
  rw [← hw1] at b1 l1
  have hs1 : w1.heap.size = w.heap.size + 1 := by rw [hw1]; simp
  have b2 := Lib.hid (b1.alloc b1.size (.cells (bys (zb 44)) 61))
  have l2 := Lib.hid (l1.alloc (.cells (bys (zb 44)) 61))
  have m2 := Lib.hid (Blk.new w1 61 (bys (zb 44)))
  have hne : w.heap.size ≠ w1.heap.size := by omega
  have hle : w.heap.size ≤ w1.heap.size := by omega
  have u2 := Lib.hid (hu.below b2.out)
  clear b1 l1
  replace hb := Lib.hid hb
  replace hu := Lib.hid hu
  replace hw1 := Lib.hid hw1
  replace hne := Lib.hid hne
  replace hle := Lib.hid hle
  go_enter Tryd.func44, Tryd.ntmps44
  go_wp2_with fail
  change Code.wp _ _ _ _ ((w.alloc (.cells (bys (zb 44)) 61)).alloc (.cells (bys (zb 44)) 61))
  rw [← hw1.out, ← hs1]
  obtain ⟨b9, hb9'⟩ : ∃ b, b = w1.heap.size := ⟨_, rfl⟩
  rw [← hb9'] at m2 hne hle ⊢
  generalize w1.alloc (.cells (bys (zb 44)) 61) = w2 at b2 l2 m2 u2 ⊢
  clear hs1 hw1 hb9'
  refine region_rel_lit (.step (.step (.step (.step (.base _))))) (fun i W v => match i with
    | 0 => v = .pointer (some ⟨b9, 0, none⟩)
    | 1 => v = .slice (some ⟨b9, 0, none⟩) 16 16
    | 2 => v = .slice a0 l0 k0
    | _ => ∃ a n k, v = Value.slice a n k ∧ NumsAt .u8 W v L1) mixed (by kernel_rfl) (by kernel_rfl) ?_ ?_ ?_
  · rintro (_ | _ | _ | i) W W' v h hb
    all_goals first | exact h | exact PartsAt.below h hb | exact NumsAt.below h hb | exact sl_below h hb | exact SlAt.below h hb | exact PtrAt.below h hb | exact blk_spec h hb | exact spec_below h hb
  · intro i oi hoi x w9 hb9 hd
    rcases i with _ | _ | _ | _ | i
    · obtain rfl := Option.some.inj hoi
      simp only [fill, Act.put, List.setIfInBounds_toArray, List.set_cons_succ, List.set_cons_zero]
      go_wp2_with fail
      exact ⟨_, rfl, Below.refl _ _, rfl⟩
    · obtain rfl := Option.some.inj hoi
      have h0 : (x 0) = .pointer (some ⟨b9, 0, none⟩) := hd 0 (by kernel_rfl)
      simp only [fill, Act.put, List.setIfInBounds_toArray, List.set_cons_succ, List.set_cons_zero, h0]
      go_wp2_with fail
      exact ⟨_, rfl, Below.refl _ _, rfl⟩
    · obtain rfl := Option.some.inj hoi
      simp only [fill, Act.put, List.setIfInBounds_toArray, List.set_cons_succ, List.set_cons_zero]
      go_wp2_with fail
      exact ⟨_, rfl, Below.refl _ _, rfl⟩
    · obtain rfl := Option.some.inj hoi
      have h2 : (x 2) = .slice a0 l0 k0 := hd 2 (by kernel_rfl)
      simp only [fill, Act.put, List.setIfInBounds_toArray, List.set_cons_succ, List.set_cons_zero, h2]
      go_wp2_with fail
      refine (rlab_any _ _ key [] ⟨#[113, 117, 105, 99, 32, 107, 101, 121]⟩ 16 _ w9 rfl (u2.out.below hb9) (nums_nil _ _) hb.out byt_nil hl (by decide)).mono ?_
      rintro e w10 ⟨v10, rfl, hn10, hb10⟩
      obtain ⟨a9, l9, k9, rfl⟩ := slice_any hn10
      go_wp2_with fail
      exact ⟨_, rfl, hb10, _, _, _, rfl, by rw [hL1.out]; exact hn10⟩
    · cases hoi
  · intro x w9 hb9 hd
    have h1 : (x 1) = .slice (some ⟨b9, 0, none⟩) 16 16 := hd 1 (by decide)
    have h3 : ∃ a n k, (x 3) = Value.slice a n k ∧ NumsAt .u8 w9 (x 3) L1 := hd 3 (by decide)
    simp only [fill, Act.put, List.setIfInBounds_toArray, List.set_cons_succ, List.set_cons_zero, h1]
    obtain ⟨a7, l7, k7, e7, hn7⟩ := h3
    rw [e7] at hn7
    simp only [e7]
    have m6 := below_cell hb9 m2.out
    have hn8 := Lib.hid hn7
    clear hd e7 hn7
    have b3 := Lib.hid (below_setRow (below_all b2.out hb9) hle.out (bys ([] ++ L1 ++ zb 28)))
    have l3 := Lib.hid ((below_cell hb9 l2.out).rowOther (b' := b9) (bys ([] ++ L1 ++ zb 28)) hne.out)
    have m3 := Lib.hid (m6.setRow (bys ([] ++ L1 ++ zb 28)))
    have u3 := Lib.hid (hu.out.below b3.out)
    replace m6 : Hid (Blk w9 b9 61 (bys ([] ++ zb 16 ++ zb 28))) := m6
    clear b2 l2 m2 u2
    go_wp2_with (refine wpList_copy_mid rfl _ _ rfl b9 0 16 61 ([]) (zb 16) (zb 28) L1 _ rfl rfl m6.out (by simp) (by decide) z1.out (by omega) hn8.out ?_)
    clear hn8 m6
    generalize w9.setRow b9 (bys ([] ++ L1 ++ zb 28)) = w3 at b3 l3 m3 u3 ⊢
    clear hb9
    refine region_rel_lit (.step (.step (.step (.step (.base _))))) (fun i W v => match i with
      | 0 => v = .pointer (some ⟨b9, 16, none⟩)
      | 1 => v = .slice (some ⟨b9, 16, none⟩) 12 12
      | 2 => v = .slice a0 l0 k0
      | _ => ∃ a n k, v = Value.slice a n k ∧ NumsAt .u8 W v L2) mixed (by kernel_rfl) (by kernel_rfl) ?_ ?_ ?_
    · rintro (_ | _ | _ | i) W W' v h hb
      all_goals first | exact h | exact PartsAt.below h hb | exact NumsAt.below h hb | exact sl_below h hb | exact SlAt.below h hb | exact PtrAt.below h hb | exact blk_spec h hb | exact spec_below h hb
    · intro i oi hoi x w9 hb9 hd
      rcases i with _ | _ | _ | _ | i
      · obtain rfl := Option.some.inj hoi
        simp only [fill, Act.put, List.setIfInBounds_toArray, List.set_cons_succ, List.set_cons_zero]
        go_wp2_with fail
        exact ⟨_, rfl, Below.refl _ _, rfl⟩
      · obtain rfl := Option.some.inj hoi
        have h0 : (x 0) = .pointer (some ⟨b9, 16, none⟩) := hd 0 (by kernel_rfl)
        simp only [fill, Act.put, List.setIfInBounds_toArray, List.set_cons_succ, List.set_cons_zero, h0]
        go_wp2_with fail
        exact ⟨_, rfl, Below.refl _ _, rfl⟩
      · obtain rfl := Option.some.inj hoi
        simp only [fill, Act.put, List.setIfInBounds_toArray, List.set_cons_succ, List.set_cons_zero]
        go_wp2_with fail
        exact ⟨_, rfl, Below.refl _ _, rfl⟩
      · obtain rfl := Option.some.inj hoi
        have h2 : (x 2) = .slice a0 l0 k0 := hd 2 (by kernel_rfl)
        simp only [fill, Act.put, List.setIfInBounds_toArray, List.set_cons_succ, List.set_cons_zero, h2]
        go_wp2_with fail
        refine (rlab_any _ _ key [] ⟨#[113, 117, 105, 99, 32, 105, 118]⟩ 12 _ w9 rfl (u3.out.below hb9) (nums_nil _ _) hb.out byt_nil hl (by decide)).mono ?_
        rintro e w10 ⟨v10, rfl, hn10, hb10⟩
        obtain ⟨a9, l9, k9, rfl⟩ := slice_any hn10
        go_wp2_with fail
        exact ⟨_, rfl, hb10, _, _, _, rfl, by rw [hL2.out]; exact hn10⟩
      · cases hoi
    · intro x w9 hb9 hd
      have h1 : (x 1) = .slice (some ⟨b9, 16, none⟩) 12 12 := hd 1 (by decide)
      have h3 : ∃ a n k, (x 3) = Value.slice a n k ∧ NumsAt .u8 w9 (x 3) L2 := hd 3 (by decide)
      simp only [fill, Act.put, List.setIfInBounds_toArray, List.set_cons_succ, List.set_cons_zero, h1]
      obtain ⟨a7, l7, k7, e7, hn7⟩ := h3
      rw [e7] at hn7
      simp only [e7]
      have m6 := below_cell hb9 m3.out
      have hn8 := Lib.hid hn7
      clear hd e7 hn7
      have b4 := Lib.hid (below_setRow (below_all b3.out hb9) hle.out (bys (L1 ++ L2 ++ zb 16)))
      have l4 := Lib.hid ((below_cell hb9 l3.out).rowOther (b' := b9) (bys (L1 ++ L2 ++ zb 16)) hne.out)
      have m4 := Lib.hid (m6.setRow (bys (L1 ++ L2 ++ zb 16)))
      have u4 := Lib.hid (hu.out.below b4.out)
      replace m6 : Hid (Blk w9 b9 61 (bys (L1 ++ zb 12 ++ zb 16))) := by show Blk _ _ _ _; rw [List.append_assoc]; exact m6
      clear b3 l3 m3 u3
      go_wp2_with (refine wpList_copy_mid rfl _ _ rfl b9 16 12 61 (L1) (zb 12) (zb 16) L2 _ rfl rfl m6.out (by rw [z1.out]) (by decide) z2.out (by omega) hn8.out ?_)
      clear hn8 m6
      generalize w9.setRow b9 (bys (L1 ++ L2 ++ zb 16)) = w4 at b4 l4 m4 u4 ⊢
      clear hb9
      refine region_rel_lit (.step (.step (.step (.step (.base _))))) (fun i W v => match i with
        | 0 => v = .pointer (some ⟨b9, 28, none⟩)
        | 1 => v = .slice (some ⟨b9, 28, none⟩) 16 16
        | 2 => v = .slice a0 l0 k0
        | _ => ∃ a n k, v = Value.slice a n k ∧ NumsAt .u8 W v L3) mixed (by kernel_rfl) (by kernel_rfl) ?_ ?_ ?_
      · rintro (_ | _ | _ | i) W W' v h hb
        all_goals first | exact h | exact PartsAt.below h hb | exact NumsAt.below h hb | exact sl_below h hb | exact SlAt.below h hb | exact PtrAt.below h hb | exact blk_spec h hb | exact spec_below h hb
      · intro i oi hoi x w9 hb9 hd
        rcases i with _ | _ | _ | _ | i
        · obtain rfl := Option.some.inj hoi
          simp only [fill, Act.put, List.setIfInBounds_toArray, List.set_cons_succ, List.set_cons_zero]
          go_wp2_with fail
          exact ⟨_, rfl, Below.refl _ _, rfl⟩
        · obtain rfl := Option.some.inj hoi
          have h0 : (x 0) = .pointer (some ⟨b9, 28, none⟩) := hd 0 (by kernel_rfl)
          simp only [fill, Act.put, List.setIfInBounds_toArray, List.set_cons_succ, List.set_cons_zero, h0]
          go_wp2_with fail
          exact ⟨_, rfl, Below.refl _ _, rfl⟩
        · obtain rfl := Option.some.inj hoi
          simp only [fill, Act.put, List.setIfInBounds_toArray, List.set_cons_succ, List.set_cons_zero]
          go_wp2_with fail
          exact ⟨_, rfl, Below.refl _ _, rfl⟩
        · obtain rfl := Option.some.inj hoi
          have h2 : (x 2) = .slice a0 l0 k0 := hd 2 (by kernel_rfl)
          simp only [fill, Act.put, List.setIfInBounds_toArray, List.set_cons_succ, List.set_cons_zero, h2]
          go_wp2_with fail
          refine (rlab_any _ _ key [] ⟨#[113, 117, 105, 99, 32, 104, 112]⟩ 16 _ w9 rfl (u4.out.below hb9) (nums_nil _ _) hb.out byt_nil hl (by decide)).mono ?_
          rintro e w10 ⟨v10, rfl, hn10, hb10⟩
          obtain ⟨a9, l9, k9, rfl⟩ := slice_any hn10
          go_wp2_with fail
          exact ⟨_, rfl, hb10, _, _, _, rfl, by rw [hL3.out]; exact hn10⟩
        · cases hoi
      · intro x w9 hb9 hd
        have h1 : (x 1) = .slice (some ⟨b9, 28, none⟩) 16 16 := hd 1 (by decide)
        have h3 : ∃ a n k, (x 3) = Value.slice a n k ∧ NumsAt .u8 w9 (x 3) L3 := hd 3 (by decide)
        simp only [fill, Act.put, List.setIfInBounds_toArray, List.set_cons_succ, List.set_cons_zero, h1]
        obtain ⟨a7, l7, k7, e7, hn7⟩ := h3
        rw [e7] at hn7
        simp only [e7]
        have m6 := below_cell hb9 m4.out
        have hn8 := Lib.hid hn7
        clear hd e7 hn7
        have b5 := Lib.hid (below_setRow (below_all b4.out hb9) hle.out (bys (L1 ++ L2 ++ L3 ++ [])))
        have l5 := Lib.hid ((below_cell hb9 l4.out).rowOther (b' := b9) (bys (L1 ++ L2 ++ L3 ++ [])) hne.out)
        have m5 := Lib.hid (m6.setRow (bys (L1 ++ L2 ++ L3 ++ [])))
        have u5 := Lib.hid (hu.out.below b5.out)
        replace m6 : Hid (Blk w9 b9 61 (bys (L1 ++ L2 ++ zb 16 ++ []))) := by show Blk _ _ _ _; rw [List.append_assoc]; exact m6
        clear b4 l4 m4 u4
        obtain ⟨w5, hw5⟩ : ∃ x, x = w9.setRow b9 (bys (L1 ++ L2 ++ L3 ++ [])) := ⟨_, rfl⟩
        rw [← hw5] at b5 l5 m5 u5
        replace hw5 := Lib.hid hw5
        have e5 := Lib.hid (mid_load (t := 61) r (Blk.part (A := []) (B := r.map (Value.int .u8)) (C := []) (by simpa [bys, hr'.out, List.append_assoc] using m5.out) 0 rfl) Tryd.underlying61 rfl (by rw [hrl.out]; exact sz61))
        have l6 := Lib.hid (l5.out.setRow (bys r))
        have b6 := Lib.hid (below_setRow b5.out (Nat.le_refl _) (bys r))
        go_wp2_with (first | (refine wpList_copy_mid rfl _ _ rfl b9 28 16 61 (L1 ++ L2) (zb 16) ([]) L3 _ rfl rfl m6.out (by rw [List.length_append, z1.out, z2.out]) (by decide) z3.out (by omega) hn8.out ?_; rw [← hw5.out]) | refine wpList_load_is rfl 61 _ rfl rfl e5.out ?_ | refine wpList_store_row rfl 61 _ _ rfl _ _ rfl rfl 61 _ l5.out z8.out ho8.out (bys_one _) ?_)
        replace l6 := l6.out
        replace b6 := b6.out
        generalize w5.setRow w.heap.size (bys r) = w10 at l6 b6 ⊢
        exact bodyPost_ret (results_cell_row rfl _ _ _ 61 _ _ _ rfl l6 Tryd.underlying61 rfl z8.out) rfl ⟨rfl, b6⟩
end Go.Proofs.YtikmfaeiecpncaaDoor
