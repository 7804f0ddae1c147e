/- However what is digested with a key is parted: the statement's walk. -/
import Derived.Test.YtikmfaeiecpncaaDoorHK
import Derived.Test.YtikmfaeiecpncaaDoorHM
namespace Go.Proofs.YtikmfaeiecpncaaDoor
open Go.RowKit

set_option maxHeartbeats 3200000 in
set_option maxRecDepth 100000 in
theorem parts_any (u v : Value) (key text : List Int) (c0 by0 : Int) (w : World) (hg : Gl w) (hu : NumsAt .u8 w u key) (hv : NumsAt .u8 w v text) (hb : Byt key) (hbt : Byt text) (hby : 0 ≤ by0 ∧ by0 ≤ 255) :
    Calls Tryd.prog 10 #[u, v, .int .i64 c0, .int .u8 by0] w fun e w' => e = .returned (.bool true) ∧ Below w.heap.size w w' := by
  obtain ⟨i0, hi, hz0, hz1, hz2⟩ := info_parts info5
  obtain ⟨a0, k0, rfl, _⟩ := slice_form hu
  obtain ⟨a1, k1, rfl, _⟩ := slice_form hv
  by_cases hbig : 150 < key.length
  · have q1 : decide ((150 : Int) < key.length) = true := by simp; omega
    go_enter Tryd.func10, Tryd.ntmps10
    go_wp2_with fail
    refine (awake3_any w hg).mono ?_
    rintro e w1 ⟨rfl, hb1⟩
    go_wp2_with fail
    go_ret
    exact ⟨rfl, hb1⟩
  have q1 : decide ((150 : Int) < key.length) = false := by simp; omega
  by_cases hbig2 : 150 < text.length
  · have q2 : decide ((150 : Int) < text.length) = true := by simp; omega
    clear hbig
    go_enter Tryd.func10, Tryd.ntmps10
    go_wp2_with fail
    refine (awake3_any w hg).mono ?_
    rintro e w1 ⟨rfl, hb1⟩
    go_wp2_with fail
    go_ret
    exact ⟨rfl, hb1⟩
  have q2 : decide ((150 : Int) < text.length) = false := by simp; omega
  have hkl : key.length ≤ 150 := by omega
  have htl : text.length ≤ 150 := by omega
  have htI : (text.length : Int) ≤ 150 := by omega
  clear hbig hbig2
  obtain ⟨cI, hcc, hcc0, hcc1⟩ := low_name c0 ((text.length : Int) + 1) (by omega)
  obtain ⟨c, rfl⟩ := Int.eq_ofNat_of_zero_le hcc0
  have hcl : (c : Int) ≤ text.length := by omega
  obtain ⟨r, hr⟩ := name_it (mac key text)
  have hrl : Hid (r.length = 32) := by show _ = _; rw [hr.out]; exact mac_len _ _
  obtain ⟨T, hT⟩ := name_it (text ++ [by0])
  have hTl : Hid (T.length = text.length + 1) := by show _ = _; rw [hT.out]; simp
  obtain ⟨rm, hrm⟩ := name_it (mac key T)
  have hrml : Hid (rm.length = 32) := by show _ = _; rw [hrm.out]; exact mac_len _ _
  obtain ⟨rz, hrz⟩ := name_it (mac [] text)
  have hrzl : Hid (rz.length = 32) := by show _ = _; rw [hrz.out]; exact mac_len _ _
  have hzz : Hid (mac (zb 32) text = rz) := by show _ = _; rw [hrz.out]; exact mac_zeros [] text 32 (by simp)
  have hne : (text == T) = false := by
    simp only [beq_eq_false_iff_ne]; intro h; have := congrArg List.length h; rw [hTl.out] at this; omega
  replace hne := Lib.hid hne
  have hbT : Hid (Byt T) := by show Byt _; rw [hT.out]; exact byt_app hbt (byt_of (by intro n hn; simp at hn; omega))
  have hbz : Hid (Byt (zb 32)) := byt_of (fun n hn => by simp [zb] at hn; omega)
  have hc26 := fun (b : Nat) (w : World) => slice_all arr26 arr26' el26 b 0 w
  have hm26 := guard26
  replace hb := Lib.hid hb
  replace hbt := Lib.hid hbt
  have hf1 : Hid (([text] : List (List Int)).flatten = text) := by show _ = _; simp
  have hf2 : Hid (([text.take c, text.drop c] : List (List Int)).flatten = text) := by show _ = _; simp
  have hf3 : Hid (([T] : List (List Int)).flatten = T) := by show _ = _; simp
  replace hcc1 := Lib.hid hcc1
  have hmk : ∀ w : World, (Instr.makeSlice 22 (.int .i64 32) (.int .i64 32)).run Tryd.prog w = .ok (.slice (some ⟨w.heap.size, 0, none⟩) 32 32) (w.alloc (.cells (bys (List.replicate 32 0)) 5)) := fun w => make_bytes 32 (by omega) w
  go_enter Tryd.func10, Tryd.ntmps10
  go_wp2_with fail
  refine (low_r c0 ((text.length : Int) + 1) c w hcc (by omega) (by omega)).mono ?_
  rintro e w1 ⟨rfl, rfl⟩
  go_wp2_with fail
  have p1 := parts_one (Blk.new w 22 #[.slice a1 text.length k1]) (hv.alloc _)
  have b1 := (Below.refl w.heap.size w).alloc (Nat.le_refl _) (.cells #[.slice a1 text.length k1] 22)
  refine (mac_any _ _ key text _ _ (hg.below b1 hg.lt) (hu.alloc _) p1 hf1.out hb.out hbt.out (by omega) (by omega) (by simp)).mono ?_
  rintro e w2 ⟨rfl, hb2⟩
  rw [← hr.out]
  have b2 := Lib.hid (below_all b1 hb2)
  have g2 := Lib.hid (hg.below b2.out hg.lt)
  have u2 := Lib.hid (hu.below b2.out)
  have v2 := Lib.hid (hv.below b2.out)
  clear p1 b1 hb2 hg hu hv
  have z8 : (Tryd.prog.info? 26).map (·.size) = some (bys r).size := by rw [bys_size, hrl.out]; exact sz26
  replace z8 := Lib.hid z8
  have ho8 : Hid ((bys (zb 32)).size = (bys r).size) := by show _ = _; rw [bys_size, bys_size, hrl.out]; rfl
  have ln := Lib.hid ((Blk.new w2 26 (bys (zb 32))).setRow (bys r))
  have b3 := Lib.hid (below_setRow (g := w2.heap.size) ((Below.refl w2.heap.size w2).alloc (Nat.le_refl _) (.cells (bys (zb 32)) 26)) (Nat.le_refl _) (bys r))
  obtain ⟨w3, hw3⟩ : ∃ x, x = (w2.alloc (.cells (bys (zb 32)) 26)).setRow w2.heap.size (bys r) := ⟨_, rfl⟩
  rw [← hw3] at ln b3
  have g3 := Lib.hid (g2.out.below b3.out g2.out.lt)
  have u3 := Lib.hid (u2.out.below b3.out)
  have v3 := Lib.hid (v2.out.below b3.out)
  replace b2 := Lib.hid (below_all b2.out b3.out)
  replace hw3 := Lib.hid hw3
  clear g2 u2 v2 b3
  obtain ⟨b7, hb7⟩ : ∃ b, b = w2.heap.size := ⟨_, rfl⟩
  go_wp2_with (refine wpList_store_row rfl 26 _ _ rfl _ _ rfl rfl 26 _ (Blk.new w2 26 (bys (zb 32))) z8.out ho8.out (bys_one _) ?_; change wpList _ _ _ _ _ ((w2.alloc (.cells (bys (zb 32)) 26)).setRow w2.heap.size (bys r)); rw [← hw3.out])
  refine (copied_any _ text w3 v3.out (by omega)).mono ?_
  rintro e w4 ⟨v4, rfl, hown4, hb4⟩
  obtain ⟨a4, l4', k4, rfl⟩ := slice_any hown4.nums
  have hown4' := Lib.hid (hown4.alloc (.cells (bys [by0]) 5))
  have nb := Lib.hid (nums_lit w4 5 (0, 0) [by0] 1 rfl (by omega))
  have hb4s := hb4.size
  have hlt4 := hown4.lt
  replace hb4 := Lib.hid hb4
  clear hown4
  go_wp2_with (at_builtin; refine wpList_append_nums rfl _ _ 22 rfl .u8 w3.heap.size 5 i0 1 Tryd.underlying22 hi hz0 hz1 hz2 (.slice a4 l4' k4) _ text [by0] rfl hown4'.out rfl nb.out (by simp; omega) (by simp; omega) (by simp; omega) ?_; intro v5 w5 hown5 hgr5; obtain ⟨a6, q, k6, rfl⟩ := slice_any hown5.nums; replace hown5 := Lib.hid hown5; replace hgr5 := Lib.hid hgr5)
  have b5 := Lib.hid ((hb4.out.alloc hb4s (.cells (bys [by0]) 5)).grown hgr5.out (by simp; omega) hlt4)
  have n5 : NumsAt .u8 w5 (.slice a6 q k6) T := by rw [hT.out]; exact hown5.out.nums
  have b6 := (Below.refl w5.heap.size w5).alloc (Nat.le_refl _) (.cells (bys (zb 32)) 5)
  have b56 := Lib.hid (below_all b5.out b6)
  have n9 := Lib.hid (n5.below b6)
  have l6 := Lib.hid (below_cell b56.out ln.out)
  have g6 := Lib.hid (g3.out.below b56.out g3.out.lt)
  have u6 := Lib.hid (u3.out.below b56.out)
  have v6 := Lib.hid (v3.out.below b56.out)
  have lzz := Lib.hid (Blk.new w5 5 (bys (zb 32)))
  replace b2 := Lib.hid (below_all b2.out b56.out)
  change Code.wp _ _ _ _ (w5.alloc (.cells (bys (zb 32)) 5))
  obtain ⟨b11, hb11⟩ : ∃ b, b = w5.heap.size := ⟨_, rfl⟩
  rw [← hb7] at l6
  rw [← hb11] at lzz
  clear b6 n5 hown5 hgr5 hlt4
  generalize w5.alloc (.cells (bys (zb 32)) 5) = w6 at n9 l6 g6 u6 v6 lzz b2 b56 ⊢
  rw [← hb7, ← hb11]
  clear hb7 hb11 b5 b56 hb4 hown4' nb ln g3 u3 v3
  obtain ⟨va, ca, ca'⟩ := cut_h v6.out (c : Int) (by omega) (by omega)
  obtain ⟨vb, cb, cb'⟩ := cut_l v6.out (c : Int) (by omega) (by omega)
  rw [Int.toNat_natCast] at ca' cb'
  obtain ⟨aa, la, ka, rfl⟩ := slice_any (ca' _ v6.out)
  obtain ⟨ab, lb, kb, rfl⟩ := slice_any (cb' _ v6.out)
  replace ca' := Lib.hid ca'
  replace cb' := Lib.hid cb'
  clear hmk
  refine region_rel_lit (.step (.step (.step (.step (.step (.step (.step (.step (.step (.step (.step (.step (.step (.step (.step (.step (.step (.step (.step (.step (.step (.step (.step (.step (.step (.step (.step (.step (.step (.step (.step (.step (.step (.step (.step (.step (.step (.step (.step (.step (.step (.step (.step (.step (.step (.base _)))))))))))))))))))))))))))))))))))))))))))))) (fun i W v => match i with
    | 0 => v = .slice a0 key.length k0
    | 1 => v = .slice a1 text.length k1
    | 2 => v = .int .i64 c
    | 3 => v = .slice aa la ka
    | 4 => v = .slice a1 text.length k1
    | 5 => v = .int .i64 c
    | 6 => v = .slice ab lb kb
    | 7 => PartsAt W v [text.take c, text.drop c]
    | 8 => v = .agg (bys r)
    | 9 => v = .agg (bys r)
    | 10 => v = .bool true
    | 11 => v = .bool true
    | 12 => v = .slice a0 key.length k0
    | 13 => v = .slice a6 q k6
    | 14 => PartsAt W v [T]
    | 15 => v = .agg (bys rm)
    | 16 => v = .slice a0 key.length k0
    | 17 => v = .slice a6 q k6
    | 18 => v = .agg (bys rm)
    | 19 => v = .bool true
    | 20 => v = .bool true
    | 21 => v = .bool true
    | 22 => v = .slice a1 text.length k1
    | 23 => v = .agg (bys rz)
    | 24 => v = (.slice (some ⟨b11, 0, none⟩) 32 32)
    | 25 => v = .slice a1 text.length k1
    | 26 => v = .agg (bys rz)
    | 27 => v = .bool true
    | 28 => v = .bool true
    | 29 => v = .bool true
    | 30 => v = .slice a0 key.length k0
    | 31 => v = .slice a1 text.length k1
    | 32 => v = .agg (bys r)
    | 33 => v = .agg (bys r)
    | 34 => v = .bool true
    | 35 => v = .bool true
    | 36 => v = .bool true
    | 37 => v = .slice a1 text.length k1
    | 38 => v = .slice a6 q k6
    | 39 => v = .bool false
    | 40 => v = .bool true
    | 41 => v = .bool true
    | 42 => v = .bool true
    | 43 => v = .bool true
    | _ => v = .bool true) mixed (by kernel_rfl) (by kernel_rfl) ?_ ?_ ?_
  · rintro (_ | _ | _ | _ | _ | _ | _ | _ | _ | _ | _ | _ | _ | _ | _ | _ | _ | _ | _ | _ | _ | _ | _ | _ | _ | _ | _ | _ | _ | _ | _ | _ | _ | _ | _ | _ | _ | _ | _ | _ | _ | _ | _ | _ | i) W W' v h hb
    all_goals first | exact h | exact PartsAt.below h hb | exact NumsAt.below h hb | exact sl_below h hb | exact spec_below h hb
  · intro i oi hoi x w9 hb9 hd
    rcases i with _ | _ | _ | _ | _ | _ | _ | _ | _ | _ | _ | _ | _ | _ | _ | _ | _ | _ | _ | _ | _ | _ | _ | _ | _ | _ | _ | _ | _ | _ | _ | _ | _ | _ | _ | _ | _ | _ | _ | _ | _ | _ | _ | _ | _ | i
    · obtain rfl := Option.some.inj hoi
      simp only [fill, Act.put, List.setIfInBounds_toArray, List.set_cons_succ, List.set_cons_zero]
      go_wp2_with fail
      exact ⟨_, rfl, Below.refl _ _, rfl⟩
    · obtain rfl := Option.some.inj hoi
      simp only [fill, Act.put, List.setIfInBounds_toArray, List.set_cons_succ, List.set_cons_zero]
      go_wp2_with fail
      exact ⟨_, rfl, Below.refl _ _, rfl⟩
    · obtain rfl := Option.some.inj hoi
      simp only [fill, Act.put, List.setIfInBounds_toArray, List.set_cons_succ, List.set_cons_zero]
      go_wp2_with fail
      exact ⟨_, rfl, Below.refl _ _, rfl⟩
    · obtain rfl := Option.some.inj hoi
      have h1 : (x 1) = .slice a1 text.length k1 := hd 1 (by kernel_rfl)
      have h2 : (x 2) = .int .i64 c := hd 2 (by kernel_rfl)
      simp only [fill, Act.put, List.setIfInBounds_toArray, List.set_cons_succ, List.set_cons_zero, h1, h2]
      go_wp2_with fail
      exact ⟨_, rfl, Below.refl _ _, rfl⟩
    · obtain rfl := Option.some.inj hoi
      simp only [fill, Act.put, List.setIfInBounds_toArray, List.set_cons_succ, List.set_cons_zero]
      go_wp2_with fail
      exact ⟨_, rfl, Below.refl _ _, rfl⟩
    · obtain rfl := Option.some.inj hoi
      simp only [fill, Act.put, List.setIfInBounds_toArray, List.set_cons_succ, List.set_cons_zero]
      go_wp2_with fail
      exact ⟨_, rfl, Below.refl _ _, rfl⟩
    · obtain rfl := Option.some.inj hoi
      have h4 : (x 4) = .slice a1 text.length k1 := hd 4 (by kernel_rfl)
      have h5 : (x 5) = .int .i64 c := hd 5 (by kernel_rfl)
      simp only [fill, Act.put, List.setIfInBounds_toArray, List.set_cons_succ, List.set_cons_zero, h4, h5]
      go_wp2_with fail
      exact ⟨_, rfl, Below.refl _ _, rfl⟩
    · obtain rfl := Option.some.inj hoi
      have h3 : (x 3) = .slice aa la ka := hd 3 (by kernel_rfl)
      have h6 : (x 6) = .slice ab lb kb := hd 6 (by kernel_rfl)
      simp only [fill, Act.put, List.setIfInBounds_toArray, List.set_cons_succ, List.set_cons_zero, h3, h6]
      go_wp2_with fail
      have hp := parts_two (Blk.new w9 22 #[.slice aa la ka, .slice ab lb kb]) ((ca'.out _ (v6.out.below hb9)).alloc _) ((cb'.out _ (v6.out.below hb9)).alloc _)
      exact ⟨_, rfl, (Below.refl _ _).alloc (Nat.le_refl _) _, hp⟩
    · obtain rfl := Option.some.inj hoi
      have h0 : (x 0) = .slice a0 key.length k0 := hd 0 (by kernel_rfl)
      have h7 : PartsAt w9 (x 7) [text.take c, text.drop c] := hd 7 (by kernel_rfl)
      simp only [fill, Act.put, List.setIfInBounds_toArray, List.set_cons_succ, List.set_cons_zero, h0]
      go_wp2_with fail
      refine (mac_any _ _ key text _ w9 (g6.out.below hb9 g6.out.lt) (u6.out.below hb9) h7 hf2.out hb.out hbt.out (by omega) (by omega) (by simp)).mono ?_
      rintro e w10 ⟨rfl, hb10⟩
      go_wp2_with fail
      exact ⟨_, rfl, hb10, by rw [hr.out]⟩
    · obtain rfl := Option.some.inj hoi
      simp only [fill, Act.put, List.setIfInBounds_toArray, List.set_cons_succ, List.set_cons_zero]
      have e1 := Lib.hid (load_at (P := Tryd.prog) (below_cell hb9 l6.out) 32 5 arr26 (by rw [bys_size, hrl.out]; exact sz26))
      go_wp2_with (refine wpList_load_isG (by kernel_rfl) 26 _ rfl rfl e1.out ?_)
      exact ⟨_, rfl, Below.refl _ _, rfl⟩
    · obtain rfl := Option.some.inj hoi
      have h8 : (x 8) = .agg (bys r) := hd 8 (by kernel_rfl)
      have h9 : (x 9) = .agg (bys r) := hd 9 (by kernel_rfl)
      simp only [fill, Act.put, List.setIfInBounds_toArray, List.set_cons_succ, List.set_cons_zero, h8, h9]
      have e1 := equal_self arr26 r hrl.out w9
      go_wp2_with fail
      exact ⟨_, rfl, Below.refl _ _, rfl⟩
    · obtain rfl := Option.some.inj hoi
      have h10 : (x 10) = .bool true := hd 10 (by kernel_rfl)
      simp only [fill, Act.put, List.setIfInBounds_toArray, List.set_cons_succ, List.set_cons_zero, h10]
      go_wp2_with fail
      exact ⟨_, rfl, Below.refl _ _, rfl⟩
    · obtain rfl := Option.some.inj hoi
      have h11 : (x 11) = .bool true := hd 11 (by kernel_rfl)
      simp only [fill, Act.put, List.setIfInBounds_toArray, List.set_cons_succ, List.set_cons_zero, h11]
      go_wp2_with fail
      exact ⟨_, rfl, Below.refl _ _, rfl⟩
    · obtain rfl := Option.some.inj hoi
      have h11 : (x 11) = .bool true := hd 11 (by kernel_rfl)
      simp only [fill, Act.put, List.setIfInBounds_toArray, List.set_cons_succ, List.set_cons_zero, h11]
      go_wp2_with fail
      exact ⟨_, rfl, Below.refl _ _, rfl⟩
    · obtain rfl := Option.some.inj hoi
      have h11 : (x 11) = .bool true := hd 11 (by kernel_rfl)
      have h13 : (x 13) = .slice a6 q k6 := hd 13 (by kernel_rfl)
      simp only [fill, Act.put, List.setIfInBounds_toArray, List.set_cons_succ, List.set_cons_zero, h11, h13]
      go_wp2_with fail
      have hp := parts_one (Blk.new w9 22 #[.slice a6 q k6]) ((n9.out.below hb9).alloc _)
      exact ⟨_, rfl, (Below.refl _ _).alloc (Nat.le_refl _) _, hp⟩
    · obtain rfl := Option.some.inj hoi
      have h11 : (x 11) = .bool true := hd 11 (by kernel_rfl)
      have h12 : (x 12) = .slice a0 key.length k0 := hd 12 (by kernel_rfl)
      have h14 : PartsAt w9 (x 14) [T] := hd 14 (by kernel_rfl)
      simp only [fill, Act.put, List.setIfInBounds_toArray, List.set_cons_succ, List.set_cons_zero, h11, h12]
      go_wp2_with fail
      refine (mac_any _ _ key T _ w9 (g6.out.below hb9 g6.out.lt) (u6.out.below hb9) h14 hf3.out hb.out hbT.out (by omega) (by rw [hTl.out]; omega) (by simp)).mono ?_
      rintro e w10 ⟨rfl, hb10⟩
      go_wp2_with fail
      exact ⟨_, rfl, hb10, by rw [hrm.out]⟩
    · obtain rfl := Option.some.inj hoi
      have h11 : (x 11) = .bool true := hd 11 (by kernel_rfl)
      simp only [fill, Act.put, List.setIfInBounds_toArray, List.set_cons_succ, List.set_cons_zero, h11]
      go_wp2_with fail
      exact ⟨_, rfl, Below.refl _ _, rfl⟩
    · obtain rfl := Option.some.inj hoi
      have h11 : (x 11) = .bool true := hd 11 (by kernel_rfl)
      simp only [fill, Act.put, List.setIfInBounds_toArray, List.set_cons_succ, List.set_cons_zero, h11]
      go_wp2_with fail
      exact ⟨_, rfl, Below.refl _ _, rfl⟩
    · obtain rfl := Option.some.inj hoi
      have h11 : (x 11) = .bool true := hd 11 (by kernel_rfl)
      have h16 : (x 16) = .slice a0 key.length k0 := hd 16 (by kernel_rfl)
      have h17 : (x 17) = .slice a6 q k6 := hd 17 (by kernel_rfl)
      simp only [fill, Act.put, List.setIfInBounds_toArray, List.set_cons_succ, List.set_cons_zero, h11, h16, h17]
      go_wp2_with fail
      refine (rmac_any _ _ key T w9 (u6.out.below hb9) (n9.out.below hb9) hb.out hbT.out (by omega) (by rw [hTl.out]; omega)).mono ?_
      rintro e w10 ⟨rfl, hb10⟩
      go_wp2_with fail
      exact ⟨_, rfl, hb10, by rw [hrm.out]⟩
    · obtain rfl := Option.some.inj hoi
      have h11 : (x 11) = .bool true := hd 11 (by kernel_rfl)
      have h15 : (x 15) = .agg (bys rm) := hd 15 (by kernel_rfl)
      have h18 : (x 18) = .agg (bys rm) := hd 18 (by kernel_rfl)
      simp only [fill, Act.put, List.setIfInBounds_toArray, List.set_cons_succ, List.set_cons_zero, h11, h15, h18]
      have e1 := equal_self arr26 rm hrml.out w9
      go_wp2_with fail
      exact ⟨_, rfl, Below.refl _ _, rfl⟩
    · obtain rfl := Option.some.inj hoi
      have h11 : (x 11) = .bool true := hd 11 (by kernel_rfl)
      have h19 : (x 19) = .bool true := hd 19 (by kernel_rfl)
      simp only [fill, Act.put, List.setIfInBounds_toArray, List.set_cons_succ, List.set_cons_zero, h11, h19]
      go_wp2_with fail
      exact ⟨_, rfl, Below.refl _ _, rfl⟩
    · obtain rfl := Option.some.inj hoi
      have h20 : (x 20) = .bool true := hd 20 (by kernel_rfl)
      simp only [fill, Act.put, List.setIfInBounds_toArray, List.set_cons_succ, List.set_cons_zero, h20]
      go_wp2_with fail
      exact ⟨_, rfl, Below.refl _ _, rfl⟩
    · obtain rfl := Option.some.inj hoi
      have h21 : (x 21) = .bool true := hd 21 (by kernel_rfl)
      simp only [fill, Act.put, List.setIfInBounds_toArray, List.set_cons_succ, List.set_cons_zero, h21]
      go_wp2_with fail
      exact ⟨_, rfl, Below.refl _ _, rfl⟩
    · obtain rfl := Option.some.inj hoi
      have h21 : (x 21) = .bool true := hd 21 (by kernel_rfl)
      have h22 : (x 22) = .slice a1 text.length k1 := hd 22 (by kernel_rfl)
      simp only [fill, Act.put, List.setIfInBounds_toArray, List.set_cons_succ, List.set_cons_zero, h21, h22]
      go_wp2_with fail
      refine (extract_any _ _ [] text w9 (g6.out.below hb9 g6.out.lt) (nums_nil _ _) (v6.out.below hb9) byt_nil hbt.out (by simp) (by omega)).mono ?_
      rintro e w10 ⟨rfl, hb10⟩
      go_wp2_with fail
      exact ⟨_, rfl, hb10, by rw [hrz.out]⟩
    · obtain rfl := Option.some.inj hoi
      have h21 : (x 21) = .bool true := hd 21 (by kernel_rfl)
      simp only [fill, Act.put, List.setIfInBounds_toArray, List.set_cons_succ, List.set_cons_zero, h21]
      go_wp2_with fail
      exact ⟨_, rfl, Below.refl _ _, rfl⟩
    · obtain rfl := Option.some.inj hoi
      have h21 : (x 21) = .bool true := hd 21 (by kernel_rfl)
      simp only [fill, Act.put, List.setIfInBounds_toArray, List.set_cons_succ, List.set_cons_zero, h21]
      go_wp2_with fail
      exact ⟨_, rfl, Below.refl _ _, rfl⟩
    · obtain rfl := Option.some.inj hoi
      have h21 : (x 21) = .bool true := hd 21 (by kernel_rfl)
      have h24 : (x 24) = (.slice (some ⟨b11, 0, none⟩) 32 32) := hd 24 (by kernel_rfl)
      have h25 : (x 25) = .slice a1 text.length k1 := hd 25 (by kernel_rfl)
      simp only [fill, Act.put, List.setIfInBounds_toArray, List.set_cons_succ, List.set_cons_zero, h21, h24, h25]
      go_wp2_with fail
      refine (extract_any _ _ (zb 32) text w9 (g6.out.below hb9 g6.out.lt) ((below_cell hb9 lzz.out).nums 32 rfl (by omega)) (v6.out.below hb9) hbz.out hbt.out (by simp [zb]) (by omega)).mono ?_
      rintro e w10 ⟨rfl, hb10⟩
      go_wp2_with fail
      exact ⟨_, rfl, hb10, by rw [hzz.out]⟩
    · obtain rfl := Option.some.inj hoi
      have h21 : (x 21) = .bool true := hd 21 (by kernel_rfl)
      have h23 : (x 23) = .agg (bys rz) := hd 23 (by kernel_rfl)
      have h26 : (x 26) = .agg (bys rz) := hd 26 (by kernel_rfl)
      simp only [fill, Act.put, List.setIfInBounds_toArray, List.set_cons_succ, List.set_cons_zero, h21, h23, h26]
      have e1 := equal_self arr26 rz hrzl.out w9
      go_wp2_with fail
      exact ⟨_, rfl, Below.refl _ _, rfl⟩
    · obtain rfl := Option.some.inj hoi
      have h21 : (x 21) = .bool true := hd 21 (by kernel_rfl)
      have h27 : (x 27) = .bool true := hd 27 (by kernel_rfl)
      simp only [fill, Act.put, List.setIfInBounds_toArray, List.set_cons_succ, List.set_cons_zero, h21, h27]
      go_wp2_with fail
      exact ⟨_, rfl, Below.refl _ _, rfl⟩
    · obtain rfl := Option.some.inj hoi
      have h28 : (x 28) = .bool true := hd 28 (by kernel_rfl)
      simp only [fill, Act.put, List.setIfInBounds_toArray, List.set_cons_succ, List.set_cons_zero, h28]
      go_wp2_with fail
      exact ⟨_, rfl, Below.refl _ _, rfl⟩
    · obtain rfl := Option.some.inj hoi
      have h29 : (x 29) = .bool true := hd 29 (by kernel_rfl)
      simp only [fill, Act.put, List.setIfInBounds_toArray, List.set_cons_succ, List.set_cons_zero, h29]
      go_wp2_with fail
      exact ⟨_, rfl, Below.refl _ _, rfl⟩
    · obtain rfl := Option.some.inj hoi
      have h29 : (x 29) = .bool true := hd 29 (by kernel_rfl)
      simp only [fill, Act.put, List.setIfInBounds_toArray, List.set_cons_succ, List.set_cons_zero, h29]
      go_wp2_with fail
      exact ⟨_, rfl, Below.refl _ _, rfl⟩
    · obtain rfl := Option.some.inj hoi
      have h29 : (x 29) = .bool true := hd 29 (by kernel_rfl)
      have h30 : (x 30) = .slice a0 key.length k0 := hd 30 (by kernel_rfl)
      have h31 : (x 31) = .slice a1 text.length k1 := hd 31 (by kernel_rfl)
      simp only [fill, Act.put, List.setIfInBounds_toArray, List.set_cons_succ, List.set_cons_zero, h29, h30, h31]
      go_wp2_with fail
      refine (extract_any _ _ key text w9 (g6.out.below hb9 g6.out.lt) (u6.out.below hb9) (v6.out.below hb9) hb.out hbt.out (by omega) (by omega)).mono ?_
      rintro e w10 ⟨rfl, hb10⟩
      go_wp2_with fail
      exact ⟨_, rfl, hb10, by rw [hr.out]⟩
    · obtain rfl := Option.some.inj hoi
      have h29 : (x 29) = .bool true := hd 29 (by kernel_rfl)
      simp only [fill, Act.put, List.setIfInBounds_toArray, List.set_cons_succ, List.set_cons_zero, h29]
      have e1 := Lib.hid (load_at (P := Tryd.prog) (below_cell hb9 l6.out) 32 5 arr26 (by rw [bys_size, hrl.out]; exact sz26))
      go_wp2_with (refine wpList_load_isG (by kernel_rfl) 26 _ rfl rfl e1.out ?_)
      exact ⟨_, rfl, Below.refl _ _, rfl⟩
    · obtain rfl := Option.some.inj hoi
      have h29 : (x 29) = .bool true := hd 29 (by kernel_rfl)
      have h32 : (x 32) = .agg (bys r) := hd 32 (by kernel_rfl)
      have h33 : (x 33) = .agg (bys r) := hd 33 (by kernel_rfl)
      simp only [fill, Act.put, List.setIfInBounds_toArray, List.set_cons_succ, List.set_cons_zero, h29, h32, h33]
      have e1 := equal_self arr26 r hrl.out w9
      go_wp2_with fail
      exact ⟨_, rfl, Below.refl _ _, rfl⟩
    · obtain rfl := Option.some.inj hoi
      have h29 : (x 29) = .bool true := hd 29 (by kernel_rfl)
      have h34 : (x 34) = .bool true := hd 34 (by kernel_rfl)
      simp only [fill, Act.put, List.setIfInBounds_toArray, List.set_cons_succ, List.set_cons_zero, h29, h34]
      go_wp2_with fail
      exact ⟨_, rfl, Below.refl _ _, rfl⟩
    · obtain rfl := Option.some.inj hoi
      have h35 : (x 35) = .bool true := hd 35 (by kernel_rfl)
      simp only [fill, Act.put, List.setIfInBounds_toArray, List.set_cons_succ, List.set_cons_zero, h35]
      go_wp2_with fail
      exact ⟨_, rfl, Below.refl _ _, rfl⟩
    · obtain rfl := Option.some.inj hoi
      have h36 : (x 36) = .bool true := hd 36 (by kernel_rfl)
      simp only [fill, Act.put, List.setIfInBounds_toArray, List.set_cons_succ, List.set_cons_zero, h36]
      go_wp2_with fail
      exact ⟨_, rfl, Below.refl _ _, rfl⟩
    · obtain rfl := Option.some.inj hoi
      have h36 : (x 36) = .bool true := hd 36 (by kernel_rfl)
      simp only [fill, Act.put, List.setIfInBounds_toArray, List.set_cons_succ, List.set_cons_zero, h36]
      go_wp2_with fail
      exact ⟨_, rfl, Below.refl _ _, rfl⟩
    · obtain rfl := Option.some.inj hoi
      have h36 : (x 36) = .bool true := hd 36 (by kernel_rfl)
      have h37 : (x 37) = .slice a1 text.length k1 := hd 37 (by kernel_rfl)
      have h38 : (x 38) = .slice a6 q k6 := hd 38 (by kernel_rfl)
      simp only [fill, Act.put, List.setIfInBounds_toArray, List.set_cons_succ, List.set_cons_zero, h36, h37, h38]
      go_wp2_with fail
      refine (equal_any _ _ text T w9 (v6.out.below hb9) (n9.out.below hb9) hbt.out hbT.out).mono ?_
      rintro e w10 ⟨rfl, hb10⟩
      go_wp2_with fail
      exact ⟨_, rfl, hb10, by rw [hne.out]⟩
    · obtain rfl := Option.some.inj hoi
      have h36 : (x 36) = .bool true := hd 36 (by kernel_rfl)
      have h39 : (x 39) = .bool false := hd 39 (by kernel_rfl)
      simp only [fill, Act.put, List.setIfInBounds_toArray, List.set_cons_succ, List.set_cons_zero, h36, h39]
      go_wp2_with fail
      exact ⟨_, rfl, Below.refl _ _, rfl⟩
    · obtain rfl := Option.some.inj hoi
      have h36 : (x 36) = .bool true := hd 36 (by kernel_rfl)
      have h40 : (x 40) = .bool true := hd 40 (by kernel_rfl)
      simp only [fill, Act.put, List.setIfInBounds_toArray, List.set_cons_succ, List.set_cons_zero, h36, h40]
      go_wp2_with fail
      exact ⟨_, rfl, Below.refl _ _, rfl⟩
    · obtain rfl := Option.some.inj hoi
      have h41 : (x 41) = .bool true := hd 41 (by kernel_rfl)
      simp only [fill, Act.put, List.setIfInBounds_toArray, List.set_cons_succ, List.set_cons_zero, h41]
      go_wp2_with fail
      exact ⟨_, rfl, Below.refl _ _, rfl⟩
    · obtain rfl := Option.some.inj hoi
      have h42 : (x 42) = .bool true := hd 42 (by kernel_rfl)
      simp only [fill, Act.put, List.setIfInBounds_toArray, List.set_cons_succ, List.set_cons_zero, h42]
      go_wp2_with fail
      refine (awake3_any w9 (g6.out.below hb9 g6.out.lt)).mono ?_
      rintro e w10 ⟨rfl, hb10⟩
      go_wp2_with fail
      exact ⟨_, rfl, hb10, rfl⟩
    · obtain rfl := Option.some.inj hoi
      have h42 : (x 42) = .bool true := hd 42 (by kernel_rfl)
      have h43 : (x 43) = .bool true := hd 43 (by kernel_rfl)
      simp only [fill, Act.put, List.setIfInBounds_toArray, List.set_cons_succ, List.set_cons_zero, h42, h43]
      go_wp2_with fail
      exact ⟨_, rfl, Below.refl _ _, rfl⟩
    · cases hoi
  · intro x w9 hb9 hd
    have h44 : (x 44) = .bool true := hd 44 (by decide)
    simp only [fill, Act.put, List.setIfInBounds_toArray, List.set_cons_succ, List.set_cons_zero, h44]
    go_wp2_with fail
    go_ret
    exact ⟨rfl, below_all b2.out hb9⟩
end Go.Proofs.YtikmfaeiecpncaaDoor
