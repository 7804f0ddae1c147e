/- Keys of more than a block, keys with zeros behind them: the statement's walk. -/
import Derived.Test.YtikmfaeiecpncaaDoorHF
import Derived.Test.YtikmfaeiecpncaaDoorHZ
namespace Go.Proofs.YtikmfaeiecpncaaDoor
open Go.RowKit

theorem mac_sha (key text : List Int) (h : 64 < key.length) : mac (sha key) text = mac key text := by
  have e : kk (sha key) = kk key := by rw [kk, kk, if_pos h, if_neg (by rw [sha_len]; omega)]
  simp only [mac, maskB, e]
theorem mac_zeros (key text : List Int) (r : Nat) (h : key.length + r ≤ 64) : mac (key ++ List.replicate r 0) text = mac key text := by
  have e : padTo 64 (kk (key ++ List.replicate r 0)) = padTo 64 (kk key) := by
    rw [kk, kk, if_neg (by simp; omega), if_neg (by omega), padTo, padTo, List.take_of_length_le (by simp; omega), List.take_of_length_le (by omega), List.append_assoc, List.length_append, List.length_replicate, List.replicate_append_replicate]
    congr 2; omega
  simp only [mac, maskB, e]
theorem slice_len {k : IntKind} {w : World} {a : Option Addr} {n c : Nat} {xs : List Int} (h : NumsAt k w (.slice a n c) xs) : n = xs.length := by
  obtain ⟨a', cap, hv, _⟩ := h
  simp only [Value.slice.injEq] at hv
  exact hv.2.1
theorem below_cell {w w' : World} (h : Below w.heap.size w w') {b : Nat} {ty : TypeId} {cs : Array Value} (l : Blk w b ty cs) : Blk w' b ty cs := l.below h l.lt
set_option maxHeartbeats 3200000 in
set_option maxRecDepth 100000 in
theorem hkeys_any (u v : Value) (key text : List Int) (z0 : Int) (w : World) (hg : Gl w) (hu : NumsAt .u8 w u key) (hv : NumsAt .u8 w v text) (hb : Byt key) (hbt : Byt text) :
    Calls Tryd.prog 11 #[u, v, .int .i64 z0] w fun e w' => e = .returned (.bool true) ∧ Below w.heap.size w w' := by
  obtain ⟨i0, hi, hz0, hz1, hz2⟩ := info_parts info5
  obtain ⟨a0, k0, rfl, _⟩ := slice_form hu
  obtain ⟨a1, k1, rfl, _⟩ := slice_form hv
  by_cases hbig : 200 < key.length
  · have q1 : decide ((200 : Int) < key.length) = true := by simp; omega
    go_enter Tryd.func11, Tryd.ntmps11
    go_wp2_with fail
    refine (awake3_any w hg).mono ?_
    rintro e w1 ⟨rfl, hb1⟩
    go_wp2_with fail
    go_ret
    exact ⟨rfl, hb1⟩
  have q1 : decide ((200 : Int) < key.length) = false := by simp; omega
  by_cases hbig2 : 200 < text.length
  · have q2 : decide ((200 : Int) < text.length) = true := by simp; omega
    clear hbig
    go_enter Tryd.func11, Tryd.ntmps11
    go_wp2_with fail
    refine (awake3_any w hg).mono ?_
    rintro e w1 ⟨rfl, hb1⟩
    go_wp2_with fail
    go_ret
    exact ⟨rfl, hb1⟩
  have q2 : decide ((200 : Int) < text.length) = false := by simp; omega
  have hkl : key.length ≤ 200 := by omega
  have htl : text.length ≤ 200 := by omega
  clear hbig hbig2
  obtain ⟨r, hr⟩ := name_it (mac key text)
  have hrl : Hid (r.length = 32) := by show _ = _; rw [hr.out]; exact mac_len _ _
  have hc26 := fun (b : Nat) (w : World) => slice_all arr26 arr26' el26 b 0 w
  have hm26 := guard26
  replace hb := Lib.hid hb
  replace hbt := Lib.hid hbt
  have hf1 : Hid (([text] : List (List Int)).flatten = text) := by show _ = _; simp
  by_cases h64 : 64 < key.length
  · have q3 : decide ((64 : Int) < key.length) = true := by simp; omega
    have hms := Lib.hid (mac_sha key text h64)
    clear h64
    go_enter Tryd.func11, Tryd.ntmps11
    go_wp2_with fail
    have p1 := parts_one (Blk.new w 22 #[.slice a1 text.length k1]) (hv.alloc _)
    have b1 := (Below.refl w.heap.size w).alloc (Nat.le_refl _) (.cells #[.slice a1 text.length k1] 22)
    refine (mac_any _ _ key text _ _ (hg.below b1 hg.lt) (hu.alloc _) p1 hf1.out hb.out hbt.out (by omega) (by omega) (by simp)).mono ?_
    rintro e w2 ⟨rfl, hb2⟩
    rw [← hr.out]
    have b2 := Lib.hid (below_all b1 hb2)
    have g2 := Lib.hid (hg.below b2.out hg.lt)
    have u2 := Lib.hid (hu.below b2.out)
    have v2 := Lib.hid (hv.below b2.out)
    clear p1 b1 hb2 hg hu hv
    have z8 : (Tryd.prog.info? 26).map (·.size) = some (bys r).size := by rw [bys_size, hrl.out]; exact sz26
    replace z8 := Lib.hid z8
    have ho8 : Hid ((bys (zb 32)).size = (bys r).size) := by show _ = _; rw [bys_size, bys_size, hrl.out]; rfl
    have ln := Lib.hid ((Blk.new w2 26 (bys (zb 32))).setRow (bys r))
    have b3 := Lib.hid (below_setRow (g := w2.heap.size) ((Below.refl w2.heap.size w2).alloc (Nat.le_refl _) (.cells (bys (zb 32)) 26)) (Nat.le_refl _) (bys r))
    obtain ⟨w3, hw3⟩ : ∃ x, x = (w2.alloc (.cells (bys (zb 32)) 26)).setRow w2.heap.size (bys r) := ⟨_, rfl⟩
    rw [← hw3] at ln b3
    have g3 := Lib.hid (g2.out.below b3.out g2.out.lt)
    have u3 := Lib.hid (u2.out.below b3.out)
    have v3 := Lib.hid (v2.out.below b3.out)
    replace b2 := Lib.hid (below_all b2.out b3.out)
    replace hw3 := Lib.hid hw3
    clear g2 u2 v2 b3
    obtain ⟨b7, hb7⟩ : ∃ b, b = w2.heap.size := ⟨_, rfl⟩
    go_wp2_with (refine wpList_store_row rfl 26 _ _ rfl _ _ rfl rfl 26 _ (Blk.new w2 26 (bys (zb 32))) z8.out ho8.out (bys_one _) ?_; change wpList _ _ _ _ _ ((w2.alloc (.cells (bys (zb 32)) 26)).setRow w2.heap.size (bys r)); rw [← hw3.out])
    obtain ⟨z, hz⟩ := name_it (sha key)
    have hzl : Hid (z.length = 32) := by show _ = _; rw [hz.out]; exact sha_len _
    have p4 := parts_one (Blk.new w3 22 #[.slice a0 key.length k0]) (u3.out.alloc _)
    have b4 := (Below.refl w3.heap.size w3).alloc (Nat.le_refl _) (.cells #[.slice a0 key.length k0] 22)
    refine (sum_any _ _ key _ (by simp) p4 hb.out (by omega) (g3.out.below b4 g3.out.lt)).mono ?_
    rintro e w5 ⟨rfl, hb5⟩
    rw [← hz.out]
    have b5 := Lib.hid (below_all b4 hb5)
    have l5 := Lib.hid (below_cell b5.out ln.out)
    have g5 := Lib.hid (g3.out.below b5.out g3.out.lt)
    have u5 := Lib.hid (u3.out.below b5.out)
    have v5 := Lib.hid (v3.out.below b5.out)
    replace b5 := Lib.hid (below_all b2.out b5.out)
    clear p4 b4 hb5 ln g3 u3 v3 b2
    have y8 : (Tryd.prog.info? 26).map (·.size) = some (bys z).size := by rw [bys_size, hzl.out]; exact sz26
    replace y8 := Lib.hid y8
    have hy8 : Hid ((bys (zb 32)).size = (bys z).size) := by show _ = _; rw [bys_size, bys_size, hzl.out]; rfl
    have lz := Lib.hid ((Blk.new w5 26 (bys (zb 32))).setRow (bys z))
    have b6 := Lib.hid (below_setRow (g := w5.heap.size) ((Below.refl w5.heap.size w5).alloc (Nat.le_refl _) (.cells (bys (zb 32)) 26)) (Nat.le_refl _) (bys z))
    obtain ⟨w6, hw6⟩ : ∃ x, x = (w5.alloc (.cells (bys (zb 32)) 26)).setRow w5.heap.size (bys z) := ⟨_, rfl⟩
    rw [← hw6] at lz b6
    have l6 := Lib.hid (below_cell b6.out l5.out)
    have g6 := Lib.hid (g5.out.below b6.out g5.out.lt)
    have u6 := Lib.hid (u5.out.below b6.out)
    have v6 := Lib.hid (v5.out.below b6.out)
    replace b6 := Lib.hid (below_all b5.out b6.out)
    replace hw6 := Lib.hid hw6
    clear l5 g5 u5 v5 b5
    rw [← hb7] at l6
    go_wp2_with (refine wpList_store_row rfl 26 _ _ rfl _ _ rfl rfl 26 _ (Blk.new w5 26 (bys (zb 32))) y8.out hy8.out (bys_one _) ?_; change wpList _ _ _ _ _ ((w5.alloc (.cells (bys (zb 32)) 26)).setRow w5.heap.size (bys z)); rw [← hw6.out])
    obtain ⟨b8, hb8⟩ : ∃ b, b = w5.heap.size := ⟨_, rfl⟩
    rw [← hb8] at lz ⊢
    rw [← hb7]
    clear hb8 hb7
    refine region_rel_lit (.step (.step (.step (.step (.step (.step (.step (.step (.step (.step (.step (.step (.step (.step (.step (.step (.base _))))))))))))))))) (fun i W v => match i with
      | 0 => v = (.slice (some ⟨b8, 0, none⟩) 32 32)
      | 1 => v = .slice a1 text.length k1
      | 2 => PartsAt W v [text]
      | 3 => v = .agg (bys r)
      | 4 => v = .agg (bys r)
      | 5 => v = .bool true
      | 6 => v = .bool true
      | 7 => v = .slice a0 key.length k0
      | 8 => v = .slice a1 text.length k1
      | 9 => v = .agg (bys r)
      | 10 => v = .agg (bys r)
      | 11 => v = .bool true
      | 12 => v = .bool true
      | 13 => v = .bool true
      | 14 => v = .bool true
      | _ => v = .bool true) mixed (by kernel_rfl) (by kernel_rfl) ?_ ?_ ?_
    · rintro (_ | _ | _ | _ | _ | _ | _ | _ | _ | _ | _ | _ | _ | _ | _ | i) W W' v h hb
      all_goals first | exact h | exact PartsAt.below h hb | exact NumsAt.below h hb | exact sl_below h hb | exact spec_below h hb
    · intro i oi hoi x w9 hb9 hd
      rcases i with _ | _ | _ | _ | _ | _ | _ | _ | _ | _ | _ | _ | _ | _ | _ | _ | i
      · obtain rfl := Option.some.inj hoi
        simp only [fill, Act.put, List.setIfInBounds_toArray, List.set_cons_succ, List.set_cons_zero]
        go_wp2_with fail
        exact ⟨_, rfl, Below.refl _ _, rfl⟩
      · obtain rfl := Option.some.inj hoi
        simp only [fill, Act.put, List.setIfInBounds_toArray, List.set_cons_succ, List.set_cons_zero]
        go_wp2_with fail
        exact ⟨_, rfl, Below.refl _ _, rfl⟩
      · obtain rfl := Option.some.inj hoi
        have h1 : (x 1) = .slice a1 text.length k1 := hd 1 (by kernel_rfl)
        simp only [fill, Act.put, List.setIfInBounds_toArray, List.set_cons_succ, List.set_cons_zero, h1]
        go_wp2_with fail
        have hp := parts_one (Blk.new w9 22 #[.slice a1 text.length k1]) ((v6.out.below hb9).alloc _)
        exact ⟨_, rfl, (Below.refl _ _).alloc (Nat.le_refl _) _, hp⟩
      · obtain rfl := Option.some.inj hoi
        have h0 : (x 0) = (.slice (some ⟨b8, 0, none⟩) 32 32) := hd 0 (by kernel_rfl)
        have h2 : PartsAt w9 (x 2) [text] := hd 2 (by kernel_rfl)
        simp only [fill, Act.put, List.setIfInBounds_toArray, List.set_cons_succ, List.set_cons_zero, h0]
        go_wp2_with fail
        refine (mac_any _ _ z text _ w9 (g6.out.below hb9 g6.out.lt) ((below_cell hb9 lz.out).nums 32 hzl.out (by omega)) h2 hf1.out (by rw [hz.out]; exact byt_sha _) hbt.out (by rw [hzl.out]; omega) (by omega) (by simp)).mono ?_
        rintro e w10 ⟨rfl, hb10⟩
        go_wp2_with fail
        exact ⟨_, rfl, hb10, by rw [hr.out, hz.out, hms.out]⟩
      · obtain rfl := Option.some.inj hoi
        simp only [fill, Act.put, List.setIfInBounds_toArray, List.set_cons_succ, List.set_cons_zero]
        have e1 := Lib.hid (load_at (P := Tryd.prog) (below_cell hb9 l6.out) 32 5 arr26 (by rw [bys_size, hrl.out]; exact sz26))
        go_wp2_with (refine wpList_load_isG (by kernel_rfl) 26 _ rfl rfl e1.out ?_)
        exact ⟨_, rfl, Below.refl _ _, rfl⟩
      · obtain rfl := Option.some.inj hoi
        have h3 : (x 3) = .agg (bys r) := hd 3 (by kernel_rfl)
        have h4 : (x 4) = .agg (bys r) := hd 4 (by kernel_rfl)
        simp only [fill, Act.put, List.setIfInBounds_toArray, List.set_cons_succ, List.set_cons_zero, h3, h4]
        have e1 := equal_self arr26 r hrl.out w9
        go_wp2_with fail
        exact ⟨_, rfl, Below.refl _ _, rfl⟩
      · obtain rfl := Option.some.inj hoi
        have h5 : (x 5) = .bool true := hd 5 (by kernel_rfl)
        simp only [fill, Act.put, List.setIfInBounds_toArray, List.set_cons_succ, List.set_cons_zero, h5]
        go_wp2_with fail
        exact ⟨_, rfl, Below.refl _ _, rfl⟩
      · obtain rfl := Option.some.inj hoi
        have h6 : (x 6) = .bool true := hd 6 (by kernel_rfl)
        simp only [fill, Act.put, List.setIfInBounds_toArray, List.set_cons_succ, List.set_cons_zero, h6]
        go_wp2_with fail
        exact ⟨_, rfl, Below.refl _ _, rfl⟩
      · obtain rfl := Option.some.inj hoi
        have h6 : (x 6) = .bool true := hd 6 (by kernel_rfl)
        simp only [fill, Act.put, List.setIfInBounds_toArray, List.set_cons_succ, List.set_cons_zero, h6]
        go_wp2_with fail
        exact ⟨_, rfl, Below.refl _ _, rfl⟩
      · obtain rfl := Option.some.inj hoi
        have h6 : (x 6) = .bool true := hd 6 (by kernel_rfl)
        have h7 : (x 7) = .slice a0 key.length k0 := hd 7 (by kernel_rfl)
        have h8 : (x 8) = .slice a1 text.length k1 := hd 8 (by kernel_rfl)
        simp only [fill, Act.put, List.setIfInBounds_toArray, List.set_cons_succ, List.set_cons_zero, h6, h7, h8]
        go_wp2_with fail
        refine (extract_any _ _ key text w9 (g6.out.below hb9 g6.out.lt) (u6.out.below hb9) (v6.out.below hb9) hb.out hbt.out (by omega) (by omega)).mono ?_
        rintro e w10 ⟨rfl, hb10⟩
        go_wp2_with fail
        exact ⟨_, rfl, hb10, by rw [hr.out]⟩
      · obtain rfl := Option.some.inj hoi
        have h6 : (x 6) = .bool true := hd 6 (by kernel_rfl)
        simp only [fill, Act.put, List.setIfInBounds_toArray, List.set_cons_succ, List.set_cons_zero, h6]
        have e1 := Lib.hid (load_at (P := Tryd.prog) (below_cell hb9 l6.out) 32 5 arr26 (by rw [bys_size, hrl.out]; exact sz26))
        go_wp2_with (refine wpList_load_isG (by kernel_rfl) 26 _ rfl rfl e1.out ?_)
        exact ⟨_, rfl, Below.refl _ _, rfl⟩
      · obtain rfl := Option.some.inj hoi
        have h6 : (x 6) = .bool true := hd 6 (by kernel_rfl)
        have h9 : (x 9) = .agg (bys r) := hd 9 (by kernel_rfl)
        have h10 : (x 10) = .agg (bys r) := hd 10 (by kernel_rfl)
        simp only [fill, Act.put, List.setIfInBounds_toArray, List.set_cons_succ, List.set_cons_zero, h6, h9, h10]
        have e1 := equal_self arr26 r hrl.out w9
        go_wp2_with fail
        exact ⟨_, rfl, Below.refl _ _, rfl⟩
      · obtain rfl := Option.some.inj hoi
        have h6 : (x 6) = .bool true := hd 6 (by kernel_rfl)
        have h11 : (x 11) = .bool true := hd 11 (by kernel_rfl)
        simp only [fill, Act.put, List.setIfInBounds_toArray, List.set_cons_succ, List.set_cons_zero, h6, h11]
        go_wp2_with fail
        exact ⟨_, rfl, Below.refl _ _, rfl⟩
      · obtain rfl := Option.some.inj hoi
        have h12 : (x 12) = .bool true := hd 12 (by kernel_rfl)
        simp only [fill, Act.put, List.setIfInBounds_toArray, List.set_cons_succ, List.set_cons_zero, h12]
        go_wp2_with fail
        exact ⟨_, rfl, Below.refl _ _, rfl⟩
      · obtain rfl := Option.some.inj hoi
        have h13 : (x 13) = .bool true := hd 13 (by kernel_rfl)
        simp only [fill, Act.put, List.setIfInBounds_toArray, List.set_cons_succ, List.set_cons_zero, h13]
        go_wp2_with fail
        refine (awake3_any w9 (g6.out.below hb9 g6.out.lt)).mono ?_
        rintro e w10 ⟨rfl, hb10⟩
        go_wp2_with fail
        exact ⟨_, rfl, hb10, rfl⟩
      · obtain rfl := Option.some.inj hoi
        have h13 : (x 13) = .bool true := hd 13 (by kernel_rfl)
        have h14 : (x 14) = .bool true := hd 14 (by kernel_rfl)
        simp only [fill, Act.put, List.setIfInBounds_toArray, List.set_cons_succ, List.set_cons_zero, h13, h14]
        go_wp2_with fail
        exact ⟨_, rfl, Below.refl _ _, rfl⟩
      · cases hoi
    · intro x w9 hb9 hd
      have h15 : (x 15) = .bool true := hd 15 (by decide)
      simp only [fill, Act.put, List.setIfInBounds_toArray, List.set_cons_succ, List.set_cons_zero, h15]
      go_wp2_with fail
      go_ret
      exact ⟨rfl, below_all b6.out hb9⟩
  · have q3 : decide ((64 : Int) < key.length) = false := by simp; omega
    have h64' : key.length ≤ 64 := by omega
    have h64I : (key.length : Int) ≤ 64 := by omega
    obtain ⟨rI, hrr, hrr0, hrr1⟩ := low_name z0 (65 - (key.length : Int)) (by omega)
    obtain ⟨rn, rfl⟩ := Int.eq_ofNat_of_zero_le hrr0
    have hrn : key.length + rn ≤ 64 := by omega
    have hms := Lib.hid (mac_zeros key text rn hrn)
    have hbl := Lib.hid (byt_app hb.out (byt_of (xs := List.replicate rn 0) (fun n hn => by simp at hn; omega)))
    replace hrr1 := Lib.hid hrr1
    clear h64
    go_enter Tryd.func11, Tryd.ntmps11
    go_wp2_with fail
    have p1 := parts_one (Blk.new w 22 #[.slice a1 text.length k1]) (hv.alloc _)
    have b1 := (Below.refl w.heap.size w).alloc (Nat.le_refl _) (.cells #[.slice a1 text.length k1] 22)
    refine (mac_any _ _ key text _ _ (hg.below b1 hg.lt) (hu.alloc _) p1 hf1.out hb.out hbt.out (by omega) (by omega) (by simp)).mono ?_
    rintro e w2 ⟨rfl, hb2⟩
    rw [← hr.out]
    have b2 := Lib.hid (below_all b1 hb2)
    have g2 := Lib.hid (hg.below b2.out hg.lt)
    have u2 := Lib.hid (hu.below b2.out)
    have v2 := Lib.hid (hv.below b2.out)
    clear p1 b1 hb2 hg hu hv
    have z8 : (Tryd.prog.info? 26).map (·.size) = some (bys r).size := by rw [bys_size, hrl.out]; exact sz26
    replace z8 := Lib.hid z8
    have ho8 : Hid ((bys (zb 32)).size = (bys r).size) := by show _ = _; rw [bys_size, bys_size, hrl.out]; rfl
    have ln := Lib.hid ((Blk.new w2 26 (bys (zb 32))).setRow (bys r))
    have b3 := Lib.hid (below_setRow (g := w2.heap.size) ((Below.refl w2.heap.size w2).alloc (Nat.le_refl _) (.cells (bys (zb 32)) 26)) (Nat.le_refl _) (bys r))
    obtain ⟨w3, hw3⟩ : ∃ x, x = (w2.alloc (.cells (bys (zb 32)) 26)).setRow w2.heap.size (bys r) := ⟨_, rfl⟩
    rw [← hw3] at ln b3
    have g3 := Lib.hid (g2.out.below b3.out g2.out.lt)
    have u3 := Lib.hid (u2.out.below b3.out)
    have v3 := Lib.hid (v2.out.below b3.out)
    replace b2 := Lib.hid (below_all b2.out b3.out)
    replace hw3 := Lib.hid hw3
    clear g2 u2 v2 b3
    obtain ⟨b7, hb7⟩ : ∃ b, b = w2.heap.size := ⟨_, rfl⟩
    have ap3 := Lib.hid (OwnNums.nil .u8 5 w3 w3.heap.size)
    go_wp2_with (first
      | (refine wpList_store_row rfl 26 _ _ rfl _ _ rfl rfl 26 _ (Blk.new w2 26 (bys (zb 32))) z8.out ho8.out (bys_one _) ?_; change wpList _ _ _ _ _ ((w2.alloc (.cells (bys (zb 32)) 26)).setRow w2.heap.size (bys r)); rw [← hw3.out])
      | (at_builtin; refine wpList_append_nums rfl _ _ 22 rfl .u8 w3.heap.size 5 i0 1 Tryd.underlying22 hi hz0 hz1 hz2 _ _ [] key rfl ap3.out rfl u3.out (by simp; omega) (by simp; omega) (Nat.le_refl _) ?_; intro v4 w4 hown4 hgr4; replace hown4 := Lib.hid hown4; have b4 := Lib.hid (below_grown_none hgr4 (Nat.le_refl _)); clear hgr4))
    refine (low_r z0 (65 - (key.length : Int)) rn w4 hrr (by omega) (by omega)).mono ?_
    rintro e w5 ⟨rfl, rfl⟩
    have hown5 : OwnNums .u8 5 w4 w3.heap.size v4 key := hown4.out
    have hlt5 := hown5.lt
    replace hown5 := Lib.hid hown5
    go_wp2_with (at_builtin; refine wpList_append_zeros rfl _ _ rfl w3.heap.size _ key rfl hown5.out rn rfl (by omega) b4.out.size ?_; intro v6 w6 hown6 hgr6; obtain ⟨a6, q, k6, rfl⟩ := slice_any hown6.nums; replace hown6 := Lib.hid hown6; replace hgr6 := Lib.hid hgr6)
    have b6 := Lib.hid (b4.out.grown hgr6.out b4.out.size hlt5)
    have n9 := hown6.out.nums
    have hq : q = key.length + rn := by rw [slice_len n9]; simp
    replace hq := Lib.hid hq
    replace n9 := Lib.hid n9
    have l6 := Lib.hid (below_cell b6.out ln.out)
    have g6 := Lib.hid (g3.out.below b6.out g3.out.lt)
    have u6 := Lib.hid (u3.out.below b6.out)
    have v6 := Lib.hid (v3.out.below b6.out)
    replace b6 := Lib.hid (below_all b2.out b6.out)
    rw [← hb7] at l6
    rw [← hb7]
    clear b4 hown4 hown5 hown6 hgr6 ln g3 u3 v3 b2 hb7 hlt5
    obtain ⟨L, hL⟩ := name_it (key ++ List.replicate rn 0)
    rw [← hL.out] at n9 hbl hms
    have hLl : Hid (L.length = key.length + rn) := by show _ = _; rw [hL.out]; simp
    obtain ⟨be, hbe⟩ := name_it (key == L)
    have hbe2 : ((key.length : Int) == (key.length : Int) + rn) = be := by
      rw [hbe.out, Bool.eq_iff_iff, hL.out]
      simp only [beq_iff_eq]
      constructor
      · intro h
        obtain rfl : rn = 0 := by omega
        simp
      · intro h
        have := congrArg List.length h
        simp at this
        omega
    have hbb : (be == be) = true := by simp
    have hq2 : ((key.length : Int) == (q : Int)) = be := by rw [hq.out]; exact_mod_cast hbe2
    rw [← hq.out] at hLl
    clear hbe2
    refine region_rel_lit (.step (.step (.step (.step (.step (.step (.step (.step (.step (.step (.step (.step (.step (.step (.step (.step (.step (.step (.step (.step (.step (.step (.step (.step (.step (.step (.step (.base _)))))))))))))))))))))))))))) (fun i W v => match i with
      | 0 => v = .slice a6 q k6
      | 1 => v = .slice a1 text.length k1
      | 2 => PartsAt W v [text]
      | 3 => v = .agg (bys r)
      | 4 => v = .agg (bys r)
      | 5 => v = .bool true
      | 6 => v = .bool true
      | 7 => v = .slice a6 q k6
      | 8 => v = .slice a1 text.length k1
      | 9 => v = .agg (bys r)
      | 10 => v = .agg (bys r)
      | 11 => v = .bool true
      | 12 => v = .bool true
      | 13 => v = .bool true
      | 14 => v = .slice a0 key.length k0
      | 15 => v = .slice a6 q k6
      | 16 => v = .bool be
      | 17 => v = .slice a0 key.length k0
      | 18 => v = .int .i64 key.length
      | 19 => v = .slice a6 q k6
      | 20 => v = .int .i64 q
      | 21 => v = .bool be
      | 22 => v = .bool true
      | 23 => v = .bool true
      | 24 => v = .bool true
      | 25 => v = .bool true
      | _ => v = .bool true) mixed (by kernel_rfl) (by kernel_rfl) ?_ ?_ ?_
    · rintro (_ | _ | _ | _ | _ | _ | _ | _ | _ | _ | _ | _ | _ | _ | _ | _ | _ | _ | _ | _ | _ | _ | _ | _ | _ | _ | i) W W' v h hb
      all_goals first | exact h | exact PartsAt.below h hb | exact NumsAt.below h hb | exact sl_below h hb | exact spec_below h hb
    · intro i oi hoi x w9 hb9 hd
      rcases i with _ | _ | _ | _ | _ | _ | _ | _ | _ | _ | _ | _ | _ | _ | _ | _ | _ | _ | _ | _ | _ | _ | _ | _ | _ | _ | _ | i
      · obtain rfl := Option.some.inj hoi
        simp only [fill, Act.put, List.setIfInBounds_toArray, List.set_cons_succ, List.set_cons_zero]
        go_wp2_with fail
        exact ⟨_, rfl, Below.refl _ _, rfl⟩
      · obtain rfl := Option.some.inj hoi
        simp only [fill, Act.put, List.setIfInBounds_toArray, List.set_cons_succ, List.set_cons_zero]
        go_wp2_with fail
        exact ⟨_, rfl, Below.refl _ _, rfl⟩
      · obtain rfl := Option.some.inj hoi
        have h1 : (x 1) = .slice a1 text.length k1 := hd 1 (by kernel_rfl)
        simp only [fill, Act.put, List.setIfInBounds_toArray, List.set_cons_succ, List.set_cons_zero, h1]
        go_wp2_with fail
        have hp := parts_one (Blk.new w9 22 #[.slice a1 text.length k1]) ((v6.out.below hb9).alloc _)
        exact ⟨_, rfl, (Below.refl _ _).alloc (Nat.le_refl _) _, hp⟩
      · obtain rfl := Option.some.inj hoi
        have h0 : (x 0) = .slice a6 q k6 := hd 0 (by kernel_rfl)
        have h2 : PartsAt w9 (x 2) [text] := hd 2 (by kernel_rfl)
        simp only [fill, Act.put, List.setIfInBounds_toArray, List.set_cons_succ, List.set_cons_zero, h0]
        go_wp2_with fail
        refine (mac_any _ _ L text _ w9 (g6.out.below hb9 g6.out.lt) (n9.out.below hb9) h2 hf1.out hbl.out hbt.out (by rw [hLl.out, hq.out]; omega) (by omega) (by simp)).mono ?_
        rintro e w10 ⟨rfl, hb10⟩
        go_wp2_with fail
        exact ⟨_, rfl, hb10, by rw [hr.out, hms.out]⟩
      · obtain rfl := Option.some.inj hoi
        simp only [fill, Act.put, List.setIfInBounds_toArray, List.set_cons_succ, List.set_cons_zero]
        have e1 := Lib.hid (load_at (P := Tryd.prog) (below_cell hb9 l6.out) 32 5 arr26 (by rw [bys_size, hrl.out]; exact sz26))
        go_wp2_with (refine wpList_load_isG (by kernel_rfl) 26 _ rfl rfl e1.out ?_)
        exact ⟨_, rfl, Below.refl _ _, rfl⟩
      · obtain rfl := Option.some.inj hoi
        have h3 : (x 3) = .agg (bys r) := hd 3 (by kernel_rfl)
        have h4 : (x 4) = .agg (bys r) := hd 4 (by kernel_rfl)
        simp only [fill, Act.put, List.setIfInBounds_toArray, List.set_cons_succ, List.set_cons_zero, h3, h4]
        have e1 := equal_self arr26 r hrl.out w9
        go_wp2_with fail
        exact ⟨_, rfl, Below.refl _ _, rfl⟩
      · obtain rfl := Option.some.inj hoi
        have h5 : (x 5) = .bool true := hd 5 (by kernel_rfl)
        simp only [fill, Act.put, List.setIfInBounds_toArray, List.set_cons_succ, List.set_cons_zero, h5]
        go_wp2_with fail
        exact ⟨_, rfl, Below.refl _ _, rfl⟩
      · obtain rfl := Option.some.inj hoi
        have h6 : (x 6) = .bool true := hd 6 (by kernel_rfl)
        simp only [fill, Act.put, List.setIfInBounds_toArray, List.set_cons_succ, List.set_cons_zero, h6]
        go_wp2_with fail
        exact ⟨_, rfl, Below.refl _ _, rfl⟩
      · obtain rfl := Option.some.inj hoi
        have h6 : (x 6) = .bool true := hd 6 (by kernel_rfl)
        simp only [fill, Act.put, List.setIfInBounds_toArray, List.set_cons_succ, List.set_cons_zero, h6]
        go_wp2_with fail
        exact ⟨_, rfl, Below.refl _ _, rfl⟩
      · obtain rfl := Option.some.inj hoi
        have h6 : (x 6) = .bool true := hd 6 (by kernel_rfl)
        have h7 : (x 7) = .slice a6 q k6 := hd 7 (by kernel_rfl)
        have h8 : (x 8) = .slice a1 text.length k1 := hd 8 (by kernel_rfl)
        simp only [fill, Act.put, List.setIfInBounds_toArray, List.set_cons_succ, List.set_cons_zero, h6, h7, h8]
        go_wp2_with fail
        refine (extract_any _ _ L text w9 (g6.out.below hb9 g6.out.lt) (n9.out.below hb9) (v6.out.below hb9) hbl.out hbt.out (by rw [hLl.out, hq.out]; omega) (by omega)).mono ?_
        rintro e w10 ⟨rfl, hb10⟩
        go_wp2_with fail
        exact ⟨_, rfl, hb10, by rw [hr.out, hms.out]⟩
      · obtain rfl := Option.some.inj hoi
        have h6 : (x 6) = .bool true := hd 6 (by kernel_rfl)
        simp only [fill, Act.put, List.setIfInBounds_toArray, List.set_cons_succ, List.set_cons_zero, h6]
        have e1 := Lib.hid (load_at (P := Tryd.prog) (below_cell hb9 l6.out) 32 5 arr26 (by rw [bys_size, hrl.out]; exact sz26))
        go_wp2_with (refine wpList_load_isG (by kernel_rfl) 26 _ rfl rfl e1.out ?_)
        exact ⟨_, rfl, Below.refl _ _, rfl⟩
      · obtain rfl := Option.some.inj hoi
        have h6 : (x 6) = .bool true := hd 6 (by kernel_rfl)
        have h9 : (x 9) = .agg (bys r) := hd 9 (by kernel_rfl)
        have h10 : (x 10) = .agg (bys r) := hd 10 (by kernel_rfl)
        simp only [fill, Act.put, List.setIfInBounds_toArray, List.set_cons_succ, List.set_cons_zero, h6, h9, h10]
        have e1 := equal_self arr26 r hrl.out w9
        go_wp2_with fail
        exact ⟨_, rfl, Below.refl _ _, rfl⟩
      · obtain rfl := Option.some.inj hoi
        have h6 : (x 6) = .bool true := hd 6 (by kernel_rfl)
        have h11 : (x 11) = .bool true := hd 11 (by kernel_rfl)
        simp only [fill, Act.put, List.setIfInBounds_toArray, List.set_cons_succ, List.set_cons_zero, h6, h11]
        go_wp2_with fail
        exact ⟨_, rfl, Below.refl _ _, rfl⟩
      · obtain rfl := Option.some.inj hoi
        have h12 : (x 12) = .bool true := hd 12 (by kernel_rfl)
        simp only [fill, Act.put, List.setIfInBounds_toArray, List.set_cons_succ, List.set_cons_zero, h12]
        go_wp2_with fail
        exact ⟨_, rfl, Below.refl _ _, rfl⟩
      · obtain rfl := Option.some.inj hoi
        have h13 : (x 13) = .bool true := hd 13 (by kernel_rfl)
        simp only [fill, Act.put, List.setIfInBounds_toArray, List.set_cons_succ, List.set_cons_zero, h13]
        go_wp2_with fail
        exact ⟨_, rfl, Below.refl _ _, rfl⟩
      · obtain rfl := Option.some.inj hoi
        have h13 : (x 13) = .bool true := hd 13 (by kernel_rfl)
        simp only [fill, Act.put, List.setIfInBounds_toArray, List.set_cons_succ, List.set_cons_zero, h13]
        go_wp2_with fail
        exact ⟨_, rfl, Below.refl _ _, rfl⟩
      · obtain rfl := Option.some.inj hoi
        have h13 : (x 13) = .bool true := hd 13 (by kernel_rfl)
        have h14 : (x 14) = .slice a0 key.length k0 := hd 14 (by kernel_rfl)
        have h15 : (x 15) = .slice a6 q k6 := hd 15 (by kernel_rfl)
        simp only [fill, Act.put, List.setIfInBounds_toArray, List.set_cons_succ, List.set_cons_zero, h13, h14, h15]
        go_wp2_with fail
        refine (equal_any _ _ key L w9 (u6.out.below hb9) (n9.out.below hb9) hb.out hbl.out).mono ?_
        rintro e w10 ⟨rfl, hb10⟩
        go_wp2_with fail
        exact ⟨_, rfl, hb10, by rw [hbe.out]⟩
      · obtain rfl := Option.some.inj hoi
        have h13 : (x 13) = .bool true := hd 13 (by kernel_rfl)
        simp only [fill, Act.put, List.setIfInBounds_toArray, List.set_cons_succ, List.set_cons_zero, h13]
        go_wp2_with fail
        exact ⟨_, rfl, Below.refl _ _, rfl⟩
      · obtain rfl := Option.some.inj hoi
        have h13 : (x 13) = .bool true := hd 13 (by kernel_rfl)
        have h17 : (x 17) = .slice a0 key.length k0 := hd 17 (by kernel_rfl)
        simp only [fill, Act.put, List.setIfInBounds_toArray, List.set_cons_succ, List.set_cons_zero, h13, h17]
        go_wp2_with fail
        exact ⟨_, rfl, Below.refl _ _, rfl⟩
      · obtain rfl := Option.some.inj hoi
        have h13 : (x 13) = .bool true := hd 13 (by kernel_rfl)
        simp only [fill, Act.put, List.setIfInBounds_toArray, List.set_cons_succ, List.set_cons_zero, h13]
        go_wp2_with fail
        exact ⟨_, rfl, Below.refl _ _, rfl⟩
      · obtain rfl := Option.some.inj hoi
        have h13 : (x 13) = .bool true := hd 13 (by kernel_rfl)
        have h19 : (x 19) = .slice a6 q k6 := hd 19 (by kernel_rfl)
        simp only [fill, Act.put, List.setIfInBounds_toArray, List.set_cons_succ, List.set_cons_zero, h13, h19]
        go_wp2_with fail
        exact ⟨_, rfl, Below.refl _ _, rfl⟩
      · obtain rfl := Option.some.inj hoi
        have h13 : (x 13) = .bool true := hd 13 (by kernel_rfl)
        have h18 : (x 18) = .int .i64 key.length := hd 18 (by kernel_rfl)
        have h20 : (x 20) = .int .i64 q := hd 20 (by kernel_rfl)
        simp only [fill, Act.put, List.setIfInBounds_toArray, List.set_cons_succ, List.set_cons_zero, h13, h18, h20]
        go_wp2_with fail
        exact ⟨_, rfl, Below.refl _ _, rfl⟩
      · obtain rfl := Option.some.inj hoi
        have h13 : (x 13) = .bool true := hd 13 (by kernel_rfl)
        have h16 : (x 16) = .bool be := hd 16 (by kernel_rfl)
        have h21 : (x 21) = .bool be := hd 21 (by kernel_rfl)
        simp only [fill, Act.put, List.setIfInBounds_toArray, List.set_cons_succ, List.set_cons_zero, h13, h16, h21]
        go_wp2_with fail
        exact ⟨_, rfl, Below.refl _ _, rfl⟩
      · obtain rfl := Option.some.inj hoi
        have h13 : (x 13) = .bool true := hd 13 (by kernel_rfl)
        have h22 : (x 22) = .bool true := hd 22 (by kernel_rfl)
        simp only [fill, Act.put, List.setIfInBounds_toArray, List.set_cons_succ, List.set_cons_zero, h13, h22]
        go_wp2_with fail
        exact ⟨_, rfl, Below.refl _ _, rfl⟩
      · obtain rfl := Option.some.inj hoi
        have h23 : (x 23) = .bool true := hd 23 (by kernel_rfl)
        simp only [fill, Act.put, List.setIfInBounds_toArray, List.set_cons_succ, List.set_cons_zero, h23]
        go_wp2_with fail
        exact ⟨_, rfl, Below.refl _ _, rfl⟩
      · obtain rfl := Option.some.inj hoi
        have h24 : (x 24) = .bool true := hd 24 (by kernel_rfl)
        simp only [fill, Act.put, List.setIfInBounds_toArray, List.set_cons_succ, List.set_cons_zero, h24]
        go_wp2_with fail
        refine (awake3_any w9 (g6.out.below hb9 g6.out.lt)).mono ?_
        rintro e w10 ⟨rfl, hb10⟩
        go_wp2_with fail
        exact ⟨_, rfl, hb10, rfl⟩
      · obtain rfl := Option.some.inj hoi
        have h24 : (x 24) = .bool true := hd 24 (by kernel_rfl)
        have h25 : (x 25) = .bool true := hd 25 (by kernel_rfl)
        simp only [fill, Act.put, List.setIfInBounds_toArray, List.set_cons_succ, List.set_cons_zero, h24, h25]
        go_wp2_with fail
        exact ⟨_, rfl, Below.refl _ _, rfl⟩
      · cases hoi
    · intro x w9 hb9 hd
      have h26 : (x 26) = .bool true := hd 26 (by decide)
      simp only [fill, Act.put, List.setIfInBounds_toArray, List.set_cons_succ, List.set_cons_zero, h26]
      go_wp2_with fail
      go_ret
      exact ⟨rfl, below_all b6.out hb9⟩
end Go.Proofs.YtikmfaeiecpncaaDoor
