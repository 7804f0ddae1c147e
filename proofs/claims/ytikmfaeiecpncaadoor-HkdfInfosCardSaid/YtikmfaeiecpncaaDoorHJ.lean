/- A label is an expansion of what tells its length: the statement's walk. -/
import Derived.Test.YtikmfaeiecpncaaDoorHI
namespace Go.Proofs.YtikmfaeiecpncaaDoor
open Go.RowKit

theorem cut_str (s : ByteArray) (w : World) : (Instr.sliceAt 9 (.string (⟨#[116, 108, 115, 49, 51, 32]⟩ ++ s)) (some (.int .i64 6)) none none).run Tryd.prog w = .ok (.string ((⟨#[116, 108, 115, 49, 51, 32]⟩ ++ s).extract 6 (⟨#[116, 108, 115, 49, 51, 32]⟩ ++ s).size)) w := by
  rw [run_sliceAt_string w 9 _ _ _ _ un9, run_slice_string_l (P := Tryd.prog) w 9 _ un9 .i64 6 (by omega) (by rw [ByteArray.size_append, show (⟨#[116, 108, 115, 49, 51, 32]⟩ : ByteArray).size = 6 from rfl]; omega)]
  rfl
theorem strB_cut (s : ByteArray) : strB ((⟨#[116, 108, 115, 49, 51, 32]⟩ ++ s).extract 6 (⟨#[116, 108, 115, 49, 51, 32]⟩ ++ s).size) = strB s := by
  have h : strB ((⟨#[116, 108, 115, 49, 51, 32]⟩ ++ s).extract 6 (⟨#[116, 108, 115, 49, 51, 32]⟩ ++ s).size) = (strB (⟨#[116, 108, 115, 49, 51, 32]⟩ ++ s)).drop 6 := by
    have hz : (⟨#[116, 108, 115, 49, 51, 32]⟩ ++ s : ByteArray).size = (⟨#[116, 108, 115, 49, 51, 32]⟩ ++ s : ByteArray).data.toList.length := by rw [Array.length_toList]; rfl
    simp only [strB, ByteArray.data_extract, Array.toList_extract, List.extract]
    rw [List.map_take, List.map_drop, List.take_of_length_le]
    rw [hz]; simp
  rw [h, strB_pre]; rfl
set_option maxHeartbeats 3200000 in
set_option maxRecDepth 100000 in
theorem infos_any (u v : Value) (secret ctx : List Int) (l0 n0 : Int) (w : World) (hg : Gl w) (hu : NumsAt .u8 w u secret) (hv : NumsAt .u8 w v ctx) (hb : Byt secret) (hbc : Byt ctx) :
    Calls Tryd.prog 8 #[u, v, .int .i64 l0, .int .i64 n0] w fun e w' => e = .returned (.bool true) ∧ Below w.heap.size w w' := by
  obtain ⟨i0, hi, hz0, hz1, hz2⟩ := info_parts info5
  obtain ⟨a0, k0, rfl, _⟩ := slice_form hu
  obtain ⟨a1, k1, rfl, _⟩ := slice_form hv
  by_cases hbig : 300 < secret.length
  · have q1 : decide ((300 : Int) < secret.length) = true := by simp; omega
    go_enter Tryd.func8, Tryd.ntmps8
    go_wp2_with fail
    refine (awake3_any w hg).mono ?_
    rintro e w1 ⟨rfl, hb1⟩
    go_wp2_with fail
    go_ret
    exact ⟨rfl, hb1⟩
  have q1 : decide ((300 : Int) < secret.length) = false := by simp; omega
  by_cases hbig2 : 300 < ctx.length
  · have q2 : decide ((300 : Int) < ctx.length) = true := by simp; omega
    clear hbig
    go_enter Tryd.func8, Tryd.ntmps8
    go_wp2_with fail
    refine (awake3_any w hg).mono ?_
    rintro e w1 ⟨rfl, hb1⟩
    go_wp2_with fail
    go_ret
    exact ⟨rfl, hb1⟩
  have q2 : decide ((300 : Int) < ctx.length) = false := by simp; omega
  have hsl : secret.length ≤ 300 := by omega
  have hcl : ctx.length ≤ 300 := by omega
  have hclI : (ctx.length : Int) ≤ 300 := by omega
  clear hbig hbig2
  obtain ⟨lI, hl, hl0, hl1⟩ := low_name l0 261 (by omega)
  obtain ⟨nI, hn, hn0, hn1⟩ := low_name n0 201 (by omega)
  obtain ⟨lg, rfl⟩ := Int.eq_ofNat_of_zero_le hl0
  obtain ⟨n, rfl⟩ := Int.eq_ofNat_of_zero_le hn0
  replace hg := Lib.hid hg
  replace hb := Lib.hid hb
  replace hbc := Lib.hid hbc
  replace hu := Lib.hid hu
  replace hv := Lib.hid hv
  go_enter Tryd.func8, Tryd.ntmps8
  go_wp2_with fail
  refine (low_r l0 261 lg w hl (by omega) (by omega)).mono ?_
  rintro e w1 ⟨rfl, rfl⟩
  go_wp2_with fail
  refine (low_r n0 201 n w hn (by omega) (by omega)).mono ?_
  rintro e w1 ⟨rfl, rfl⟩
  go_wp2_with fail
  refine (grow_any lg w (by omega)).mono ?_
  rintro e w1 ⟨v1, rfl, hn1', hb1⟩
  obtain ⟨s, hsB, hss, hcv⟩ := conv_str hn1' (byt_gN lg lg)
  rw [gN_len] at hss
  have hg1 := Lib.hid (hg.out.below hb1 hg.out.lt)
  have hu1 := Lib.hid (hu.out.below hb1)
  have hv1 := Lib.hid (hv.out.below hb1)
  replace hb1 := Lib.hid hb1
  have hssI : (s.size : Int) ≤ 300 := by rw [hss]; omega
  have hct := cut_str s
  obtain ⟨s2, hs2⟩ : ∃ x, x = (⟨#[116, 108, 115, 49, 51, 32]⟩ ++ s : ByteArray).extract 6 (⟨#[116, 108, 115, 49, 51, 32]⟩ ++ s : ByteArray).size := ⟨_, rfl⟩
  have hs2B : strB s2 = gN lg lg := by rw [hs2, strB_cut, hsB]
  have hs2s : s2.size = lg := by rw [← strB_len, hs2B, gN_len]
  rw [← hs2] at hct
  replace hs2 := Lib.hid hs2
  replace hs2B := Lib.hid hs2B
  replace hsB := Lib.hid hsB
  replace hss := Lib.hid hss
  obtain ⟨G, hG⟩ := name_it (gN lg lg)
  have hGl : Hid (G.length = lg) := by show _ = _; rw [hG.out, gN_len]
  have hbG : Hid (Byt G) := by show Byt _; rw [hG.out]; exact byt_gN _ _
  rw [← hG.out] at hs2B hsB
  clear hn1' hg hu hv
  go_wp2_with fail
  refine (label_any _ _ secret ctx s2 n w1 hg1.out hu1.out hv1.out hb.out hbc.out (by omega) (by rw [hs2s]; omega)).mono ?_
  rintro e w2 ⟨v2, rfl, hn2, hb2⟩
  have hg2 := Lib.hid (hg1.out.below hb2 hg1.out.lt)
  have hu2 := Lib.hid (hu1.out.below hb2)
  have hv2 := Lib.hid (hv1.out.below hb2)
  have b2 := Lib.hid (below_all hb1.out hb2)
  rw [hs2B.out] at hn2
  obtain ⟨a2, k2, rfl, _⟩ := slice_form hn2
  clear hb1 hb2 hct hcv hs2 hs2s hg1 hu1 hv1
  by_cases h1 : 249 < lg
  · have q3 : decide ((249 : Int) < lg) = true := by simp; omega
    rw [show labelI secret G ctx (n : Int) = [] by rw [labelI, if_pos (.inl (by rw [hGl.out]; exact h1))], List.length_nil]
    clear hn2 h1
    go_wp2_with fail
    refine (awake3_any w2 hg2.out).mono ?_
    rintro e w3 ⟨rfl, hb3⟩
    go_wp2_with fail
    go_ret
    exact ⟨rfl, below_all b2.out hb3⟩
  have q3 : decide ((249 : Int) < lg) = false := by simp; omega
  by_cases h2 : 255 < ctx.length
  · have q4 : decide ((255 : Int) < ctx.length) = true := by simp; omega
    rw [show labelI secret G ctx (n : Int) = [] by rw [labelI, if_pos (.inr (.inl h2))], List.length_nil]
    clear hn2 h1 h2
    go_wp2_with fail
    refine (awake3_any w2 hg2.out).mono ?_
    rintro e w3 ⟨rfl, hb3⟩
    go_wp2_with fail
    go_ret
    exact ⟨rfl, below_all b2.out hb3⟩
  have q4 : decide ((255 : Int) < ctx.length) = false := by simp; omega
  have hlab : labelI secret G ctx (n : Int) = expand secret (labelInfo G ctx n) n := by rw [labelI, if_neg (by rw [hGl.out]; omega)]; rfl
  rw [hlab, expand_len] at hn2 ⊢
  replace hn2 := Lib.hid hn2
  obtain ⟨x2, hx2⟩ := name_it (6 + lg)
  obtain ⟨x3, hx3⟩ := name_it ctx.length
  have ez : (((⟨#[116, 108, 115, 49, 51, 32]⟩ ++ s : ByteArray).size : Nat) : Int) = (x2 : Int) := by
    rw [ByteArray.size_append, show (⟨#[116, 108, 115, 49, 51, 32]⟩ : ByteArray).size = 6 from rfl, hx2.out, hss.out]
  have ez2 : 6 + (s.size : Int) = (x2 : Int) := by rw [hx2.out, hss.out]; omega
  have hx2I : (x2 : Int) ≤ 255 := by rw [hx2.out]; omega
  have hx3I : (x3 : Int) ≤ 255 := by rw [hx3.out]; omega
  have hnI : (n : Int) ≤ 200 := by omega
  rw [← hx3.out] at hv2 hclI q2 q4 ⊢
  have hf : Hid (labelInfo G ctx n = [(0 : Int), (n : Int), (x2 : Int)] ++ (preB ++ G) ++ [(x3 : Int)] ++ ctx) := by
    show _ = _
    rw [labelInfo, hGl.out, Nat.mod_eq_of_lt (show n / 256 < 256 by omega), Nat.mod_eq_of_lt (show n < 256 by omega), Nat.mod_eq_of_lt (show 6 + lg < 256 by omega), Nat.mod_eq_of_lt (show ctx.length < 256 by omega), hx2.out, hx3.out, Nat.div_eq_of_lt (show n < 256 by omega)]; rfl
  have hfl : Hid ((labelInfo G ctx n).length ≤ 700) := by
    show _ ≤ _
    rw [hf.out]; simp [preB, hGl.out]; omega
  have own1 := Lib.hid (show OwnNums .u8 5 (w2.alloc (.cells #[.int .u8 0, .int .u8 n, .int .u8 x2] 5)) w2.heap.size (.slice (some ⟨w2.heap.size, 0, none⟩) 3 3) [(0 : Int), (n : Int), (x2 : Int)] from World.ownsRow_lit w2 #[.int .u8 0, .int .u8 n, .int .u8 x2] 3 (Nat.le_refl _) (by unfold maxLen; omega) (by simp))
  have hs3 : Hid ([(0 : Int), (n : Int), (x2 : Int)].length + (⟨#[116, 108, 115, 49, 51, 32]⟩ ++ s : ByteArray).size ≤ 100000) := by
    show _ ≤ _
    rw [ByteArray.size_append, show (⟨#[116, 108, 115, 49, 51, 32]⟩ : ByteArray).size = 6 from rfl, hss.out]
    simp; omega
  clear hlab h1 h2
  have nn : ((n : Int) == (n : Int)) = true := by simp
  go_wp2_with (at_builtin; first
    | (refine wpList_append_str rfl _ _ rfl w2.heap.size _ _ rfl own1.out _ rfl hs3.out (by simp) ?_; intro v4 w4 hown4 hgr4; rw [strB_pre, hsB.out] at hown4; obtain ⟨a4, l4, c4, rfl⟩ := slice_any hown4.nums; have b4 := Lib.hid (((Below.refl w2.heap.size w2).alloc (Nat.le_refl _) _).grown hgr4 (by simp) own1.out.lt); replace hown4 := Lib.hid hown4; clear hgr4)
    | (refine wpList_append_nums rfl _ _ 22 rfl .u8 w2.heap.size 5 i0 1 Tryd.underlying22 hi hz0 hz1 hz2 _ _ _ [(x3 : Int)] rfl (hown4.out.alloc _) rfl (own_lit .u8 5 w4 w4.heap.size (Nat.le_refl _) (x3 : Int)).nums (by simp [preB, hGl.out]; omega) (by simp [preB, hGl.out]; omega) (by have := b4.out.size; simp; omega) ?_; intro v5 w5 hown5 hgr5; obtain ⟨a5, l5, c5, rfl⟩ := slice_any hown5.nums; have b5 := Lib.hid ((b4.out.alloc b4.out.size (.cells #[.int .u8 x3] 5)).grown hgr5 (by have := b4.out.size; simp; omega) hown4.out.lt); replace hown5 := Lib.hid hown5; clear hgr5; have nc5 := Lib.hid (hv2.out.below b5.out))
    | (refine wpList_append_nums rfl _ _ 22 rfl .u8 w2.heap.size 5 i0 1 Tryd.underlying22 hi hz0 hz1 hz2 _ _ _ ctx rfl hown5.out rfl nc5.out (by have := hfl.out; rw [hf.out, List.length_append] at this; omega) (by have := hfl.out; rw [hf.out, List.length_append] at this; omega) b5.out.size ?_; intro v6 w6 hown6 hgr6; obtain ⟨a6, l6, c6, rfl⟩ := slice_any hown6.nums; have b6 := Lib.hid (b5.out.grown hgr6 b5.out.size hown5.out.lt); replace hown6 := Lib.hid hown6; clear hgr6))
  have n6 : NumsAt .u8 w6 (.slice a6 l6 c6) (labelInfo G ctx n) := by rw [hf.out]; exact hown6.out.nums
  have hg6 := Lib.hid (hg2.out.below b6.out hg2.out.lt)
  have hn6 := Lib.hid (hn2.out.below b6.out)
  refine (expandN_any _ _ secret _ n w6 hg6.out (hu2.out.below b6.out) n6 hb.out (byt_info _ _ _ hbG.out hbc.out) (by omega) (by have := hfl.out; omega) (by omega)).mono ?_
  rintro e w7 ⟨v7, rfl, hn7, hb7⟩
  have hsm : (expand secret (labelInfo G ctx n) n == expand secret (labelInfo G ctx n) n) = true := by simp
  have hn6' := hn6.out.below hb7
  have hg7 := Lib.hid (hg6.out.below hb7 hg6.out.lt)
  have b7 := Lib.hid (below_all b2.out (below_all b6.out hb7))
  obtain ⟨a7, l7, c7, rfl⟩ := slice_any hn7
  clear hb7
  replace hn7 := Lib.hid hn7
  replace hn6' := Lib.hid hn6'
  replace hsm := Lib.hid hsm
  go_wp2_with fail
  refine (same_is _ _ _ _ true w7 hn6'.out hn7.out hsm.out).mono ?_
  rintro e w8 ⟨rfl, hb8⟩
  have hg8 := hg7.out.below hb8 hg7.out.lt
  go_wp2_with fail
  refine (awake3_any w8 hg8).mono ?_
  rintro e w9 ⟨rfl, hb9⟩
  go_wp2_with fail
  go_ret
  exact ⟨rfl, below_all b7.out (below_all hb8 hb9)⟩
end Go.Proofs.YtikmfaeiecpncaaDoor
