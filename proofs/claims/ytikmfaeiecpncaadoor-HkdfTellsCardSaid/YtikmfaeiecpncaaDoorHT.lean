/- The keyed digest of any parts, what is extracted, expanded, labelled, is the document's: the statement's walk. -/
import Derived.Test.YtikmfaeiecpncaaDoorHP
import Derived.Test.YtikmfaeiecpncaaDoorHR
namespace Go.Proofs.YtikmfaeiecpncaaDoor
open Go.RowKit

set_option maxHeartbeats 6400000 in
set_option maxRecDepth 100000 in
theorem htells_lo (u v z : Value) (key a b : List Int) (s : ByteArray) (n : Int) (w : World) (hg : Gl w) (hu : NumsAt .u8 w u key) (hv : NumsAt .u8 w v a) (hz : NumsAt .u8 w z b) (hb : Byt key) (hba : Byt a) (hbb : Byt b)
    (hn : n ≤ 100) (hk1 : key.length ≤ 120) (ha1 : a.length ≤ 300) (hb1 : b.length ≤ 120) (hs1 : s.size ≤ 260) :
    Calls Tryd.prog 9 #[u, v, z, .string s, .int .i64 n] w fun e w' => e = .returned (.bool true) ∧ Below w.heap.size w w' := by
  obtain ⟨i0, hi, hz0, hz1, hz2⟩ := info_parts info5
  obtain ⟨a0, k0, rfl, _⟩ := slice_form hu
  obtain ⟨a1, k1, rfl, _⟩ := slice_form hv
  obtain ⟨a2, k2, rfl, _⟩ := slice_form hz
  have q1 : decide ((120 : Int) < key.length) = false := by simp; omega
  have q2 : decide ((300 : Int) < a.length) = false := by simp; omega
  have q3 : decide ((120 : Int) < b.length) = false := by simp; omega
  have q4 : decide ((260 : Int) < s.size) = false := by simp; omega
  have q5 : decide (100 < n) = false := by simp; omega
  obtain ⟨T, hT⟩ := name_it (a ++ b)
  have hTl : Hid (T.length ≤ 420) := by show _ ≤ _; rw [hT.out]; simp; omega
  have hbT : Hid (Byt T) := by show Byt _; rw [hT.out]; exact byt_app hba hbb
  obtain ⟨r, hr⟩ := name_it (mac key T)
  have hrl : Hid (r.length = 32) := by show _ = _; rw [hr.out]; exact mac_len _ _
  obtain ⟨rx, hrx⟩ := name_it (mac a key)
  have hrxl : Hid (rx.length = 32) := by show _ = _; rw [hrx.out]; exact mac_len _ _
  obtain ⟨xs, hxs⟩ := name_it (expandI key b n)
  obtain ⟨ys, hys⟩ := name_it (labelI key (strB s) a n)
  obtain ⟨c, hc⟩ := name_it (a == b)
  have hcc : Hid ((c == c) = true) := by show _ = _; simp
  have hxx : Hid ((xs == xs) = true) := by show _ = _; simp
  have hyy : Hid ((ys == ys) = true) := by show _ = _; simp
  have haa : Hid ((a == a) = true) := by show _ = _; simp
  have hf : Hid (([a, [], b] : List (List Int)).flatten = T) := by show _ = _; rw [hT.out]; simp
  have hm26 := guard26
  replace hb := Lib.hid hb
  replace hba := Lib.hid hba
  replace hbb := Lib.hid hbb
  replace hg := Lib.hid hg
  replace hu := Lib.hid hu
  replace hv := Lib.hid hv
  replace hz := Lib.hid hz
  replace hk1 := Lib.hid hk1
  replace ha1 := Lib.hid ha1
  replace hb1 := Lib.hid hb1
  replace hs1 := Lib.hid hs1
  clear hn
  go_enter Tryd.func9, Tryd.ntmps9
  go_wp2_with fail
  refine (copied_any _ a w hv.out (by have := ha1.out; omega)).mono ?_
  rintro e w1 ⟨v1, rfl, hown1, b1⟩
  obtain ⟨a3, l3, k3, rfl⟩ := slice_any hown1.nums
  have z1 := Lib.hid (hz.out.below b1)
  have hlt1 := Lib.hid hown1.lt
  have b1s := Lib.hid b1.size
  replace hown1 := Lib.hid hown1
  replace b1 := Lib.hid b1
  go_wp2_with (at_builtin; refine wpList_append_nums rfl _ _ 22 rfl .u8 w.heap.size 5 i0 1 Tryd.underlying22 hi hz0 hz1 hz2 (.slice a3 l3 k3) _ a b rfl hown1.out rfl z1.out (by have := ha1.out; have := hb1.out; omega) (by have := ha1.out; have := hb1.out; omega) b1s.out ?_; intro v2 w2 hown2 hgr2; obtain ⟨a4, l4, k4, rfl⟩ := slice_any hown2.nums; replace hown2 := Lib.hid hown2; replace hgr2 := Lib.hid hgr2)
  have b2 := b1.out.grown hgr2.out b1s.out hlt1.out
  have t2 : NumsAt .u8 w2 (.slice a4 l4 k4) T := by rw [hT.out]; exact hown2.out.nums
  have g2 := hg.out.below b2 hg.out.lt
  have u2 := hu.out.below b2
  have v2 := hv.out.below b2
  have z2 := hz.out.below b2
  clear hown1 hown2 hgr2 hlt1 b1s b1 z1 hg hu hv hz
  refine (expand_any _ _ key b n w2 g2 u2 z2 hb.out hbb.out (by have := hk1.out; omega) (by have := hb1.out; omega)).mono ?_
  rintro e w3 ⟨v3, rfl, x3, hb3⟩
  rw [← hxs.out] at x3
  obtain ⟨a5, l5, k5, rfl⟩ := slice_any x3
  have b3 := Lib.hid (below_all b2 hb3)
  have t3 := Lib.hid (t2.below hb3)
  have g3 := Lib.hid (g2.below hb3 g2.lt)
  have u3 := Lib.hid (u2.below hb3)
  have v3 := Lib.hid (v2.below hb3)
  have z3 := Lib.hid (z2.below hb3)
  replace x3 := Lib.hid x3
  clear b2 t2 g2 u2 v2 z2 hb3
  go_wp2_with fail
  refine (label_any _ _ key a s n w3 g3.out u3.out v3.out hb.out hba.out (by have := hk1.out; omega) (by have := hs1.out; omega)).mono ?_
  rintro e w4 ⟨v4, rfl, y4, hb4⟩
  rw [← hys.out] at y4
  obtain ⟨a6, l6, k6, rfl⟩ := slice_any y4
  have b6 := Lib.hid (below_all b3.out hb4)
  have t6 := Lib.hid (t3.out.below hb4)
  have g6 := Lib.hid (g3.out.below hb4 g3.out.lt)
  have u6 := Lib.hid (u3.out.below hb4)
  have v6 := Lib.hid (v3.out.below hb4)
  have z6 := Lib.hid (z3.out.below hb4)
  have x6 := Lib.hid (x3.out.below hb4)
  have y6 := Lib.hid y4
  clear y4
  clear b3 t3 g3 u3 v3 z3 x3 hb4
  go_wp2_with fail
  have p7 := parts_three (Blk.new w4 22 #[.slice a1 a.length k1, .slice none 0 0, .slice a2 b.length k2]) (v6.out.alloc _) (nums_nil _ _) (z6.out.alloc _)
  have c7 := (Below.refl w4.heap.size w4).alloc (Nat.le_refl _) (.cells #[.slice a1 a.length k1, .slice none 0 0, .slice a2 b.length k2] 22)
  refine (mac_any _ _ key T _ _ (g6.out.below c7 g6.out.lt) (u6.out.alloc _) p7 hf.out hb.out hbT.out (by have := hk1.out; omega) (by have := hTl.out; omega) (by simp)).mono ?_
  rintro e w7 ⟨rfl, hb7⟩
  rw [← hr.out]
  have d7 := below_all c7 hb7
  clear p7 c7 hb7
  have t7 := Lib.hid (t6.out.below d7)
  have g7 := Lib.hid (g6.out.below d7 g6.out.lt)
  have u7 := Lib.hid (u6.out.below d7)
  have v7 := Lib.hid (v6.out.below d7)
  have z7 := Lib.hid (z6.out.below d7)
  have x7 := Lib.hid (x6.out.below d7)
  have y7 := Lib.hid (y6.out.below d7)
  have b7 := Lib.hid (below_all b6.out d7)
  clear t6 g6 u6 v6 z6 x6 y6 b6 d7
  go_wp2_with fail
  refine (rmac_any _ _ key T w7 u7.out t7.out hb.out hbT.out (by have := hk1.out; omega) (by have := hTl.out; omega)).mono ?_
  rintro e w8 ⟨rfl, d8⟩
  rw [← hr.out]
  have g8 := Lib.hid (g7.out.below d8 g7.out.lt)
  have u8 := Lib.hid (u7.out.below d8)
  have v8 := Lib.hid (v7.out.below d8)
  have z8 := Lib.hid (z7.out.below d8)
  have x8 := Lib.hid (x7.out.below d8)
  have y8 := Lib.hid (y7.out.below d8)
  have b8 := Lib.hid (below_all b7.out d8)
  clear t7 g7 u7 v7 z7 x7 y7 b7 d8
  have e1 := equal_self arr26 r hrl.out w8
  go_wp2_with fail
  refine (extract_any _ _ a key w8 g8.out v8.out u8.out hba.out hb.out (by have := ha1.out; omega) (by have := hk1.out; omega)).mono ?_
  rintro e w9 ⟨rfl, d9⟩
  rw [← hrx.out]
  clear e1
  have g9 := Lib.hid (g8.out.below d9 g8.out.lt)
  have u9 := Lib.hid (u8.out.below d9)
  have v9 := Lib.hid (v8.out.below d9)
  have z9 := Lib.hid (z8.out.below d9)
  have x9 := Lib.hid (x8.out.below d9)
  have y9 := Lib.hid (y8.out.below d9)
  have b9 := Lib.hid (below_all b8.out d9)
  clear g8 u8 v8 z8 x8 y8 b8 d9
  go_wp2_with fail
  refine (rextract_any _ _ a key w9 v9.out u9.out hba.out hb.out (by have := ha1.out; omega) (by have := hk1.out; omega)).mono ?_
  rintro e w10 ⟨rfl, d10⟩
  rw [← hrx.out]
  have g10 := Lib.hid (g9.out.below d10 g9.out.lt)
  have u10 := Lib.hid (u9.out.below d10)
  have v10 := Lib.hid (v9.out.below d10)
  have z10 := Lib.hid (z9.out.below d10)
  have x10 := Lib.hid (x9.out.below d10)
  have y10 := Lib.hid (y9.out.below d10)
  have b10 := Lib.hid (below_all b9.out d10)
  clear g9 u9 v9 z9 x9 y9 b9 d10
  have e1 := equal_self arr26 rx hrxl.out w10
  go_wp2_with fail
  refine (rexpand_any _ _ key b n w10 u10.out z10.out hb.out hbb.out (by have := hk1.out; omega) (by have := hb1.out; omega)).mono ?_
  rintro e w11 ⟨v11, rfl, n11, d11⟩
  rw [← hxs.out] at n11
  obtain ⟨a7, l7, k7, rfl⟩ := slice_any n11
  clear e1
  replace n11 := Lib.hid n11
  have g11 := Lib.hid (g10.out.below d11 g10.out.lt)
  have u11 := Lib.hid (u10.out.below d11)
  have v11 := Lib.hid (v10.out.below d11)
  have z11 := Lib.hid (z10.out.below d11)
  have x11 := Lib.hid (x10.out.below d11)
  have y11 := Lib.hid (y10.out.below d11)
  have b11 := Lib.hid (below_all b10.out d11)
  clear g10 u10 v10 z10 x10 y10 b10 d11
  go_wp2_with fail
  refine (same_is _ _ xs xs true w11 x11.out n11.out hxx.out).mono ?_
  rintro e w12 ⟨rfl, d12⟩
  clear n11
  have g12 := Lib.hid (g11.out.below d12 g11.out.lt)
  have u12 := Lib.hid (u11.out.below d12)
  have v12 := Lib.hid (v11.out.below d12)
  have z12 := Lib.hid (z11.out.below d12)
  have y12 := Lib.hid (y11.out.below d12)
  have b12 := Lib.hid (below_all b11.out d12)
  clear g11 u11 v11 z11 x11 y11 b11 d12
  go_wp2_with fail
  refine (rlabel_any _ _ key a s n w12 u12.out v12.out hb.out hba.out (by have := hk1.out; omega) (by have := hs1.out; omega)).mono ?_
  rintro e w13 ⟨v13, rfl, n13, d13⟩
  rw [← hys.out] at n13
  obtain ⟨a8, l8, k8, rfl⟩ := slice_any n13
  replace n13 := Lib.hid n13
  have g13 := Lib.hid (g12.out.below d13 g12.out.lt)
  have v13 := Lib.hid (v12.out.below d13)
  have z13 := Lib.hid (z12.out.below d13)
  have y13 := Lib.hid (y12.out.below d13)
  have b13 := Lib.hid (below_all b12.out d13)
  clear g12 u12 v12 z12 y12 b12 d13
  go_wp2_with fail
  refine (same_is _ _ ys ys true w13 y13.out n13.out hyy.out).mono ?_
  rintro e w14 ⟨rfl, d14⟩
  clear n13
  have g14 := Lib.hid (g13.out.below d14 g13.out.lt)
  have v14 := Lib.hid (v13.out.below d14)
  have z14 := Lib.hid (z13.out.below d14)
  have b14 := Lib.hid (below_all b13.out d14)
  clear g13 v13 z13 y13 b13 d14
  go_wp2_with fail
  refine (equal_any _ _ a b w14 v14.out z14.out hba.out hbb.out).mono ?_
  rintro e w15 ⟨rfl, d15⟩
  rw [← hc.out]
  have g15 := Lib.hid (g14.out.below d15 g14.out.lt)
  have v15 := Lib.hid (v14.out.below d15)
  have z15 := Lib.hid (z14.out.below d15)
  have b15 := Lib.hid (below_all b14.out d15)
  clear g14 v14 z14 b14 d15
  go_wp2_with fail
  refine (same_is _ _ a b c w15 v15.out z15.out hc.out.symm).mono ?_
  rintro e w16 ⟨rfl, d16⟩
  have g16 := Lib.hid (g15.out.below d16 g15.out.lt)
  have v16 := Lib.hid (v15.out.below d16)
  have b16 := Lib.hid (below_all b15.out d16)
  clear g15 v15 z15 b15 d16
  replace hcc := hcc.out
  go_wp2_with fail
  refine (copied_any _ a w16 v16.out (by have := ha1.out; omega)).mono ?_
  rintro e w17 ⟨v17, rfl, own17, d17⟩
  obtain ⟨a9, l9, k9, rfl⟩ := slice_any own17.nums
  have n17 := Lib.hid own17.nums
  clear own17
  have g17 := Lib.hid (g16.out.below d17 g16.out.lt)
  have v17 := Lib.hid (v16.out.below d17)
  have b17 := Lib.hid (below_all b16.out d17)
  clear g16 v16 b16 d17
  go_wp2_with fail
  refine (equal_any _ _ a a w17 v17.out n17.out hba.out hba.out).mono ?_
  rintro e w18 ⟨rfl, d18⟩
  rw [haa.out]
  clear n17
  have g18 := Lib.hid (g17.out.below d18 g17.out.lt)
  have b18 := Lib.hid (below_all b17.out d18)
  clear g17 v17 b17 d18
  go_wp2_with fail
  refine (awake3_any w18 g18.out).mono ?_
  rintro e w19 ⟨rfl, d19⟩
  go_wp2_with fail
  go_ret
  exact ⟨rfl, below_all b18.out d19⟩
set_option maxHeartbeats 6400000 in
set_option maxRecDepth 100000 in
theorem htells_hi (u v z : Value) (key a b : List Int) (s : ByteArray) (n : Int) (w : World) (hg : Gl w) (hu : NumsAt .u8 w u key) (hv : NumsAt .u8 w v a) (hz : NumsAt .u8 w z b) (hb : Byt key) (hba : Byt a) (hbb : Byt b)
    (hn : 8160 < n) (hk1 : key.length ≤ 120) (ha1 : a.length ≤ 300) (hb1 : b.length ≤ 120) (hs1 : s.size ≤ 260) :
    Calls Tryd.prog 9 #[u, v, z, .string s, .int .i64 n] w fun e w' => e = .returned (.bool true) ∧ Below w.heap.size w w' := by
  obtain ⟨i0, hi, hz0, hz1, hz2⟩ := info_parts info5
  obtain ⟨a0, k0, rfl, _⟩ := slice_form hu
  obtain ⟨a1, k1, rfl, _⟩ := slice_form hv
  obtain ⟨a2, k2, rfl, _⟩ := slice_form hz
  have q1 : decide ((120 : Int) < key.length) = false := by simp; omega
  have q2 : decide ((300 : Int) < a.length) = false := by simp; omega
  have q3 : decide ((120 : Int) < b.length) = false := by simp; omega
  have q4 : decide ((260 : Int) < s.size) = false := by simp; omega
  have q5 : decide (100 < n) = true := by simp; omega
  have q6 : decide (n ≤ 8160) = false := by simp; omega
  obtain ⟨T, hT⟩ := name_it (a ++ b)
  have hTl : Hid (T.length ≤ 420) := by show _ ≤ _; rw [hT.out]; simp; omega
  have hbT : Hid (Byt T) := by show Byt _; rw [hT.out]; exact byt_app hba hbb
  obtain ⟨r, hr⟩ := name_it (mac key T)
  have hrl : Hid (r.length = 32) := by show _ = _; rw [hr.out]; exact mac_len _ _
  obtain ⟨rx, hrx⟩ := name_it (mac a key)
  have hrxl : Hid (rx.length = 32) := by show _ = _; rw [hrx.out]; exact mac_len _ _
  obtain ⟨xs, hxs⟩ := name_it (expandI key b n)
  obtain ⟨ys, hys⟩ := name_it (labelI key (strB s) a n)
  obtain ⟨c, hc⟩ := name_it (a == b)
  have hcc : Hid ((c == c) = true) := by show _ = _; simp
  have hxx : Hid ((xs == xs) = true) := by show _ = _; simp
  have hyy : Hid ((ys == ys) = true) := by show _ = _; simp
  have haa : Hid ((a == a) = true) := by show _ = _; simp
  have hf : Hid (([a, [], b] : List (List Int)).flatten = T) := by show _ = _; rw [hT.out]; simp
  have hm26 := guard26
  replace hb := Lib.hid hb
  replace hba := Lib.hid hba
  replace hbb := Lib.hid hbb
  replace hg := Lib.hid hg
  replace hu := Lib.hid hu
  replace hv := Lib.hid hv
  replace hz := Lib.hid hz
  replace hk1 := Lib.hid hk1
  replace ha1 := Lib.hid ha1
  replace hb1 := Lib.hid hb1
  replace hs1 := Lib.hid hs1
  clear hn
  go_enter Tryd.func9, Tryd.ntmps9
  go_wp2_with fail
  refine (copied_any _ a w hv.out (by have := ha1.out; omega)).mono ?_
  rintro e w1 ⟨v1, rfl, hown1, b1⟩
  obtain ⟨a3, l3, k3, rfl⟩ := slice_any hown1.nums
  have z1 := Lib.hid (hz.out.below b1)
  have hlt1 := Lib.hid hown1.lt
  have b1s := Lib.hid b1.size
  replace hown1 := Lib.hid hown1
  replace b1 := Lib.hid b1
  go_wp2_with (at_builtin; refine wpList_append_nums rfl _ _ 22 rfl .u8 w.heap.size 5 i0 1 Tryd.underlying22 hi hz0 hz1 hz2 (.slice a3 l3 k3) _ a b rfl hown1.out rfl z1.out (by have := ha1.out; have := hb1.out; omega) (by have := ha1.out; have := hb1.out; omega) b1s.out ?_; intro v2 w2 hown2 hgr2; obtain ⟨a4, l4, k4, rfl⟩ := slice_any hown2.nums; replace hown2 := Lib.hid hown2; replace hgr2 := Lib.hid hgr2)
  have b2 := b1.out.grown hgr2.out b1s.out hlt1.out
  have t2 : NumsAt .u8 w2 (.slice a4 l4 k4) T := by rw [hT.out]; exact hown2.out.nums
  have g2 := hg.out.below b2 hg.out.lt
  have u2 := hu.out.below b2
  have v2 := hv.out.below b2
  have z2 := hz.out.below b2
  clear hown1 hown2 hgr2 hlt1 b1s b1 z1 hg hu hv hz
  refine (expand_any _ _ key b n w2 g2 u2 z2 hb.out hbb.out (by have := hk1.out; omega) (by have := hb1.out; omega)).mono ?_
  rintro e w3 ⟨v3, rfl, x3, hb3⟩
  rw [← hxs.out] at x3
  obtain ⟨a5, l5, k5, rfl⟩ := slice_any x3
  have b3 := Lib.hid (below_all b2 hb3)
  have t3 := Lib.hid (t2.below hb3)
  have g3 := Lib.hid (g2.below hb3 g2.lt)
  have u3 := Lib.hid (u2.below hb3)
  have v3 := Lib.hid (v2.below hb3)
  have z3 := Lib.hid (z2.below hb3)
  replace x3 := Lib.hid x3
  clear b2 t2 g2 u2 v2 z2 hb3
  go_wp2_with fail
  refine (label_any _ _ key a s n w3 g3.out u3.out v3.out hb.out hba.out (by have := hk1.out; omega) (by have := hs1.out; omega)).mono ?_
  rintro e w4 ⟨v4, rfl, y4, hb4⟩
  rw [← hys.out] at y4
  obtain ⟨a6, l6, k6, rfl⟩ := slice_any y4
  have b6 := Lib.hid (below_all b3.out hb4)
  have t6 := Lib.hid (t3.out.below hb4)
  have g6 := Lib.hid (g3.out.below hb4 g3.out.lt)
  have u6 := Lib.hid (u3.out.below hb4)
  have v6 := Lib.hid (v3.out.below hb4)
  have z6 := Lib.hid (z3.out.below hb4)
  have x6 := Lib.hid (x3.out.below hb4)
  have y6 := Lib.hid y4
  clear y4
  clear b3 t3 g3 u3 v3 z3 x3 hb4
  go_wp2_with fail
  have p7 := parts_three (Blk.new w4 22 #[.slice a1 a.length k1, .slice none 0 0, .slice a2 b.length k2]) (v6.out.alloc _) (nums_nil _ _) (z6.out.alloc _)
  have c7 := (Below.refl w4.heap.size w4).alloc (Nat.le_refl _) (.cells #[.slice a1 a.length k1, .slice none 0 0, .slice a2 b.length k2] 22)
  refine (mac_any _ _ key T _ _ (g6.out.below c7 g6.out.lt) (u6.out.alloc _) p7 hf.out hb.out hbT.out (by have := hk1.out; omega) (by have := hTl.out; omega) (by simp)).mono ?_
  rintro e w7 ⟨rfl, hb7⟩
  rw [← hr.out]
  have d7 := below_all c7 hb7
  clear p7 c7 hb7
  have t7 := Lib.hid (t6.out.below d7)
  have g7 := Lib.hid (g6.out.below d7 g6.out.lt)
  have u7 := Lib.hid (u6.out.below d7)
  have v7 := Lib.hid (v6.out.below d7)
  have z7 := Lib.hid (z6.out.below d7)
  have x7 := Lib.hid (x6.out.below d7)
  have y7 := Lib.hid (y6.out.below d7)
  have b7 := Lib.hid (below_all b6.out d7)
  clear t6 g6 u6 v6 z6 x6 y6 b6 d7
  go_wp2_with fail
  refine (rmac_any _ _ key T w7 u7.out t7.out hb.out hbT.out (by have := hk1.out; omega) (by have := hTl.out; omega)).mono ?_
  rintro e w8 ⟨rfl, d8⟩
  rw [← hr.out]
  have g8 := Lib.hid (g7.out.below d8 g7.out.lt)
  have u8 := Lib.hid (u7.out.below d8)
  have v8 := Lib.hid (v7.out.below d8)
  have z8 := Lib.hid (z7.out.below d8)
  have x8 := Lib.hid (x7.out.below d8)
  have y8 := Lib.hid (y7.out.below d8)
  have b8 := Lib.hid (below_all b7.out d8)
  clear t7 g7 u7 v7 z7 x7 y7 b7 d8
  have e1 := equal_self arr26 r hrl.out w8
  go_wp2_with fail
  refine (extract_any _ _ a key w8 g8.out v8.out u8.out hba.out hb.out (by have := ha1.out; omega) (by have := hk1.out; omega)).mono ?_
  rintro e w9 ⟨rfl, d9⟩
  rw [← hrx.out]
  clear e1
  have g9 := Lib.hid (g8.out.below d9 g8.out.lt)
  have u9 := Lib.hid (u8.out.below d9)
  have v9 := Lib.hid (v8.out.below d9)
  have z9 := Lib.hid (z8.out.below d9)
  have x9 := Lib.hid (x8.out.below d9)
  have y9 := Lib.hid (y8.out.below d9)
  have b9 := Lib.hid (below_all b8.out d9)
  clear g8 u8 v8 z8 x8 y8 b8 d9
  go_wp2_with fail
  refine (rextract_any _ _ a key w9 v9.out u9.out hba.out hb.out (by have := ha1.out; omega) (by have := hk1.out; omega)).mono ?_
  rintro e w10 ⟨rfl, d10⟩
  rw [← hrx.out]
  have g10 := Lib.hid (g9.out.below d10 g9.out.lt)
  have u10 := Lib.hid (u9.out.below d10)
  have v10 := Lib.hid (v9.out.below d10)
  have z10 := Lib.hid (z9.out.below d10)
  have x10 := Lib.hid (x9.out.below d10)
  have y10 := Lib.hid (y9.out.below d10)
  have b10 := Lib.hid (below_all b9.out d10)
  clear g9 u9 v9 z9 x9 y9 b9 d10
  have e1 := equal_self arr26 rx hrxl.out w10
  go_wp2_with fail
  refine (rexpand_any _ _ key b n w10 u10.out z10.out hb.out hbb.out (by have := hk1.out; omega) (by have := hb1.out; omega)).mono ?_
  rintro e w11 ⟨v11, rfl, n11, d11⟩
  rw [← hxs.out] at n11
  obtain ⟨a7, l7, k7, rfl⟩ := slice_any n11
  clear e1
  replace n11 := Lib.hid n11
  have g11 := Lib.hid (g10.out.below d11 g10.out.lt)
  have u11 := Lib.hid (u10.out.below d11)
  have v11 := Lib.hid (v10.out.below d11)
  have z11 := Lib.hid (z10.out.below d11)
  have x11 := Lib.hid (x10.out.below d11)
  have y11 := Lib.hid (y10.out.below d11)
  have b11 := Lib.hid (below_all b10.out d11)
  clear g10 u10 v10 z10 x10 y10 b10 d11
  go_wp2_with fail
  refine (same_is _ _ xs xs true w11 x11.out n11.out hxx.out).mono ?_
  rintro e w12 ⟨rfl, d12⟩
  clear n11
  have g12 := Lib.hid (g11.out.below d12 g11.out.lt)
  have u12 := Lib.hid (u11.out.below d12)
  have v12 := Lib.hid (v11.out.below d12)
  have z12 := Lib.hid (z11.out.below d12)
  have y12 := Lib.hid (y11.out.below d12)
  have b12 := Lib.hid (below_all b11.out d12)
  clear g11 u11 v11 z11 x11 y11 b11 d12
  go_wp2_with fail
  refine (rlabel_any _ _ key a s n w12 u12.out v12.out hb.out hba.out (by have := hk1.out; omega) (by have := hs1.out; omega)).mono ?_
  rintro e w13 ⟨v13, rfl, n13, d13⟩
  rw [← hys.out] at n13
  obtain ⟨a8, l8, k8, rfl⟩ := slice_any n13
  replace n13 := Lib.hid n13
  have g13 := Lib.hid (g12.out.below d13 g12.out.lt)
  have v13 := Lib.hid (v12.out.below d13)
  have z13 := Lib.hid (z12.out.below d13)
  have y13 := Lib.hid (y12.out.below d13)
  have b13 := Lib.hid (below_all b12.out d13)
  clear g12 u12 v12 z12 y12 b12 d13
  go_wp2_with fail
  refine (same_is _ _ ys ys true w13 y13.out n13.out hyy.out).mono ?_
  rintro e w14 ⟨rfl, d14⟩
  clear n13
  have g14 := Lib.hid (g13.out.below d14 g13.out.lt)
  have v14 := Lib.hid (v13.out.below d14)
  have z14 := Lib.hid (z13.out.below d14)
  have b14 := Lib.hid (below_all b13.out d14)
  clear g13 v13 z13 y13 b13 d14
  go_wp2_with fail
  refine (equal_any _ _ a b w14 v14.out z14.out hba.out hbb.out).mono ?_
  rintro e w15 ⟨rfl, d15⟩
  rw [← hc.out]
  have g15 := Lib.hid (g14.out.below d15 g14.out.lt)
  have v15 := Lib.hid (v14.out.below d15)
  have z15 := Lib.hid (z14.out.below d15)
  have b15 := Lib.hid (below_all b14.out d15)
  clear g14 v14 z14 b14 d15
  go_wp2_with fail
  refine (same_is _ _ a b c w15 v15.out z15.out hc.out.symm).mono ?_
  rintro e w16 ⟨rfl, d16⟩
  have g16 := Lib.hid (g15.out.below d16 g15.out.lt)
  have v16 := Lib.hid (v15.out.below d16)
  have b16 := Lib.hid (below_all b15.out d16)
  clear g15 v15 z15 b15 d16
  replace hcc := hcc.out
  go_wp2_with fail
  refine (copied_any _ a w16 v16.out (by have := ha1.out; omega)).mono ?_
  rintro e w17 ⟨v17, rfl, own17, d17⟩
  obtain ⟨a9, l9, k9, rfl⟩ := slice_any own17.nums
  have n17 := Lib.hid own17.nums
  clear own17
  have g17 := Lib.hid (g16.out.below d17 g16.out.lt)
  have v17 := Lib.hid (v16.out.below d17)
  have b17 := Lib.hid (below_all b16.out d17)
  clear g16 v16 b16 d17
  go_wp2_with fail
  refine (equal_any _ _ a a w17 v17.out n17.out hba.out hba.out).mono ?_
  rintro e w18 ⟨rfl, d18⟩
  rw [haa.out]
  clear n17
  have g18 := Lib.hid (g17.out.below d18 g17.out.lt)
  have b18 := Lib.hid (below_all b17.out d18)
  clear g17 v17 b17 d18
  go_wp2_with fail
  refine (awake3_any w18 g18.out).mono ?_
  rintro e w19 ⟨rfl, d19⟩
  go_wp2_with fail
  go_ret
  exact ⟨rfl, below_all b18.out d19⟩
theorem htells_any (u v z : Value) (key a b : List Int) (s : ByteArray) (n : Int) (w : World) (hg : Gl w) (hu : NumsAt .u8 w u key) (hv : NumsAt .u8 w v a) (hz : NumsAt .u8 w z b) (hb : Byt key) (hba : Byt a) (hbb : Byt b) :
    Calls Tryd.prog 9 #[u, v, z, .string s, .int .i64 n] w fun e w' => e = .returned (.bool true) ∧ Below w.heap.size w w' := by
  by_cases h1 : 120 < key.length ∨ 300 < a.length ∨ 120 < b.length ∨ 260 < s.size ∨ (100 < n ∧ n ≤ 8160)
  · obtain ⟨a0, k0, rfl, _⟩ := slice_form hu
    obtain ⟨a1, k1, rfl, _⟩ := slice_form hv
    obtain ⟨a2, k2, rfl, _⟩ := slice_form hz
    clear hu hv hz
    by_cases c1 : 120 < key.length
    · have q1 : decide ((120 : Int) < key.length) = true := by simp; omega
      clear h1 c1
      go_enter Tryd.func9, Tryd.ntmps9
      go_wp2_with fail
      refine (awake3_any w hg).mono ?_
      rintro e w1 ⟨rfl, hb1⟩
      go_wp2_with fail
      go_ret
      exact ⟨rfl, hb1⟩
    have q1 : decide ((120 : Int) < key.length) = false := by simp; omega
    by_cases c2 : 300 < a.length
    · have q2 : decide ((300 : Int) < a.length) = true := by simp; omega
      clear h1 c1 c2
      go_enter Tryd.func9, Tryd.ntmps9
      go_wp2_with fail
      refine (awake3_any w hg).mono ?_
      rintro e w1 ⟨rfl, hb1⟩
      go_wp2_with fail
      go_ret
      exact ⟨rfl, hb1⟩
    have q2 : decide ((300 : Int) < a.length) = false := by simp; omega
    by_cases c3 : 120 < b.length
    · have q3 : decide ((120 : Int) < b.length) = true := by simp; omega
      clear h1 c1 c2 c3
      go_enter Tryd.func9, Tryd.ntmps9
      go_wp2_with fail
      refine (awake3_any w hg).mono ?_
      rintro e w1 ⟨rfl, hb1⟩
      go_wp2_with fail
      go_ret
      exact ⟨rfl, hb1⟩
    have q3 : decide ((120 : Int) < b.length) = false := by simp; omega
    by_cases c4 : 260 < s.size
    · have q4 : decide ((260 : Int) < s.size) = true := by simp; omega
      clear h1 c1 c2 c3 c4
      go_enter Tryd.func9, Tryd.ntmps9
      go_wp2_with fail
      refine (awake3_any w hg).mono ?_
      rintro e w1 ⟨rfl, hb1⟩
      go_wp2_with fail
      go_ret
      exact ⟨rfl, hb1⟩
    have q4 : decide ((260 : Int) < s.size) = false := by simp; omega
    have q5 : decide (100 < n) = true := by simp; omega
    have q6 : decide (n ≤ 8160) = true := by simp; omega
    clear h1 c1 c2 c3 c4
    go_enter Tryd.func9, Tryd.ntmps9
    go_wp2_with fail
    refine (awake3_any w hg).mono ?_
    rintro e w1 ⟨rfl, hb1⟩
    go_wp2_with fail
    go_ret
    exact ⟨rfl, hb1⟩
  · by_cases h2 : n ≤ 100
    · exact htells_lo u v z key a b s n w hg hu hv hz hb hba hbb h2 (by omega) (by omega) (by omega) (by omega)
    · exact htells_hi u v z key a b s n w hg hu hv hz hb hba hbb (by omega) (by omega) (by omega) (by omega) (by omega)
end Go.Proofs.YtikmfaeiecpncaaDoor
