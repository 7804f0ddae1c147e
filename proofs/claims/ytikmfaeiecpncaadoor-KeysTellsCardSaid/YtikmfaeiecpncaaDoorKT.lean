/- The keys of any secret, and any hellos, are the document's: the statement's walk. -/
import Derived.Test.YtikmfaeiecpncaaDoorKM
namespace Go.Proofs.YtikmfaeiecpncaaDoor
open Go.RowKit

set_option maxHeartbeats 6400000 in
set_option maxRecDepth 100000 in
theorem ktells_any (u v z : Value) (psk hellos dst : List Int) (w : World) (hg : Gl w) (hu : NumsAt .u8 w u psk) (hv : NumsAt .u8 w v hellos) (hz : NumsAt .u8 w z dst) (hb : Byt psk) (hbh : Byt hellos) (hbd : Byt dst) :
    Calls Tryd.prog 12 #[u, v, z] w fun e w' => e = .returned (.bool true) ∧ Below w.heap.size w w' := by
  obtain ⟨a0, k0, rfl, _⟩ := slice_form hu
  obtain ⟨a1, k1, rfl, _⟩ := slice_form hv
  obtain ⟨a2, k2, rfl, _⟩ := slice_form hz
  by_cases c1 : 100 < psk.length
  · have q1 : decide ((100 : Int) < psk.length) = true := by simp; omega
    clear c1 hu hv hz
    go_enter Tryd.func12, Tryd.ntmps12
    go_wp2_with fail
    refine (awake18_any w hg).mono ?_
    rintro ee w1 ⟨rfl, hb1⟩
    go_wp2_with fail
    go_ret
    exact ⟨rfl, hb1⟩
  have q1 : decide ((100 : Int) < psk.length) = false := by simp; omega
  by_cases c2 : 100 < hellos.length
  · have q2 : decide ((100 : Int) < hellos.length) = true := by simp; omega
    clear c1 c2 hu hv hz
    go_enter Tryd.func12, Tryd.ntmps12
    go_wp2_with fail
    refine (awake18_any w hg).mono ?_
    rintro ee w1 ⟨rfl, hb1⟩
    go_wp2_with fail
    go_ret
    exact ⟨rfl, hb1⟩
  have q2 : decide ((100 : Int) < hellos.length) = false := by simp; omega
  by_cases c3 : 100 < dst.length
  · have q3 : decide ((100 : Int) < dst.length) = true := by simp; omega
    clear c1 c2 c3 hu hv hz
    go_enter Tryd.func12, Tryd.ntmps12
    go_wp2_with fail
    refine (awake18_any w hg).mono ?_
    rintro ee w1 ⟨rfl, hb1⟩
    go_wp2_with fail
    go_ret
    exact ⟨rfl, hb1⟩
  have q3 : decide ((100 : Int) < dst.length) = false := by simp; omega
  have hl : psk.length ≤ 100 := by omega
  have hlh : hellos.length ≤ 100 := by omega
  have hld : dst.length ≤ 100 := by omega
  clear c1 c2 c3
  replace hl := Lib.hid hl
  replace hlh := Lib.hid hlh
  replace hld := Lib.hid hld
  replace hb := Lib.hid hb
  replace hbh := Lib.hid hbh
  replace hbd := Lib.hid hbd
  replace hg := Lib.hid hg
  replace hu := Lib.hid hu
  replace hv := Lib.hid hv
  replace hz := Lib.hid hz
  obtain ⟨P0, hP0⟩ := name_it (helloL psk hellos 0)
  have P0l : Hid (P0.length = 44) := by show _ = _; rw [hP0.out]; exact packetL_len _
  obtain ⟨Q0, hQ0⟩ := name_it (dataL psk hellos 0)
  have Q0l : Hid (Q0.length = 44) := by show _ = _; rw [hQ0.out]; exact packetL_len _
  obtain ⟨F0, hF0⟩ := name_it (finL psk hellos 0)
  have F0l : Hid (F0.length = 32) := by show _ = _; rw [hF0.out]; exact finL_len _ _ _
  obtain ⟨P1, hP1⟩ := name_it (helloL psk hellos 1)
  have P1l : Hid (P1.length = 44) := by show _ = _; rw [hP1.out]; exact packetL_len _
  obtain ⟨Q1, hQ1⟩ := name_it (dataL psk hellos 1)
  have Q1l : Hid (Q1.length = 44) := by show _ = _; rw [hQ1.out]; exact packetL_len _
  obtain ⟨F1, hF1⟩ := name_it (finL psk hellos 1)
  have F1l : Hid (F1.length = 32) := by show _ = _; rw [hF1.out]; exact finL_len _ _ _
  obtain ⟨A, hA⟩ := name_it (packetL (lab (mac dst psk) ⟨#[99, 108, 105, 101, 110, 116, 32, 105, 110]⟩ [] 32))
  obtain ⟨B, hB⟩ := name_it (packetL (lab (mac dst psk) ⟨#[115, 101, 114, 118, 101, 114, 32, 105, 110]⟩ [] 32))
  obtain ⟨fl, hfl⟩ := name_it (firstL psk dst)
  have hfl' : Hid (fl = A ++ B) := by show _ = _; rw [hfl.out, hA.out, hB.out]; rfl
  have lA : Hid (A.length = 44) := by show _ = _; rw [hA.out]; exact packetL_len _
  have lB : Hid (B.length = 44) := by show _ = _; rw [hB.out]; exact packetL_len _
  have lfl : Hid (fl.length = 88) := by show _ = _; rw [hfl.out]; exact firstL_len _ _
  have zl := zb_len 44
  replace zl := Lib.hid zl
  have hzz1 := fun w => zero_of zero59 w
  have hzz2 := fun w => zero_of zero64 w
  have hzz3 := fun w => zero_of zero56 w
  have hzz4 := fun w => zero_of zero62 w
  go_enter Tryd.func12, Tryd.ntmps12
  go_wp2_with fail
  refine (all_any _ _ psk hellos w hg.out hu.out hv.out hb.out hbh.out (by have := hl.out; omega) (by have := hlh.out; omega)).mono ?_
  rintro ee w1 ⟨f0, f1, rfl, cut0, cut1, d1⟩
  rw [← hP0.out, ← hP1.out, ← hQ0.out, ← hQ1.out]
  rw [← hF0.out] at cut0
  rw [← hF1.out] at cut1
  obtain ⟨x0, rfl⟩ := cut0.form 32 F0l.out
  obtain ⟨x1, rfl⟩ := cut1.form 32 F1l.out
  have b1 := Lib.hid d1
  have s1 := Lib.hid cut0
  have t1 := Lib.hid cut1
  clear cut0 cut1 d1
  go_wp2_with fail
  refine (rall_any _ _ psk hellos w1 (hu.out.below b1.out) (hv.out.below b1.out) hb.out hbh.out (by have := hl.out; omega) (by have := hlh.out; omega)).mono ?_
  rintro ee w2 ⟨r0, r1, rfl, far0, far1, d2⟩
  rw [← hP0.out, ← hP1.out, ← hQ0.out, ← hQ1.out]
  rw [← hF0.out] at far0
  rw [← hF1.out] at far1
  obtain ⟨y0, o0, n0, c0, rfl⟩ := far0.form
  obtain ⟨y1, o1, n1, c1, rfl⟩ := far1.form
  have b2 := Lib.hid (below_all b1.out d2)
  have s2 := Lib.hid (s1.out.below d2)
  have t2 := Lib.hid (t1.out.below d2)
  have p2 := Lib.hid far0
  have r2 := Lib.hid far1
  clear far0 far1 d2 b1 s1 t1
  have zs1 : Hid ((Tryd.prog.info? 59).map (·.size) = some (setV P0 P1 Q0 Q1 (.slice (some ⟨x0, 0, none⟩) 32 32) (.slice (some ⟨x1, 0, none⟩) 32 32)).size) := by show _ = _; rw [set_size P0l.out P1l.out Q0l.out Q1l.out]; exact sz59
  have zs2 : Hid ((Tryd.prog.info? 64).map (·.size) = some (setV P0 P1 Q0 Q1 (.slice (some ⟨y0, o0, none⟩) n0 c0) (.slice (some ⟨y1, o1, none⟩) n1 c1)).size) := by show _ = _; rw [set_size P0l.out P1l.out Q0l.out Q1l.out]; exact sz64
  have ho1 : Hid ((setV (zb 44) (zb 44) (zb 44) (zb 44) (.slice none 0 0) (.slice none 0 0)).size = (setV P0 P1 Q0 Q1 (.slice (some ⟨x0, 0, none⟩) 32 32) (.slice (some ⟨x1, 0, none⟩) 32 32)).size) := by show _ = _; rw [set_size P0l.out P1l.out Q0l.out Q1l.out, set_size zl.out zl.out zl.out zl.out]
  have ho2 : Hid ((setV (zb 44) (zb 44) (zb 44) (zb 44) (.slice none 0 0) (.slice none 0 0)).size = (setV P0 P1 Q0 Q1 (.slice (some ⟨y0, o0, none⟩) n0 c0) (.slice (some ⟨y1, o1, none⟩) n1 c1)).size) := by show _ = _; rw [set_size P0l.out P1l.out Q0l.out Q1l.out, set_size zl.out zl.out zl.out zl.out]
  have on1 : (setV P0 P1 Q0 Q1 (.slice (some ⟨x0, 0, none⟩) 32 32) (.slice (some ⟨x1, 0, none⟩) 32 32)).all (·.oneCell') = true := set_one
  have on2 : (setV P0 P1 Q0 Q1 (.slice (some ⟨y0, o0, none⟩) n0 c0) (.slice (some ⟨y1, o1, none⟩) n1 c1)).all (·.oneCell') = true := set_one
  replace on1 := Lib.hid on1
  replace on2 := Lib.hid on2
  obtain ⟨q1, q2, q3, q4, q5⟩ := put_two w2 59 64 (setV (zb 44) (zb 44) (zb 44) (zb 44) (.slice none 0 0) (.slice none 0 0)) (setV P0 P1 Q0 Q1 (.slice (some ⟨x0, 0, none⟩) 32 32) (.slice (some ⟨x1, 0, none⟩) 32 32)) (setV (zb 44) (zb 44) (zb 44) (zb 44) (.slice none 0 0) (.slice none 0 0)) (setV P0 P1 Q0 Q1 (.slice (some ⟨y0, o0, none⟩) n0 c0) (.slice (some ⟨y1, o1, none⟩) n1 c1))
  obtain ⟨w3, hw⟩ : ∃ x, x = (((w2.alloc (.cells (setV (zb 44) (zb 44) (zb 44) (zb 44) (.slice none 0 0) (.slice none 0 0)) 59)).alloc (.cells (setV (zb 44) (zb 44) (zb 44) (zb 44) (.slice none 0 0) (.slice none 0 0)) 64)).setRow w2.heap.size (setV P0 P1 Q0 Q1 (.slice (some ⟨x0, 0, none⟩) 32 32) (.slice (some ⟨x1, 0, none⟩) 32 32))).setRow (w2.heap.size + 1) (setV P0 P1 Q0 Q1 (.slice (some ⟨y0, o0, none⟩) n0 c0) (.slice (some ⟨y1, o1, none⟩) n1 c1)) := ⟨_, rfl⟩
  rw [← hw] at q3 q4 q5
  replace q1 := Lib.hid q1
  replace q2 := Lib.hid q2
  replace q3 := Lib.hid q3
  replace q4 := Lib.hid q4
  replace hw := Lib.hid hw
  have b3 := Lib.hid (below_all b2.out q5)
  have s3 := Lib.hid (s2.out.below q5)
  have t3 := Lib.hid (t2.out.below q5)
  have p3 := Lib.hid (p2.out.below q5)
  have r3 := Lib.hid (r2.out.below q5)
  clear b2 s2 t2 p2 r2 q5
  go_wp2_with (first | refine wpList_store_row rfl 59 _ _ rfl _ _ rfl rfl 59 _ q1.out zs1.out ho1.out on1.out ?_ | (refine wpList_store_row rfl 64 _ _ rfl _ _ rfl rfl 64 _ q2.out zs2.out ho2.out on2.out ?_; change wpList _ _ _ _ _ ((((w2.alloc (.cells (setV (zb 44) (zb 44) (zb 44) (zb 44) (.slice none 0 0) (.slice none 0 0)) 59)).alloc (.cells (setV (zb 44) (zb 44) (zb 44) (zb 44) (.slice none 0 0) (.slice none 0 0)) 64)).setRow w2.heap.size (setV P0 P1 Q0 Q1 (.slice (some ⟨x0, 0, none⟩) 32 32) (.slice (some ⟨x1, 0, none⟩) 32 32))).setRow (w2.heap.size + 1) (setV P0 P1 Q0 Q1 (.slice (some ⟨y0, o0, none⟩) n0 c0) (.slice (some ⟨y1, o1, none⟩) n1 c1))); rw [← hw.out]))
  obtain ⟨b7, hb7⟩ : ∃ b, b = w2.heap.size := ⟨_, rfl⟩
  rw [← hb7] at q3 q4 ⊢
  have A3 := q3
  have B3 := q4
  clear q1 q2 q3 q4 hw hb7 zs1 zs2 ho1 ho2 on1 on2
  refine (first_any _ _ psk dst w3 (hg.out.below b3.out hg.out.lt) (hu.out.below b3.out) (hz.out.below b3.out) hb.out hbd.out (by have := hl.out; omega) (by have := hld.out; omega)).mono ?_
  rintro ee w4 ⟨rfl, d4⟩
  rw [← hfl.out]
  have b4 := Lib.hid (below_all b3.out d4)
  have s4 := Lib.hid (s3.out.below d4)
  have t4 := Lib.hid (t3.out.below d4)
  have p4 := Lib.hid (p3.out.below d4)
  have r4 := Lib.hid (r3.out.below d4)
  have A4 := Lib.hid (below_cell d4 A3.out)
  have B4 := Lib.hid (below_cell d4 B3.out)
  clear b3 s3 t3 p3 r3 A3 B3 d4
  go_wp2_with fail
  refine (rfirst_any _ _ psk dst w4 (hu.out.below b4.out) (hz.out.below b4.out) hb.out hbd.out (by have := hl.out; omega) (by have := hld.out; omega)).mono ?_
  rintro ee w5 ⟨rfl, d5⟩
  rw [← hfl.out]
  have b5 := Lib.hid (below_all b4.out d5)
  have s5 := Lib.hid (s4.out.below d5)
  have t5 := Lib.hid (t4.out.below d5)
  have p5 := Lib.hid (p4.out.below d5)
  have r5 := Lib.hid (r4.out.below d5)
  have A5 := Lib.hid (below_cell d5 A4.out)
  have B5 := Lib.hid (below_cell d5 B4.out)
  clear b4 s4 t4 p4 r4 A4 B4 d5
  have zs1 : Hid ((Tryd.prog.info? 56).map (·.size) = some (bys fl).size) := by show _ = _; rw [bys_size, lfl.out]; exact sz56
  have zs2 : Hid ((Tryd.prog.info? 62).map (·.size) = some (bys fl).size) := by show _ = _; rw [bys_size, lfl.out]; exact sz62
  have ho1 : Hid ((bys (zb 88)).size = (bys fl).size) := by show _ = _; rw [bys_size, bys_size, lfl.out]; rfl
  obtain ⟨q1, q2, q3, q4, q5⟩ := put_two w5 56 62 (bys (zb 88)) (bys fl) (bys (zb 88)) (bys fl)
  obtain ⟨w6, hw⟩ : ∃ x, x = (((w5.alloc (.cells (bys (zb 88)) 56)).alloc (.cells (bys (zb 88)) 62)).setRow w5.heap.size (bys fl)).setRow (w5.heap.size + 1) (bys fl) := ⟨_, rfl⟩
  rw [← hw] at q3 q4 q5
  replace q1 := Lib.hid q1
  replace q2 := Lib.hid q2
  replace q3 := Lib.hid q3
  replace q4 := Lib.hid q4
  replace hw := Lib.hid hw
  have b6 := Lib.hid (below_all b5.out q5)
  have s6 := Lib.hid (s5.out.below q5)
  have t6 := Lib.hid (t5.out.below q5)
  have p6 := Lib.hid (p5.out.below q5)
  have r6 := Lib.hid (r5.out.below q5)
  have A6 := Lib.hid (below_cell q5 A5.out)
  have B6 := Lib.hid (below_cell q5 B5.out)
  clear b5 s5 t5 p5 r5 A5 B5 q5
  go_wp2_with (first | refine wpList_store_row rfl 56 _ _ rfl _ _ rfl rfl 56 _ q1.out zs1.out ho1.out (bys_one _) ?_ | (refine wpList_store_row rfl 62 _ _ rfl _ _ rfl rfl 62 _ q2.out zs2.out ho1.out (bys_one _) ?_; change wpList _ _ _ _ _ ((((w5.alloc (.cells (bys (zb 88)) 56)).alloc (.cells (bys (zb 88)) 62)).setRow w5.heap.size (bys fl)).setRow (w5.heap.size + 1) (bys fl)); rw [← hw.out]))
  obtain ⟨b9, hb9⟩ : ∃ b, b = w5.heap.size := ⟨_, rfl⟩
  rw [← hb9] at q3 q4 ⊢
  have C6 := q3
  have D6 := q4
  clear q1 q2 q3 q4 hw hb9 zs1 zs2 ho1 hzz1 hzz2 hzz3 hzz4
  go_loopw [11] (fun i wr => (i = .int .i64 0 ∨ i = .int .i64 1 ∨ i = .int .i64 2) ∧ Hid (Below w6.heap.size w6 wr)) (fun i _ => 2 - (intOf i).toNat)
  case atStart => exact ⟨.inl rfl, Below.refl _ _⟩
  case round =>
    obtain ⟨hi, hc⟩ := hrel
    rcases hi with rfl | rfl | rfl
    · go_wp2_with fail
      refine region_rel_lit (.step (.step (.step (.step (.step (.step (.step (.step (.step (.step (.step (.step (.step (.step (.step (.step (.step (.step (.step (.step (.step (.step (.step (.step (.step (.step (.step (.step (.step (.step (.step (.step (.step (.step (.step (.step (.step (.step (.step (.step (.step (.step (.step (.base _)))))))))))))))))))))))))))))))))))))))))))) (fun i W v => match i with
        | 0 => v = .int .i64 0
        | 1 => v = .pointer (some ⟨b7, 0, none⟩)
        | 2 => v = .pointer (some ⟨b7, 0, none⟩)
        | 3 => v = .agg (bys P0)
        | 4 => v = .int .i64 0
        | 5 => v = .pointer (some ⟨b7 + 1, 0, none⟩)
        | 6 => v = .pointer (some ⟨b7 + 1, 0, none⟩)
        | 7 => v = .agg (bys P0)
        | 8 => v = .bool true
        | 9 => v = .bool false
        | 10 => v = .bool false
        | 11 => v = .int .i64 0
        | 12 => v = .pointer (some ⟨b7, 88, none⟩)
        | 13 => v = .pointer (some ⟨b7, 88, none⟩)
        | 14 => v = .agg (bys Q0)
        | 15 => v = .int .i64 0
        | 16 => v = .pointer (some ⟨b7 + 1, 88, none⟩)
        | 17 => v = .pointer (some ⟨b7 + 1, 88, none⟩)
        | 18 => v = .agg (bys Q0)
        | 19 => v = .bool true
        | 20 => v = .bool false
        | 21 => v = .bool false
        | 22 => v = .bool false
        | 23 => v = .int .i64 0
        | 24 => v = .pointer (some ⟨b7, 176, none⟩)
        | 25 => v = .pointer (some ⟨b7, 176, none⟩)
        | 26 => v = .slice (some ⟨x0, 0, none⟩) 32 32
        | 27 => v = .int .i64 0
        | 28 => v = .pointer (some ⟨b7 + 1, 176, none⟩)
        | 29 => v = .pointer (some ⟨b7 + 1, 176, none⟩)
        | 30 => v = .slice (some ⟨y0, o0, none⟩) n0 c0
        | 31 => v = .bool true
        | 32 => v = .bool false
        | 33 => v = .bool false
        | 34 => v = .bool false
        | 35 => v = .int .i64 0
        | 36 => v = .pointer (some ⟨b9, 0, none⟩)
        | 37 => v = .agg (bys A)
        | 38 => v = .int .i64 0
        | 39 => v = .pointer (some ⟨b9 + 1, 0, none⟩)
        | 40 => v = .agg (bys A)
        | 41 => v = .bool true
        | _ => v = .bool false) mixed (by kernel_rfl) (by kernel_rfl) ?_ ?_ ?_
      · rintro (_ | _ | _ | _ | _ | _ | _ | _ | _ | _ | _ | _ | _ | _ | _ | _ | _ | _ | _ | _ | _ | _ | _ | _ | _ | _ | _ | _ | _ | _ | _ | _ | _ | _ | _ | _ | _ | _ | _ | _ | _ | _ | i) W W' v h hb
        all_goals first | exact h | exact PartsAt.below h hb | exact NumsAt.below h hb | exact sl_below h hb | exact SlAt.below h hb | exact FarAt.below h hb | exact PtrAt.below h hb | exact blk_spec h hb | exact spec_below h hb
      · intro i oi hoi x w9 hb9 hd
        rcases i with _ | _ | _ | _ | _ | _ | _ | _ | _ | _ | _ | _ | _ | _ | _ | _ | _ | _ | _ | _ | _ | _ | _ | _ | _ | _ | _ | _ | _ | _ | _ | _ | _ | _ | _ | _ | _ | _ | _ | _ | _ | _ | _ | i
        · obtain rfl := Option.some.inj hoi
          simp only [fill, Act.put, List.setIfInBounds_toArray, List.set_cons_succ, List.set_cons_zero]
          go_wp2_with fail
          exact ⟨_, rfl, Below.refl _ _, rfl⟩
        · obtain rfl := Option.some.inj hoi
          simp only [fill, Act.put, List.setIfInBounds_toArray, List.set_cons_succ, List.set_cons_zero]
          go_wp2_with fail
          exact ⟨_, rfl, Below.refl _ _, rfl⟩
        · obtain rfl := Option.some.inj hoi
          have h0 : (x 0) = .int .i64 0 := hd 0 (by kernel_rfl)
          have h1 : (x 1) = .pointer (some ⟨b7, 0, none⟩) := hd 1 (by kernel_rfl)
          simp only [fill, Act.put, List.setIfInBounds_toArray, List.set_cons_succ, List.set_cons_zero, h0, h1]
          go_wp2_with fail
          exact ⟨_, rfl, Below.refl _ _, rfl⟩
        · obtain rfl := Option.some.inj hoi
          have h2 : (x 2) = .pointer (some ⟨b7, 0, none⟩) := hd 2 (by kernel_rfl)
          simp only [fill, Act.put, List.setIfInBounds_toArray, List.set_cons_succ, List.set_cons_zero, h2]
          have e1 := Lib.hid (mid_load P0 (set_p0 (below_cell (below_all hc.out hb9) A6.out)) Tryd.underlying55 rfl (by rw [P0l.out]; exact sz55))
          go_wp2_with (refine wpList_load_isG (by kernel_rfl) 55 _ rfl rfl e1.out ?_)
          exact ⟨_, rfl, Below.refl _ _, rfl⟩
        · obtain rfl := Option.some.inj hoi
          simp only [fill, Act.put, List.setIfInBounds_toArray, List.set_cons_succ, List.set_cons_zero]
          go_wp2_with fail
          exact ⟨_, rfl, Below.refl _ _, rfl⟩
        · obtain rfl := Option.some.inj hoi
          simp only [fill, Act.put, List.setIfInBounds_toArray, List.set_cons_succ, List.set_cons_zero]
          go_wp2_with fail
          exact ⟨_, rfl, Below.refl _ _, rfl⟩
        · obtain rfl := Option.some.inj hoi
          have h4 : (x 4) = .int .i64 0 := hd 4 (by kernel_rfl)
          have h5 : (x 5) = .pointer (some ⟨b7 + 1, 0, none⟩) := hd 5 (by kernel_rfl)
          simp only [fill, Act.put, List.setIfInBounds_toArray, List.set_cons_succ, List.set_cons_zero, h4, h5]
          go_wp2_with fail
          exact ⟨_, rfl, Below.refl _ _, rfl⟩
        · obtain rfl := Option.some.inj hoi
          have h6 : (x 6) = .pointer (some ⟨b7 + 1, 0, none⟩) := hd 6 (by kernel_rfl)
          simp only [fill, Act.put, List.setIfInBounds_toArray, List.set_cons_succ, List.set_cons_zero, h6]
          have e1 := Lib.hid (mid_load P0 (set_p0 (below_cell (below_all hc.out hb9) B6.out)) Tryd.underlying61 rfl (by rw [P0l.out]; exact sz61))
          go_wp2_with (refine wpList_load_isG (by kernel_rfl) 61 _ rfl rfl e1.out ?_)
          exact ⟨_, rfl, Below.refl _ _, rfl⟩
        · obtain rfl := Option.some.inj hoi
          have h3 : (x 3) = .agg (bys P0) := hd 3 (by kernel_rfl)
          have h7 : (x 7) = .agg (bys P0) := hd 7 (by kernel_rfl)
          simp only [fill, Act.put, List.setIfInBounds_toArray, List.set_cons_succ, List.set_cons_zero, h3, h7]
          go_wp2_with fail
          refine (samek_any P0 w9 P0l.out).mono ?_
          rintro ee w10 ⟨rfl, hb10⟩
          go_wp2_with fail
          exact ⟨_, rfl, hb10, rfl⟩
        · obtain rfl := Option.some.inj hoi
          have h8 : (x 8) = .bool true := hd 8 (by kernel_rfl)
          simp only [fill, Act.put, List.setIfInBounds_toArray, List.set_cons_succ, List.set_cons_zero, h8]
          go_wp2_with fail
          exact ⟨_, rfl, Below.refl _ _, rfl⟩
        · obtain rfl := Option.some.inj hoi
          have h9 : (x 9) = .bool false := hd 9 (by kernel_rfl)
          simp only [fill, Act.put, List.setIfInBounds_toArray, List.set_cons_succ, List.set_cons_zero, h9]
          go_wp2_with fail
          exact ⟨_, rfl, Below.refl _ _, rfl⟩
        · obtain rfl := Option.some.inj hoi
          have h10 : (x 10) = .bool false := hd 10 (by kernel_rfl)
          simp only [fill, Act.put, List.setIfInBounds_toArray, List.set_cons_succ, List.set_cons_zero, h10]
          go_wp2_with fail
          exact ⟨_, rfl, Below.refl _ _, rfl⟩
        · obtain rfl := Option.some.inj hoi
          have h10 : (x 10) = .bool false := hd 10 (by kernel_rfl)
          simp only [fill, Act.put, List.setIfInBounds_toArray, List.set_cons_succ, List.set_cons_zero, h10]
          go_wp2_with fail
          exact ⟨_, rfl, Below.refl _ _, rfl⟩
        · obtain rfl := Option.some.inj hoi
          have h10 : (x 10) = .bool false := hd 10 (by kernel_rfl)
          have h11 : (x 11) = .int .i64 0 := hd 11 (by kernel_rfl)
          have h12 : (x 12) = .pointer (some ⟨b7, 88, none⟩) := hd 12 (by kernel_rfl)
          simp only [fill, Act.put, List.setIfInBounds_toArray, List.set_cons_succ, List.set_cons_zero, h10, h11, h12]
          go_wp2_with fail
          exact ⟨_, rfl, Below.refl _ _, rfl⟩
        · obtain rfl := Option.some.inj hoi
          have h10 : (x 10) = .bool false := hd 10 (by kernel_rfl)
          have h13 : (x 13) = .pointer (some ⟨b7, 88, none⟩) := hd 13 (by kernel_rfl)
          simp only [fill, Act.put, List.setIfInBounds_toArray, List.set_cons_succ, List.set_cons_zero, h10, h13]
          have e1 := Lib.hid (mid_load Q0 (set_p2 (below_cell (below_all hc.out hb9) A6.out) P0l.out P1l.out) Tryd.underlying55 rfl (by rw [Q0l.out]; exact sz55))
          go_wp2_with (refine wpList_load_isG (by kernel_rfl) 55 _ rfl rfl e1.out ?_)
          exact ⟨_, rfl, Below.refl _ _, rfl⟩
        · obtain rfl := Option.some.inj hoi
          have h10 : (x 10) = .bool false := hd 10 (by kernel_rfl)
          simp only [fill, Act.put, List.setIfInBounds_toArray, List.set_cons_succ, List.set_cons_zero, h10]
          go_wp2_with fail
          exact ⟨_, rfl, Below.refl _ _, rfl⟩
        · obtain rfl := Option.some.inj hoi
          have h10 : (x 10) = .bool false := hd 10 (by kernel_rfl)
          simp only [fill, Act.put, List.setIfInBounds_toArray, List.set_cons_succ, List.set_cons_zero, h10]
          go_wp2_with fail
          exact ⟨_, rfl, Below.refl _ _, rfl⟩
        · obtain rfl := Option.some.inj hoi
          have h10 : (x 10) = .bool false := hd 10 (by kernel_rfl)
          have h15 : (x 15) = .int .i64 0 := hd 15 (by kernel_rfl)
          have h16 : (x 16) = .pointer (some ⟨b7 + 1, 88, none⟩) := hd 16 (by kernel_rfl)
          simp only [fill, Act.put, List.setIfInBounds_toArray, List.set_cons_succ, List.set_cons_zero, h10, h15, h16]
          go_wp2_with fail
          exact ⟨_, rfl, Below.refl _ _, rfl⟩
        · obtain rfl := Option.some.inj hoi
          have h10 : (x 10) = .bool false := hd 10 (by kernel_rfl)
          have h17 : (x 17) = .pointer (some ⟨b7 + 1, 88, none⟩) := hd 17 (by kernel_rfl)
          simp only [fill, Act.put, List.setIfInBounds_toArray, List.set_cons_succ, List.set_cons_zero, h10, h17]
          have e1 := Lib.hid (mid_load Q0 (set_p2 (below_cell (below_all hc.out hb9) B6.out) P0l.out P1l.out) Tryd.underlying61 rfl (by rw [Q0l.out]; exact sz61))
          go_wp2_with (refine wpList_load_isG (by kernel_rfl) 61 _ rfl rfl e1.out ?_)
          exact ⟨_, rfl, Below.refl _ _, rfl⟩
        · obtain rfl := Option.some.inj hoi
          have h10 : (x 10) = .bool false := hd 10 (by kernel_rfl)
          have h14 : (x 14) = .agg (bys Q0) := hd 14 (by kernel_rfl)
          have h18 : (x 18) = .agg (bys Q0) := hd 18 (by kernel_rfl)
          simp only [fill, Act.put, List.setIfInBounds_toArray, List.set_cons_succ, List.set_cons_zero, h10, h14, h18]
          go_wp2_with fail
          refine (samek_any Q0 w9 Q0l.out).mono ?_
          rintro ee w10 ⟨rfl, hb10⟩
          go_wp2_with fail
          exact ⟨_, rfl, hb10, rfl⟩
        · obtain rfl := Option.some.inj hoi
          have h10 : (x 10) = .bool false := hd 10 (by kernel_rfl)
          have h19 : (x 19) = .bool true := hd 19 (by kernel_rfl)
          simp only [fill, Act.put, List.setIfInBounds_toArray, List.set_cons_succ, List.set_cons_zero, h10, h19]
          go_wp2_with fail
          exact ⟨_, rfl, Below.refl _ _, rfl⟩
        · obtain rfl := Option.some.inj hoi
          have h10 : (x 10) = .bool false := hd 10 (by kernel_rfl)
          have h20 : (x 20) = .bool false := hd 20 (by kernel_rfl)
          simp only [fill, Act.put, List.setIfInBounds_toArray, List.set_cons_succ, List.set_cons_zero, h10, h20]
          go_wp2_with fail
          exact ⟨_, rfl, Below.refl _ _, rfl⟩
        · obtain rfl := Option.some.inj hoi
          have h21 : (x 21) = .bool false := hd 21 (by kernel_rfl)
          simp only [fill, Act.put, List.setIfInBounds_toArray, List.set_cons_succ, List.set_cons_zero, h21]
          go_wp2_with fail
          exact ⟨_, rfl, Below.refl _ _, rfl⟩
        · obtain rfl := Option.some.inj hoi
          have h22 : (x 22) = .bool false := hd 22 (by kernel_rfl)
          simp only [fill, Act.put, List.setIfInBounds_toArray, List.set_cons_succ, List.set_cons_zero, h22]
          go_wp2_with fail
          exact ⟨_, rfl, Below.refl _ _, rfl⟩
        · obtain rfl := Option.some.inj hoi
          have h22 : (x 22) = .bool false := hd 22 (by kernel_rfl)
          simp only [fill, Act.put, List.setIfInBounds_toArray, List.set_cons_succ, List.set_cons_zero, h22]
          go_wp2_with fail
          exact ⟨_, rfl, Below.refl _ _, rfl⟩
        · obtain rfl := Option.some.inj hoi
          have h22 : (x 22) = .bool false := hd 22 (by kernel_rfl)
          have h23 : (x 23) = .int .i64 0 := hd 23 (by kernel_rfl)
          have h24 : (x 24) = .pointer (some ⟨b7, 176, none⟩) := hd 24 (by kernel_rfl)
          simp only [fill, Act.put, List.setIfInBounds_toArray, List.set_cons_succ, List.set_cons_zero, h22, h23, h24]
          go_wp2_with fail
          exact ⟨_, rfl, Below.refl _ _, rfl⟩
        · obtain rfl := Option.some.inj hoi
          have h22 : (x 22) = .bool false := hd 22 (by kernel_rfl)
          have h25 : (x 25) = .pointer (some ⟨b7, 176, none⟩) := hd 25 (by kernel_rfl)
          simp only [fill, Act.put, List.setIfInBounds_toArray, List.set_cons_succ, List.set_cons_zero, h22, h25]
          have cc : w9.cell? ⟨b7, 176, none⟩ = some (.slice (some ⟨x0, 0, none⟩) 32 32) := ((below_cell (below_all hc.out hb9) A6.out).cell 176).trans (set_at0 P0l.out P1l.out Q0l.out Q1l.out)
          go_wp2_with fail
          exact ⟨_, rfl, Below.refl _ _, rfl⟩
        · obtain rfl := Option.some.inj hoi
          have h22 : (x 22) = .bool false := hd 22 (by kernel_rfl)
          simp only [fill, Act.put, List.setIfInBounds_toArray, List.set_cons_succ, List.set_cons_zero, h22]
          go_wp2_with fail
          exact ⟨_, rfl, Below.refl _ _, rfl⟩
        · obtain rfl := Option.some.inj hoi
          have h22 : (x 22) = .bool false := hd 22 (by kernel_rfl)
          simp only [fill, Act.put, List.setIfInBounds_toArray, List.set_cons_succ, List.set_cons_zero, h22]
          go_wp2_with fail
          exact ⟨_, rfl, Below.refl _ _, rfl⟩
        · obtain rfl := Option.some.inj hoi
          have h22 : (x 22) = .bool false := hd 22 (by kernel_rfl)
          have h27 : (x 27) = .int .i64 0 := hd 27 (by kernel_rfl)
          have h28 : (x 28) = .pointer (some ⟨b7 + 1, 176, none⟩) := hd 28 (by kernel_rfl)
          simp only [fill, Act.put, List.setIfInBounds_toArray, List.set_cons_succ, List.set_cons_zero, h22, h27, h28]
          go_wp2_with fail
          exact ⟨_, rfl, Below.refl _ _, rfl⟩
        · obtain rfl := Option.some.inj hoi
          have h22 : (x 22) = .bool false := hd 22 (by kernel_rfl)
          have h29 : (x 29) = .pointer (some ⟨b7 + 1, 176, none⟩) := hd 29 (by kernel_rfl)
          simp only [fill, Act.put, List.setIfInBounds_toArray, List.set_cons_succ, List.set_cons_zero, h22, h29]
          have cc : w9.cell? ⟨b7 + 1, 176, none⟩ = some (.slice (some ⟨y0, o0, none⟩) n0 c0) := ((below_cell (below_all hc.out hb9) B6.out).cell 176).trans (set_at0 P0l.out P1l.out Q0l.out Q1l.out)
          go_wp2_with fail
          exact ⟨_, rfl, Below.refl _ _, rfl⟩
        · obtain rfl := Option.some.inj hoi
          have h22 : (x 22) = .bool false := hd 22 (by kernel_rfl)
          have h26 : (x 26) = .slice (some ⟨x0, 0, none⟩) 32 32 := hd 26 (by kernel_rfl)
          have h30 : (x 30) = .slice (some ⟨y0, o0, none⟩) n0 c0 := hd 30 (by kernel_rfl)
          simp only [fill, Act.put, List.setIfInBounds_toArray, List.set_cons_succ, List.set_cons_zero, h22, h26, h30]
          have hs := Lib.hid (show (F0 == F0) = true by simp)
          go_wp2_with fail
          refine (same_is _ _ F0 F0 true w9 ((s6.out.below (below_all hc.out hb9)).nums (by rw [F0l.out]; omega)) (p6.out.below (below_all hc.out hb9)).nums hs.out).mono ?_
          rintro ee w10 ⟨rfl, hb10⟩
          go_wp2_with fail
          exact ⟨_, rfl, hb10, rfl⟩
        · obtain rfl := Option.some.inj hoi
          have h22 : (x 22) = .bool false := hd 22 (by kernel_rfl)
          have h31 : (x 31) = .bool true := hd 31 (by kernel_rfl)
          simp only [fill, Act.put, List.setIfInBounds_toArray, List.set_cons_succ, List.set_cons_zero, h22, h31]
          go_wp2_with fail
          exact ⟨_, rfl, Below.refl _ _, rfl⟩
        · obtain rfl := Option.some.inj hoi
          have h22 : (x 22) = .bool false := hd 22 (by kernel_rfl)
          have h32 : (x 32) = .bool false := hd 32 (by kernel_rfl)
          simp only [fill, Act.put, List.setIfInBounds_toArray, List.set_cons_succ, List.set_cons_zero, h22, h32]
          go_wp2_with fail
          exact ⟨_, rfl, Below.refl _ _, rfl⟩
        · obtain rfl := Option.some.inj hoi
          have h33 : (x 33) = .bool false := hd 33 (by kernel_rfl)
          simp only [fill, Act.put, List.setIfInBounds_toArray, List.set_cons_succ, List.set_cons_zero, h33]
          go_wp2_with fail
          exact ⟨_, rfl, Below.refl _ _, rfl⟩
        · obtain rfl := Option.some.inj hoi
          have h34 : (x 34) = .bool false := hd 34 (by kernel_rfl)
          simp only [fill, Act.put, List.setIfInBounds_toArray, List.set_cons_succ, List.set_cons_zero, h34]
          go_wp2_with fail
          exact ⟨_, rfl, Below.refl _ _, rfl⟩
        · obtain rfl := Option.some.inj hoi
          have h34 : (x 34) = .bool false := hd 34 (by kernel_rfl)
          have h35 : (x 35) = .int .i64 0 := hd 35 (by kernel_rfl)
          simp only [fill, Act.put, List.setIfInBounds_toArray, List.set_cons_succ, List.set_cons_zero, h34, h35]
          go_wp2_with fail
          exact ⟨_, rfl, Below.refl _ _, rfl⟩
        · obtain rfl := Option.some.inj hoi
          have h34 : (x 34) = .bool false := hd 34 (by kernel_rfl)
          have h36 : (x 36) = .pointer (some ⟨b9, 0, none⟩) := hd 36 (by kernel_rfl)
          simp only [fill, Act.put, List.setIfInBounds_toArray, List.set_cons_succ, List.set_cons_zero, h34, h36]
          have e1 := Lib.hid (mid_load A (Blk.part (A := []) (B := A.map (Value.int .u8)) (C := B.map (Value.int .u8)) (by simpa [bys, hfl'.out] using (below_cell (below_all hc.out hb9) C6.out)) 0 rfl) Tryd.underlying55 rfl (by rw [lA.out]; exact sz55))
          go_wp2_with (refine wpList_load_isG (by kernel_rfl) 55 _ rfl rfl e1.out ?_)
          exact ⟨_, rfl, Below.refl _ _, rfl⟩
        · obtain rfl := Option.some.inj hoi
          have h34 : (x 34) = .bool false := hd 34 (by kernel_rfl)
          simp only [fill, Act.put, List.setIfInBounds_toArray, List.set_cons_succ, List.set_cons_zero, h34]
          go_wp2_with fail
          exact ⟨_, rfl, Below.refl _ _, rfl⟩
        · obtain rfl := Option.some.inj hoi
          have h34 : (x 34) = .bool false := hd 34 (by kernel_rfl)
          have h38 : (x 38) = .int .i64 0 := hd 38 (by kernel_rfl)
          simp only [fill, Act.put, List.setIfInBounds_toArray, List.set_cons_succ, List.set_cons_zero, h34, h38]
          go_wp2_with fail
          exact ⟨_, rfl, Below.refl _ _, rfl⟩
        · obtain rfl := Option.some.inj hoi
          have h34 : (x 34) = .bool false := hd 34 (by kernel_rfl)
          have h39 : (x 39) = .pointer (some ⟨b9 + 1, 0, none⟩) := hd 39 (by kernel_rfl)
          simp only [fill, Act.put, List.setIfInBounds_toArray, List.set_cons_succ, List.set_cons_zero, h34, h39]
          have e1 := Lib.hid (mid_load A (Blk.part (A := []) (B := A.map (Value.int .u8)) (C := B.map (Value.int .u8)) (by simpa [bys, hfl'.out] using (below_cell (below_all hc.out hb9) D6.out)) 0 rfl) Tryd.underlying61 rfl (by rw [lA.out]; exact sz61))
          go_wp2_with (refine wpList_load_isG (by kernel_rfl) 61 _ rfl rfl e1.out ?_)
          exact ⟨_, rfl, Below.refl _ _, rfl⟩
        · obtain rfl := Option.some.inj hoi
          have h34 : (x 34) = .bool false := hd 34 (by kernel_rfl)
          have h37 : (x 37) = .agg (bys A) := hd 37 (by kernel_rfl)
          have h40 : (x 40) = .agg (bys A) := hd 40 (by kernel_rfl)
          simp only [fill, Act.put, List.setIfInBounds_toArray, List.set_cons_succ, List.set_cons_zero, h34, h37, h40]
          go_wp2_with fail
          refine (samek_any A w9 lA.out).mono ?_
          rintro ee w10 ⟨rfl, hb10⟩
          go_wp2_with fail
          exact ⟨_, rfl, hb10, rfl⟩
        · obtain rfl := Option.some.inj hoi
          have h34 : (x 34) = .bool false := hd 34 (by kernel_rfl)
          have h41 : (x 41) = .bool true := hd 41 (by kernel_rfl)
          simp only [fill, Act.put, List.setIfInBounds_toArray, List.set_cons_succ, List.set_cons_zero, h34, h41]
          go_wp2_with fail
          exact ⟨_, rfl, Below.refl _ _, rfl⟩
        · cases hoi
      · intro x w9 hb9 hd
        have h34 : (x 34) = .bool false := hd 34 (by decide)
        have h42 : (x 42) = .bool false := hd 42 (by decide)
        simp only [fill, Act.put, List.setIfInBounds_toArray, List.set_cons_succ, List.set_cons_zero, h34, h42]
        have hc2 := Lib.hid (below_all hc.out hb9)
        clear hd h34 h42 hb9 hc
        generalize w9 = w8 at hc2 ⊢
        go_wp2_with fail
        go_roundw
        case rel => exact ⟨.inr (.inl rfl), hc2.out⟩
        case measure => simp [intOf]
    · go_wp2_with fail
      refine region_rel_lit (.step (.step (.step (.step (.step (.step (.step (.step (.step (.step (.step (.step (.step (.step (.step (.step (.step (.step (.step (.step (.step (.step (.step (.step (.step (.step (.step (.step (.step (.step (.step (.step (.step (.step (.step (.step (.step (.step (.step (.step (.step (.step (.step (.base _)))))))))))))))))))))))))))))))))))))))))))) (fun i W v => match i with
        | 0 => v = .int .i64 1
        | 1 => v = .pointer (some ⟨b7, 0, none⟩)
        | 2 => v = .pointer (some ⟨b7, 44, none⟩)
        | 3 => v = .agg (bys P1)
        | 4 => v = .int .i64 1
        | 5 => v = .pointer (some ⟨b7 + 1, 0, none⟩)
        | 6 => v = .pointer (some ⟨b7 + 1, 44, none⟩)
        | 7 => v = .agg (bys P1)
        | 8 => v = .bool true
        | 9 => v = .bool false
        | 10 => v = .bool false
        | 11 => v = .int .i64 1
        | 12 => v = .pointer (some ⟨b7, 88, none⟩)
        | 13 => v = .pointer (some ⟨b7, 132, none⟩)
        | 14 => v = .agg (bys Q1)
        | 15 => v = .int .i64 1
        | 16 => v = .pointer (some ⟨b7 + 1, 88, none⟩)
        | 17 => v = .pointer (some ⟨b7 + 1, 132, none⟩)
        | 18 => v = .agg (bys Q1)
        | 19 => v = .bool true
        | 20 => v = .bool false
        | 21 => v = .bool false
        | 22 => v = .bool false
        | 23 => v = .int .i64 1
        | 24 => v = .pointer (some ⟨b7, 176, none⟩)
        | 25 => v = .pointer (some ⟨b7, 177, none⟩)
        | 26 => v = .slice (some ⟨x1, 0, none⟩) 32 32
        | 27 => v = .int .i64 1
        | 28 => v = .pointer (some ⟨b7 + 1, 176, none⟩)
        | 29 => v = .pointer (some ⟨b7 + 1, 177, none⟩)
        | 30 => v = .slice (some ⟨y1, o1, none⟩) n1 c1
        | 31 => v = .bool true
        | 32 => v = .bool false
        | 33 => v = .bool false
        | 34 => v = .bool false
        | 35 => v = .int .i64 1
        | 36 => v = .pointer (some ⟨b9, 44, none⟩)
        | 37 => v = .agg (bys B)
        | 38 => v = .int .i64 1
        | 39 => v = .pointer (some ⟨b9 + 1, 44, none⟩)
        | 40 => v = .agg (bys B)
        | 41 => v = .bool true
        | _ => v = .bool false) mixed (by kernel_rfl) (by kernel_rfl) ?_ ?_ ?_
      · rintro (_ | _ | _ | _ | _ | _ | _ | _ | _ | _ | _ | _ | _ | _ | _ | _ | _ | _ | _ | _ | _ | _ | _ | _ | _ | _ | _ | _ | _ | _ | _ | _ | _ | _ | _ | _ | _ | _ | _ | _ | _ | _ | i) W W' v h hb
        all_goals first | exact h | exact PartsAt.below h hb | exact NumsAt.below h hb | exact sl_below h hb | exact SlAt.below h hb | exact FarAt.below h hb | exact PtrAt.below h hb | exact blk_spec h hb | exact spec_below h hb
      · intro i oi hoi x w9 hb9 hd
        rcases i with _ | _ | _ | _ | _ | _ | _ | _ | _ | _ | _ | _ | _ | _ | _ | _ | _ | _ | _ | _ | _ | _ | _ | _ | _ | _ | _ | _ | _ | _ | _ | _ | _ | _ | _ | _ | _ | _ | _ | _ | _ | _ | _ | i
        · obtain rfl := Option.some.inj hoi
          simp only [fill, Act.put, List.setIfInBounds_toArray, List.set_cons_succ, List.set_cons_zero]
          go_wp2_with fail
          exact ⟨_, rfl, Below.refl _ _, rfl⟩
        · obtain rfl := Option.some.inj hoi
          simp only [fill, Act.put, List.setIfInBounds_toArray, List.set_cons_succ, List.set_cons_zero]
          go_wp2_with fail
          exact ⟨_, rfl, Below.refl _ _, rfl⟩
        · obtain rfl := Option.some.inj hoi
          have h0 : (x 0) = .int .i64 1 := hd 0 (by kernel_rfl)
          have h1 : (x 1) = .pointer (some ⟨b7, 0, none⟩) := hd 1 (by kernel_rfl)
          simp only [fill, Act.put, List.setIfInBounds_toArray, List.set_cons_succ, List.set_cons_zero, h0, h1]
          go_wp2_with fail
          exact ⟨_, rfl, Below.refl _ _, rfl⟩
        · obtain rfl := Option.some.inj hoi
          have h2 : (x 2) = .pointer (some ⟨b7, 44, none⟩) := hd 2 (by kernel_rfl)
          simp only [fill, Act.put, List.setIfInBounds_toArray, List.set_cons_succ, List.set_cons_zero, h2]
          have e1 := Lib.hid (mid_load P1 (set_p1 (below_cell (below_all hc.out hb9) A6.out) P0l.out) Tryd.underlying55 rfl (by rw [P1l.out]; exact sz55))
          go_wp2_with (refine wpList_load_isG (by kernel_rfl) 55 _ rfl rfl e1.out ?_)
          exact ⟨_, rfl, Below.refl _ _, rfl⟩
        · obtain rfl := Option.some.inj hoi
          simp only [fill, Act.put, List.setIfInBounds_toArray, List.set_cons_succ, List.set_cons_zero]
          go_wp2_with fail
          exact ⟨_, rfl, Below.refl _ _, rfl⟩
        · obtain rfl := Option.some.inj hoi
          simp only [fill, Act.put, List.setIfInBounds_toArray, List.set_cons_succ, List.set_cons_zero]
          go_wp2_with fail
          exact ⟨_, rfl, Below.refl _ _, rfl⟩
        · obtain rfl := Option.some.inj hoi
          have h4 : (x 4) = .int .i64 1 := hd 4 (by kernel_rfl)
          have h5 : (x 5) = .pointer (some ⟨b7 + 1, 0, none⟩) := hd 5 (by kernel_rfl)
          simp only [fill, Act.put, List.setIfInBounds_toArray, List.set_cons_succ, List.set_cons_zero, h4, h5]
          go_wp2_with fail
          exact ⟨_, rfl, Below.refl _ _, rfl⟩
        · obtain rfl := Option.some.inj hoi
          have h6 : (x 6) = .pointer (some ⟨b7 + 1, 44, none⟩) := hd 6 (by kernel_rfl)
          simp only [fill, Act.put, List.setIfInBounds_toArray, List.set_cons_succ, List.set_cons_zero, h6]
          have e1 := Lib.hid (mid_load P1 (set_p1 (below_cell (below_all hc.out hb9) B6.out) P0l.out) Tryd.underlying61 rfl (by rw [P1l.out]; exact sz61))
          go_wp2_with (refine wpList_load_isG (by kernel_rfl) 61 _ rfl rfl e1.out ?_)
          exact ⟨_, rfl, Below.refl _ _, rfl⟩
        · obtain rfl := Option.some.inj hoi
          have h3 : (x 3) = .agg (bys P1) := hd 3 (by kernel_rfl)
          have h7 : (x 7) = .agg (bys P1) := hd 7 (by kernel_rfl)
          simp only [fill, Act.put, List.setIfInBounds_toArray, List.set_cons_succ, List.set_cons_zero, h3, h7]
          go_wp2_with fail
          refine (samek_any P1 w9 P1l.out).mono ?_
          rintro ee w10 ⟨rfl, hb10⟩
          go_wp2_with fail
          exact ⟨_, rfl, hb10, rfl⟩
        · obtain rfl := Option.some.inj hoi
          have h8 : (x 8) = .bool true := hd 8 (by kernel_rfl)
          simp only [fill, Act.put, List.setIfInBounds_toArray, List.set_cons_succ, List.set_cons_zero, h8]
          go_wp2_with fail
          exact ⟨_, rfl, Below.refl _ _, rfl⟩
        · obtain rfl := Option.some.inj hoi
          have h9 : (x 9) = .bool false := hd 9 (by kernel_rfl)
          simp only [fill, Act.put, List.setIfInBounds_toArray, List.set_cons_succ, List.set_cons_zero, h9]
          go_wp2_with fail
          exact ⟨_, rfl, Below.refl _ _, rfl⟩
        · obtain rfl := Option.some.inj hoi
          have h10 : (x 10) = .bool false := hd 10 (by kernel_rfl)
          simp only [fill, Act.put, List.setIfInBounds_toArray, List.set_cons_succ, List.set_cons_zero, h10]
          go_wp2_with fail
          exact ⟨_, rfl, Below.refl _ _, rfl⟩
        · obtain rfl := Option.some.inj hoi
          have h10 : (x 10) = .bool false := hd 10 (by kernel_rfl)
          simp only [fill, Act.put, List.setIfInBounds_toArray, List.set_cons_succ, List.set_cons_zero, h10]
          go_wp2_with fail
          exact ⟨_, rfl, Below.refl _ _, rfl⟩
        · obtain rfl := Option.some.inj hoi
          have h10 : (x 10) = .bool false := hd 10 (by kernel_rfl)
          have h11 : (x 11) = .int .i64 1 := hd 11 (by kernel_rfl)
          have h12 : (x 12) = .pointer (some ⟨b7, 88, none⟩) := hd 12 (by kernel_rfl)
          simp only [fill, Act.put, List.setIfInBounds_toArray, List.set_cons_succ, List.set_cons_zero, h10, h11, h12]
          go_wp2_with fail
          exact ⟨_, rfl, Below.refl _ _, rfl⟩
        · obtain rfl := Option.some.inj hoi
          have h10 : (x 10) = .bool false := hd 10 (by kernel_rfl)
          have h13 : (x 13) = .pointer (some ⟨b7, 132, none⟩) := hd 13 (by kernel_rfl)
          simp only [fill, Act.put, List.setIfInBounds_toArray, List.set_cons_succ, List.set_cons_zero, h10, h13]
          have e1 := Lib.hid (mid_load Q1 (set_p3 (below_cell (below_all hc.out hb9) A6.out) P0l.out P1l.out Q0l.out) Tryd.underlying55 rfl (by rw [Q1l.out]; exact sz55))
          go_wp2_with (refine wpList_load_isG (by kernel_rfl) 55 _ rfl rfl e1.out ?_)
          exact ⟨_, rfl, Below.refl _ _, rfl⟩
        · obtain rfl := Option.some.inj hoi
          have h10 : (x 10) = .bool false := hd 10 (by kernel_rfl)
          simp only [fill, Act.put, List.setIfInBounds_toArray, List.set_cons_succ, List.set_cons_zero, h10]
          go_wp2_with fail
          exact ⟨_, rfl, Below.refl _ _, rfl⟩
        · obtain rfl := Option.some.inj hoi
          have h10 : (x 10) = .bool false := hd 10 (by kernel_rfl)
          simp only [fill, Act.put, List.setIfInBounds_toArray, List.set_cons_succ, List.set_cons_zero, h10]
          go_wp2_with fail
          exact ⟨_, rfl, Below.refl _ _, rfl⟩
        · obtain rfl := Option.some.inj hoi
          have h10 : (x 10) = .bool false := hd 10 (by kernel_rfl)
          have h15 : (x 15) = .int .i64 1 := hd 15 (by kernel_rfl)
          have h16 : (x 16) = .pointer (some ⟨b7 + 1, 88, none⟩) := hd 16 (by kernel_rfl)
          simp only [fill, Act.put, List.setIfInBounds_toArray, List.set_cons_succ, List.set_cons_zero, h10, h15, h16]
          go_wp2_with fail
          exact ⟨_, rfl, Below.refl _ _, rfl⟩
        · obtain rfl := Option.some.inj hoi
          have h10 : (x 10) = .bool false := hd 10 (by kernel_rfl)
          have h17 : (x 17) = .pointer (some ⟨b7 + 1, 132, none⟩) := hd 17 (by kernel_rfl)
          simp only [fill, Act.put, List.setIfInBounds_toArray, List.set_cons_succ, List.set_cons_zero, h10, h17]
          have e1 := Lib.hid (mid_load Q1 (set_p3 (below_cell (below_all hc.out hb9) B6.out) P0l.out P1l.out Q0l.out) Tryd.underlying61 rfl (by rw [Q1l.out]; exact sz61))
          go_wp2_with (refine wpList_load_isG (by kernel_rfl) 61 _ rfl rfl e1.out ?_)
          exact ⟨_, rfl, Below.refl _ _, rfl⟩
        · obtain rfl := Option.some.inj hoi
          have h10 : (x 10) = .bool false := hd 10 (by kernel_rfl)
          have h14 : (x 14) = .agg (bys Q1) := hd 14 (by kernel_rfl)
          have h18 : (x 18) = .agg (bys Q1) := hd 18 (by kernel_rfl)
          simp only [fill, Act.put, List.setIfInBounds_toArray, List.set_cons_succ, List.set_cons_zero, h10, h14, h18]
          go_wp2_with fail
          refine (samek_any Q1 w9 Q1l.out).mono ?_
          rintro ee w10 ⟨rfl, hb10⟩
          go_wp2_with fail
          exact ⟨_, rfl, hb10, rfl⟩
        · obtain rfl := Option.some.inj hoi
          have h10 : (x 10) = .bool false := hd 10 (by kernel_rfl)
          have h19 : (x 19) = .bool true := hd 19 (by kernel_rfl)
          simp only [fill, Act.put, List.setIfInBounds_toArray, List.set_cons_succ, List.set_cons_zero, h10, h19]
          go_wp2_with fail
          exact ⟨_, rfl, Below.refl _ _, rfl⟩
        · obtain rfl := Option.some.inj hoi
          have h10 : (x 10) = .bool false := hd 10 (by kernel_rfl)
          have h20 : (x 20) = .bool false := hd 20 (by kernel_rfl)
          simp only [fill, Act.put, List.setIfInBounds_toArray, List.set_cons_succ, List.set_cons_zero, h10, h20]
          go_wp2_with fail
          exact ⟨_, rfl, Below.refl _ _, rfl⟩
        · obtain rfl := Option.some.inj hoi
          have h21 : (x 21) = .bool false := hd 21 (by kernel_rfl)
          simp only [fill, Act.put, List.setIfInBounds_toArray, List.set_cons_succ, List.set_cons_zero, h21]
          go_wp2_with fail
          exact ⟨_, rfl, Below.refl _ _, rfl⟩
        · obtain rfl := Option.some.inj hoi
          have h22 : (x 22) = .bool false := hd 22 (by kernel_rfl)
          simp only [fill, Act.put, List.setIfInBounds_toArray, List.set_cons_succ, List.set_cons_zero, h22]
          go_wp2_with fail
          exact ⟨_, rfl, Below.refl _ _, rfl⟩
        · obtain rfl := Option.some.inj hoi
          have h22 : (x 22) = .bool false := hd 22 (by kernel_rfl)
          simp only [fill, Act.put, List.setIfInBounds_toArray, List.set_cons_succ, List.set_cons_zero, h22]
          go_wp2_with fail
          exact ⟨_, rfl, Below.refl _ _, rfl⟩
        · obtain rfl := Option.some.inj hoi
          have h22 : (x 22) = .bool false := hd 22 (by kernel_rfl)
          have h23 : (x 23) = .int .i64 1 := hd 23 (by kernel_rfl)
          have h24 : (x 24) = .pointer (some ⟨b7, 176, none⟩) := hd 24 (by kernel_rfl)
          simp only [fill, Act.put, List.setIfInBounds_toArray, List.set_cons_succ, List.set_cons_zero, h22, h23, h24]
          go_wp2_with fail
          exact ⟨_, rfl, Below.refl _ _, rfl⟩
        · obtain rfl := Option.some.inj hoi
          have h22 : (x 22) = .bool false := hd 22 (by kernel_rfl)
          have h25 : (x 25) = .pointer (some ⟨b7, 177, none⟩) := hd 25 (by kernel_rfl)
          simp only [fill, Act.put, List.setIfInBounds_toArray, List.set_cons_succ, List.set_cons_zero, h22, h25]
          have cc : w9.cell? ⟨b7, 177, none⟩ = some (.slice (some ⟨x1, 0, none⟩) 32 32) := ((below_cell (below_all hc.out hb9) A6.out).cell 177).trans (set_at1 P0l.out P1l.out Q0l.out Q1l.out)
          go_wp2_with fail
          exact ⟨_, rfl, Below.refl _ _, rfl⟩
        · obtain rfl := Option.some.inj hoi
          have h22 : (x 22) = .bool false := hd 22 (by kernel_rfl)
          simp only [fill, Act.put, List.setIfInBounds_toArray, List.set_cons_succ, List.set_cons_zero, h22]
          go_wp2_with fail
          exact ⟨_, rfl, Below.refl _ _, rfl⟩
        · obtain rfl := Option.some.inj hoi
          have h22 : (x 22) = .bool false := hd 22 (by kernel_rfl)
          simp only [fill, Act.put, List.setIfInBounds_toArray, List.set_cons_succ, List.set_cons_zero, h22]
          go_wp2_with fail
          exact ⟨_, rfl, Below.refl _ _, rfl⟩
        · obtain rfl := Option.some.inj hoi
          have h22 : (x 22) = .bool false := hd 22 (by kernel_rfl)
          have h27 : (x 27) = .int .i64 1 := hd 27 (by kernel_rfl)
          have h28 : (x 28) = .pointer (some ⟨b7 + 1, 176, none⟩) := hd 28 (by kernel_rfl)
          simp only [fill, Act.put, List.setIfInBounds_toArray, List.set_cons_succ, List.set_cons_zero, h22, h27, h28]
          go_wp2_with fail
          exact ⟨_, rfl, Below.refl _ _, rfl⟩
        · obtain rfl := Option.some.inj hoi
          have h22 : (x 22) = .bool false := hd 22 (by kernel_rfl)
          have h29 : (x 29) = .pointer (some ⟨b7 + 1, 177, none⟩) := hd 29 (by kernel_rfl)
          simp only [fill, Act.put, List.setIfInBounds_toArray, List.set_cons_succ, List.set_cons_zero, h22, h29]
          have cc : w9.cell? ⟨b7 + 1, 177, none⟩ = some (.slice (some ⟨y1, o1, none⟩) n1 c1) := ((below_cell (below_all hc.out hb9) B6.out).cell 177).trans (set_at1 P0l.out P1l.out Q0l.out Q1l.out)
          go_wp2_with fail
          exact ⟨_, rfl, Below.refl _ _, rfl⟩
        · obtain rfl := Option.some.inj hoi
          have h22 : (x 22) = .bool false := hd 22 (by kernel_rfl)
          have h26 : (x 26) = .slice (some ⟨x1, 0, none⟩) 32 32 := hd 26 (by kernel_rfl)
          have h30 : (x 30) = .slice (some ⟨y1, o1, none⟩) n1 c1 := hd 30 (by kernel_rfl)
          simp only [fill, Act.put, List.setIfInBounds_toArray, List.set_cons_succ, List.set_cons_zero, h22, h26, h30]
          have hs := Lib.hid (show (F1 == F1) = true by simp)
          go_wp2_with fail
          refine (same_is _ _ F1 F1 true w9 ((t6.out.below (below_all hc.out hb9)).nums (by rw [F1l.out]; omega)) (r6.out.below (below_all hc.out hb9)).nums hs.out).mono ?_
          rintro ee w10 ⟨rfl, hb10⟩
          go_wp2_with fail
          exact ⟨_, rfl, hb10, rfl⟩
        · obtain rfl := Option.some.inj hoi
          have h22 : (x 22) = .bool false := hd 22 (by kernel_rfl)
          have h31 : (x 31) = .bool true := hd 31 (by kernel_rfl)
          simp only [fill, Act.put, List.setIfInBounds_toArray, List.set_cons_succ, List.set_cons_zero, h22, h31]
          go_wp2_with fail
          exact ⟨_, rfl, Below.refl _ _, rfl⟩
        · obtain rfl := Option.some.inj hoi
          have h22 : (x 22) = .bool false := hd 22 (by kernel_rfl)
          have h32 : (x 32) = .bool false := hd 32 (by kernel_rfl)
          simp only [fill, Act.put, List.setIfInBounds_toArray, List.set_cons_succ, List.set_cons_zero, h22, h32]
          go_wp2_with fail
          exact ⟨_, rfl, Below.refl _ _, rfl⟩
        · obtain rfl := Option.some.inj hoi
          have h33 : (x 33) = .bool false := hd 33 (by kernel_rfl)
          simp only [fill, Act.put, List.setIfInBounds_toArray, List.set_cons_succ, List.set_cons_zero, h33]
          go_wp2_with fail
          exact ⟨_, rfl, Below.refl _ _, rfl⟩
        · obtain rfl := Option.some.inj hoi
          have h34 : (x 34) = .bool false := hd 34 (by kernel_rfl)
          simp only [fill, Act.put, List.setIfInBounds_toArray, List.set_cons_succ, List.set_cons_zero, h34]
          go_wp2_with fail
          exact ⟨_, rfl, Below.refl _ _, rfl⟩
        · obtain rfl := Option.some.inj hoi
          have h34 : (x 34) = .bool false := hd 34 (by kernel_rfl)
          have h35 : (x 35) = .int .i64 1 := hd 35 (by kernel_rfl)
          simp only [fill, Act.put, List.setIfInBounds_toArray, List.set_cons_succ, List.set_cons_zero, h34, h35]
          go_wp2_with fail
          exact ⟨_, rfl, Below.refl _ _, rfl⟩
        · obtain rfl := Option.some.inj hoi
          have h34 : (x 34) = .bool false := hd 34 (by kernel_rfl)
          have h36 : (x 36) = .pointer (some ⟨b9, 44, none⟩) := hd 36 (by kernel_rfl)
          simp only [fill, Act.put, List.setIfInBounds_toArray, List.set_cons_succ, List.set_cons_zero, h34, h36]
          have e1 := Lib.hid (mid_load B (Blk.part (A := A.map (Value.int .u8)) (B := B.map (Value.int .u8)) (C := []) (by simpa [bys, hfl'.out] using (below_cell (below_all hc.out hb9) C6.out)) 44 (by simp [lA.out])) Tryd.underlying55 rfl (by rw [lB.out]; exact sz55))
          go_wp2_with (refine wpList_load_isG (by kernel_rfl) 55 _ rfl rfl e1.out ?_)
          exact ⟨_, rfl, Below.refl _ _, rfl⟩
        · obtain rfl := Option.some.inj hoi
          have h34 : (x 34) = .bool false := hd 34 (by kernel_rfl)
          simp only [fill, Act.put, List.setIfInBounds_toArray, List.set_cons_succ, List.set_cons_zero, h34]
          go_wp2_with fail
          exact ⟨_, rfl, Below.refl _ _, rfl⟩
        · obtain rfl := Option.some.inj hoi
          have h34 : (x 34) = .bool false := hd 34 (by kernel_rfl)
          have h38 : (x 38) = .int .i64 1 := hd 38 (by kernel_rfl)
          simp only [fill, Act.put, List.setIfInBounds_toArray, List.set_cons_succ, List.set_cons_zero, h34, h38]
          go_wp2_with fail
          exact ⟨_, rfl, Below.refl _ _, rfl⟩
        · obtain rfl := Option.some.inj hoi
          have h34 : (x 34) = .bool false := hd 34 (by kernel_rfl)
          have h39 : (x 39) = .pointer (some ⟨b9 + 1, 44, none⟩) := hd 39 (by kernel_rfl)
          simp only [fill, Act.put, List.setIfInBounds_toArray, List.set_cons_succ, List.set_cons_zero, h34, h39]
          have e1 := Lib.hid (mid_load B (Blk.part (A := A.map (Value.int .u8)) (B := B.map (Value.int .u8)) (C := []) (by simpa [bys, hfl'.out] using (below_cell (below_all hc.out hb9) D6.out)) 44 (by simp [lA.out])) Tryd.underlying61 rfl (by rw [lB.out]; exact sz61))
          go_wp2_with (refine wpList_load_isG (by kernel_rfl) 61 _ rfl rfl e1.out ?_)
          exact ⟨_, rfl, Below.refl _ _, rfl⟩
        · obtain rfl := Option.some.inj hoi
          have h34 : (x 34) = .bool false := hd 34 (by kernel_rfl)
          have h37 : (x 37) = .agg (bys B) := hd 37 (by kernel_rfl)
          have h40 : (x 40) = .agg (bys B) := hd 40 (by kernel_rfl)
          simp only [fill, Act.put, List.setIfInBounds_toArray, List.set_cons_succ, List.set_cons_zero, h34, h37, h40]
          go_wp2_with fail
          refine (samek_any B w9 lB.out).mono ?_
          rintro ee w10 ⟨rfl, hb10⟩
          go_wp2_with fail
          exact ⟨_, rfl, hb10, rfl⟩
        · obtain rfl := Option.some.inj hoi
          have h34 : (x 34) = .bool false := hd 34 (by kernel_rfl)
          have h41 : (x 41) = .bool true := hd 41 (by kernel_rfl)
          simp only [fill, Act.put, List.setIfInBounds_toArray, List.set_cons_succ, List.set_cons_zero, h34, h41]
          go_wp2_with fail
          exact ⟨_, rfl, Below.refl _ _, rfl⟩
        · cases hoi
      · intro x w9 hb9 hd
        have h34 : (x 34) = .bool false := hd 34 (by decide)
        have h42 : (x 42) = .bool false := hd 42 (by decide)
        simp only [fill, Act.put, List.setIfInBounds_toArray, List.set_cons_succ, List.set_cons_zero, h34, h42]
        have hc2 := Lib.hid (below_all hc.out hb9)
        clear hd h34 h42 hb9 hc
        generalize w9 = w8 at hc2 ⊢
        go_wp2_with fail
        go_roundw
        case rel => exact ⟨.inr (.inr rfl), hc2.out⟩
        case measure => simp [intOf]
    · have cc : wr.cell? ⟨b7, 176, none⟩ = some (.slice (some ⟨x0, 0, none⟩) 32 32) := ((below_cell hc.out A6.out).cell 176).trans (set_at0 P0l.out P1l.out Q0l.out Q1l.out)
      have cut := Lib.hid (s6.out.below hc.out)
      have b7w := Lib.hid (below_all b6.out hc.out)
      clear s6 t6 p6 r6 A6 B6 C6 D6 hc b6
      go_wp2_with fail
      clear cc
      refine (over_any _ F0 w.heap.size wr cut.out (by rw [F0l.out]; omega) (by rw [F0l.out]; omega) b7w.out.size).mono ?_
      rintro ee w11 ⟨uu, rfl, d11⟩
      have b11 := Lib.hid (b7w.out.trans d11)
      clear b7w d11 cut
      obtain ⟨pk, hpk⟩ := name_it (packetL psk)
      have lpk : Hid (pk.length = 44) := by show _ = _; rw [hpk.out]; exact packetL_len _
      obtain ⟨fin, hfin⟩ := name_it (mac psk (sha hellos))
      have lfin : Hid (fin.length = 32) := by show _ = _; rw [hfin.out]; exact mac_len _ _
      obtain ⟨rs, hrs⟩ := name_it (resetL psk dst)
      have lrs : Hid (rs.length = 16) := by show _ = _; rw [hrs.out]; exact resetL_len _ _
      have m26 := guard26
      have m52 := guard52
      go_wp2_with fail
      refine (packet_any _ psk w11 (hg.out.below b11.out hg.out.lt) (hu.out.below b11.out) hb.out (by have := hl.out; omega)).mono ?_
      rintro ee w12 ⟨rfl, d12⟩
      rw [← hpk.out]
      have b12 := Lib.hid (b11.out.trans (d12.mono b11.out.size))
      clear b11 d12
      go_wp2_with fail
      refine (rpacket_any _ psk w12 (hu.out.below b12.out) hb.out (by have := hl.out; omega)).mono ?_
      rintro ee w13 ⟨rfl, d13⟩
      rw [← hpk.out]
      have b13 := Lib.hid (b12.out.trans (d13.mono b12.out.size))
      clear b12 d13
      go_wp2_with fail
      refine (samek_any pk w13 lpk.out).mono ?_
      rintro ee w14 ⟨rfl, d14⟩
      have b14 := Lib.hid (b13.out.trans (d14.mono b13.out.size))
      clear b13 d14
      go_wp2_with fail
      refine (finish_any _ _ psk hellos w14 (hg.out.below b14.out hg.out.lt) (hu.out.below b14.out) (hv.out.below b14.out) hb.out hbh.out (by have := hl.out; omega) (by have := hlh.out; omega)).mono ?_
      rintro ee w15 ⟨rfl, d15⟩
      rw [← hfin.out]
      have b15 := Lib.hid (b14.out.trans (d15.mono b14.out.size))
      clear b14 d15
      go_wp2_with fail
      refine (rfinish_any _ _ psk hellos w15 (hu.out.below b15.out) (hv.out.below b15.out) hb.out hbh.out (by have := hl.out; omega) (by have := hlh.out; omega)).mono ?_
      rintro ee w16 ⟨rfl, d16⟩
      rw [← hfin.out]
      have b16 := Lib.hid (b15.out.trans (d16.mono b15.out.size))
      clear b15 d16
      have e1 := equal_self arr26 fin lfin.out w16
      go_wp2_with fail
      refine (reset_any _ _ psk dst w16 (hg.out.below b16.out hg.out.lt) (hu.out.below b16.out) (hz.out.below b16.out) hb.out hbd.out (by have := hl.out; omega) (by have := hld.out; omega)).mono ?_
      rintro ee w17 ⟨rfl, d17⟩
      rw [← hrs.out]
      have b17 := Lib.hid (b16.out.trans (d17.mono b16.out.size))
      clear b16 d17
      clear e1
      go_wp2_with fail
      refine (rreset_any _ _ psk dst w17 (hu.out.below b17.out) (hz.out.below b17.out) hb.out hbd.out (by have := hl.out; omega) (by have := hld.out; omega)).mono ?_
      rintro ee w18 ⟨rfl, d18⟩
      rw [← hrs.out]
      have b18 := Lib.hid (b17.out.trans (d18.mono b17.out.size))
      clear b17 d18
      have e1 := equal_self arr52 rs lrs.out w18
      go_wp2_with fail
      refine (awake18_any w18 (hg.out.below b18.out hg.out.lt)).mono ?_
      rintro ee w19 ⟨rfl, d19⟩
      go_wp2_with fail
      go_ret
      exact ⟨rfl, b18.out.trans (d19.mono b18.out.size)⟩
end Go.Proofs.YtikmfaeiecpncaaDoor
