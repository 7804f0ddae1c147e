/- All keys behind the hellos: walked. -/
import Derived.Test.YtikmfaeiecpncaaDoorKH
namespace Go.Proofs.YtikmfaeiecpncaaDoor
open Go.RowKit

theorem index83_0 (w : World) : (Instr.index 83 (.agg #[.string ⟨#[99]⟩, .string ⟨#[115]⟩]) (.int .i64 0)).run Tryd.prog w = .ok (.string (whoS 0)) w := by kernel_rfl
theorem index83_1 (w : World) : (Instr.index 83 (.agg #[.string ⟨#[99]⟩, .string ⟨#[115]⟩]) (.int .i64 1)).run Tryd.prog w = .ok (.string (whoS 1)) w := by kernel_rfl
set_option maxHeartbeats 3200000 in
set_option maxRecDepth 100000 in
theorem all_any (u v : Value) (psk hellos : List Int) (w : World) (hg : Gl w) (hu : NumsAt .u8 w u psk) (hv : NumsAt .u8 w v hellos) (hb : Byt psk) (hbh : Byt hellos) (hl : psk.length ≤ 10000) (hlh : hellos.length ≤ 10000) :
    Calls Tryd.prog 37 #[u, v] w fun e w' => ∃ f0 f1, e = .returned (.agg (setV (helloL psk hellos 0) (helloL psk hellos 1) (dataL psk hellos 0) (dataL psk hellos 1) f0 f1)) ∧ CutAt w' w.heap.size f0 (finL psk hellos 0) ∧ CutAt w' w.heap.size f1 (finL psk hellos 1) ∧ Below w.heap.size w w' := by
  obtain ⟨a0, l0, k0, rfl⟩ := slice_any hu
  obtain ⟨a1, m1, k1, rfl⟩ := slice_any hv
  obtain ⟨e, he⟩ := name_it (mac [] psk)
  obtain ⟨n, hn⟩ := name_it (sha hellos)
  obtain ⟨H, hH⟩ := name_it (hL psk)
  obtain ⟨M, hM⟩ := name_it (mL psk)
  have el : Hid (e.length = 32) := by show _ = _; rw [he.out]; exact mac_len _ _
  have nl : Hid (n.length = 32) := by show _ = _; rw [hn.out]; exact sha_len _
  have Hl : Hid (H.length = 32) := by show _ = _; rw [hH.out]; exact nextL_len _
  have Ml : Hid (M.length = 32) := by show _ = _; rw [hM.out]; exact nextL_len _
  have eb : Hid (Byt e) := by show Byt _; rw [he.out]; exact byt_mac _ _
  have nb : Hid (Byt n) := by show Byt _; rw [hn.out]; exact byt_sha _
  have Hb : Hid (Byt H) := by show Byt _; rw [hH.out]; exact byt_next _
  have Mb : Hid (Byt M) := by show Byt _; rw [hM.out]; exact byt_next _
  have hH' : Hid (nextL e = H) := by show _ = _; rw [hH.out, he.out]; rfl
  have hM' : Hid (nextL H = M) := by show _ = _; rw [hM.out, hH.out]; rfl
  obtain ⟨T0, hT0⟩ := name_it (trafL psk hellos 0)
  obtain ⟨P0, hP0⟩ := name_it (helloL psk hellos 0)
  obtain ⟨F0, hF0⟩ := name_it (finL psk hellos 0)
  obtain ⟨D0, hD0⟩ := name_it (dataS psk hellos 0)
  obtain ⟨Q0, hQ0⟩ := name_it (dataL psk hellos 0)
  have hT0' : Hid (lab H (whoS 0 ++ hsS) n 32 = T0) := by show _ = _; rw [hT0.out, hH.out, hn.out]; rfl
  have hP0' : Hid (packetL T0 = P0) := by show _ = _; rw [hP0.out, hT0.out]; rfl
  have hF0' : Hid (lab T0 finS [] 32 = F0) := by show _ = _; rw [hF0.out, hT0.out]; rfl
  have hD0' : Hid (lab M (whoS 0 ++ apS) n 32 = D0) := by show _ = _; rw [hD0.out, hM.out, hn.out]; rfl
  have hQ0' : Hid (packetL D0 = Q0) := by show _ = _; rw [hQ0.out, hD0.out]; rfl
  have T0l : Hid (T0.length = 32) := by show _ = _; rw [hT0.out]; exact trafL_len _ _ _
  have P0l : Hid (P0.length = 44) := by show _ = _; rw [hP0.out]; exact packetL_len _
  have F0l : Hid (F0.length = 32) := by show _ = _; rw [hF0.out]; exact finL_len _ _ _
  have D0l : Hid (D0.length = 32) := by show _ = _; rw [hD0.out]; exact dataS_len _ _ _
  have Q0l : Hid (Q0.length = 44) := by show _ = _; rw [hQ0.out]; exact packetL_len _
  have T0b : Hid (Byt T0) := by show Byt _; rw [hT0.out]; exact byt_labS _ _ _ _
  have F0b : Hid (Byt F0) := by show Byt _; rw [hF0.out]; exact byt_labS _ _ _ _
  have D0b : Hid (Byt D0) := by show Byt _; rw [hD0.out]; exact byt_labS _ _ _ _
  obtain ⟨T1, hT1⟩ := name_it (trafL psk hellos 1)
  obtain ⟨P1, hP1⟩ := name_it (helloL psk hellos 1)
  obtain ⟨F1, hF1⟩ := name_it (finL psk hellos 1)
  obtain ⟨D1, hD1⟩ := name_it (dataS psk hellos 1)
  obtain ⟨Q1, hQ1⟩ := name_it (dataL psk hellos 1)
  have hT1' : Hid (lab H (whoS 1 ++ hsS) n 32 = T1) := by show _ = _; rw [hT1.out, hH.out, hn.out]; rfl
  have hP1' : Hid (packetL T1 = P1) := by show _ = _; rw [hP1.out, hT1.out]; rfl
  have hF1' : Hid (lab T1 finS [] 32 = F1) := by show _ = _; rw [hF1.out, hT1.out]; rfl
  have hD1' : Hid (lab M (whoS 1 ++ apS) n 32 = D1) := by show _ = _; rw [hD1.out, hM.out, hn.out]; rfl
  have hQ1' : Hid (packetL D1 = Q1) := by show _ = _; rw [hQ1.out, hD1.out]; rfl
  have T1l : Hid (T1.length = 32) := by show _ = _; rw [hT1.out]; exact trafL_len _ _ _
  have P1l : Hid (P1.length = 44) := by show _ = _; rw [hP1.out]; exact packetL_len _
  have F1l : Hid (F1.length = 32) := by show _ = _; rw [hF1.out]; exact finL_len _ _ _
  have D1l : Hid (D1.length = 32) := by show _ = _; rw [hD1.out]; exact dataS_len _ _ _
  have Q1l : Hid (Q1.length = 44) := by show _ = _; rw [hQ1.out]; exact packetL_len _
  have T1b : Hid (Byt T1) := by show Byt _; rw [hT1.out]; exact byt_labS _ _ _ _
  have F1b : Hid (Byt F1) := by show Byt _; rw [hF1.out]; exact byt_labS _ _ _ _
  have D1b : Hid (Byt D1) := by show Byt _; rw [hD1.out]; exact byt_labS _ _ _ _
  rw [← hP0.out, ← hP1.out, ← hQ0.out, ← hQ1.out, ← hF0.out, ← hF1.out]
  clear hT0 hT1 hP0 hP1 hF0 hF1 hD0 hD1 hQ0 hQ1 hH hM
  have zl := zb_len 44
  replace zl := Lib.hid zl
  have hzz := fun w => zero_of zero59 w
  have hx0 := index83_0
  have hx1 := index83_1
  have hc26 := fun (b : Nat) (w : World) => slice_all arr26 arr26' el26 b 0 w
  have b1 := (Below.refl w.heap.size w).alloc (Nat.le_refl _) (.cells (setV (zb 44) (zb 44) (zb 44) (zb 44) (.slice none 0 0) (.slice none 0 0)) 59)
  have l1 := Lib.hid (Blk.new w 59 (setV (zb 44) (zb 44) (zb 44) (zb 44) (.slice none 0 0) (.slice none 0 0)))
  obtain ⟨w1, hw1⟩ : ∃ x, x = w.alloc (.cells (setV (zb 44) (zb 44) (zb 44) (zb 44) (.slice none 0 0) (.slice none 0 0)) 59) := ⟨_, rfl⟩
  rw [← hw1] at b1 l1
  have u1 := Lib.hid (hu.below b1)
  have v1 := Lib.hid (hv.below b1)
  have g1 := Lib.hid (hg.below b1 hg.lt)
  replace b1 := Lib.hid b1
  replace hb := Lib.hid hb
  replace hbh := Lib.hid hbh
  replace hw1 := Lib.hid hw1
  clear hu hv hg
  go_enter Tryd.func37, Tryd.ntmps37
  go_wp2_with fail
  change Calls _ _ _ (w.alloc (.cells (setV (zb 44) (zb 44) (zb 44) (zb 44) (.slice none 0 0) (.slice none 0 0)) 59)) _
  rw [← hw1.out]
  refine (extract_any _ _ [] psk w1 g1.out (nums_nil _ _) u1.out byt_nil hb.out (by simp) hl).mono ?_
  rintro ee w2 ⟨rfl, d2⟩
  rw [← he.out]
  have b2 := Lib.hid (below_all b1.out d2)
  have l2 := Lib.hid (below_cell d2 l1.out)
  have g2 := Lib.hid (g1.out.below d2 g1.out.lt)
  have v2 := Lib.hid (v1.out.below d2)
  clear b1 l1 g1 u1 v1 d2 hw1
  go_wp2_with fail
  have p2 := parts_one (Blk.new w2 22 #[.slice a1 m1 k1]) (v2.out.alloc _)
  have c2 := (Below.refl w2.heap.size w2).alloc (Nat.le_refl _) (.cells #[.slice a1 m1 k1] 22)
  refine (sum_any _ [hellos] hellos _ (by simp) p2 hbh.out (by omega) (g2.out.below c2 g2.out.lt)).mono ?_
  rintro ee w3 ⟨rfl, d3'⟩
  rw [← hn.out]
  have d3 := below_all c2 d3'
  have b3 := Lib.hid (below_all b2.out d3)
  have l3 := Lib.hid (below_cell d3 l2.out)
  have g3 := Lib.hid (g2.out.below d3 g2.out.lt)
  clear b2 l2 g2 v2 d3 d3' c2 p2
  obtain ⟨q1, q2, q3, q4, q5⟩ := put_two w3 26 26 (bys (zb 32)) (bys e) (bys (zb 32)) (bys n)
  obtain ⟨w6, hw6⟩ : ∃ x, x = (((w3.alloc (.cells (bys (zb 32)) 26)).alloc (.cells (bys (zb 32)) 26)).setRow w3.heap.size (bys e)).setRow (w3.heap.size + 1) (bys n) := ⟨_, rfl⟩
  rw [← hw6] at q3 q4 q5
  have b6 := Lib.hid (below_all b3.out q5)
  have l6 := Lib.hid (below_cell q5 l3.out)
  have g6 := Lib.hid (g3.out.below q5 g3.out.lt)
  have z8e : Hid ((Tryd.prog.info? 26).map (·.size) = some (bys e).size) := by show _ = _; rw [bys_size, el.out]; exact sz26
  have z8n : Hid ((Tryd.prog.info? 26).map (·.size) = some (bys n).size) := by show _ = _; rw [bys_size, nl.out]; exact sz26
  have hoe : Hid ((bys (zb 32)).size = (bys e).size) := by show _ = _; rw [bys_size, bys_size, el.out]; rfl
  have hon : Hid ((bys (zb 32)).size = (bys n).size) := by show _ = _; rw [bys_size, bys_size, nl.out]; rfl
  replace q1 := Lib.hid q1
  replace q2 := Lib.hid q2
  replace q3 := Lib.hid q3
  replace q4 := Lib.hid q4
  replace hw6 := Lib.hid hw6
  clear b3 l3 g3 q5
  go_wp2_with (first | refine wpList_store_row rfl 26 _ _ rfl _ _ rfl rfl 26 _ q1.out z8e.out hoe.out (bys_one _) ?_ | (refine wpList_store_row rfl 26 _ _ rfl _ _ rfl rfl 26 _ q2.out z8n.out hon.out (bys_one _) ?_; change wpList _ _ _ _ _ ((((w3.alloc (.cells (bys (zb 32)) 26)).alloc (.cells (bys (zb 32)) 26)).setRow w3.heap.size (bys e)).setRow (w3.heap.size + 1) (bys n)); rw [← hw6.out]))
  refine (next_any _ e w6 g6.out (q3.out.nums 32 el.out (by omega)) eb.out (by rw [el.out]; omega)).mono ?_
  rintro ee w7 ⟨v7, rfl, n7, d7⟩
  rw [hH'.out] at n7
  obtain ⟨a7, l7', k7, rfl⟩ := slice_any n7
  have b7 := Lib.hid (below_all b6.out d7)
  have l7 := Lib.hid (below_cell d7 l6.out)
  have g7 := Lib.hid (g6.out.below d7 g6.out.lt)
  have s7 := Lib.hid (below_cell d7 q4.out)
  obtain ⟨b5, hb5⟩ : ∃ b, b = w3.heap.size := ⟨_, rfl⟩
  rw [← hb5] at s7 ⊢
  replace n7 := Lib.hid n7
  clear q1 q2 q3 q4 hw6 b6 l6 g6 d7 z8e z8n hoe hon hb5
  go_wp2_with fail
  refine (next_any _ H w7 g7.out n7.out Hb.out (by rw [Hl.out]; omega)).mono ?_
  rintro ee w8 ⟨v8, rfl, n8, d8⟩
  rw [hM'.out] at n8
  obtain ⟨a8, l8', k8, rfl⟩ := slice_any n8
  have b8 := Lib.hid (below_all b7.out d8)
  have l8 := Lib.hid (below_cell d8 l7.out)
  have g8 := Lib.hid (g7.out.below d8 g7.out.lt)
  have s8 := Lib.hid (below_cell d8 s7.out)
  have h8 := Lib.hid (n7.out.below d8)
  have m8 := Lib.hid n8
  clear b7 l7 g7 s7 n7 n8 d8
  obtain ⟨b9, hb9⟩ : ∃ b, b = w8.heap.size := ⟨_, rfl⟩
  have hle9 := b8.out.size
  have hlw : Hid (w.heap.size < b9) := by rw [hb9]; exact l8.out.lt
  rw [← hb9] at hle9
  replace hb9 := Lib.hid hb9
  replace hle9 := Lib.hid hle9
  go_wp2_with fail
  rw [← hb9.out]
  go_loopw [10, 11, 12, 23] (fun _ _ _ i wr =>
    (i = .int .i64 0 ∧ Hid (Below w8.heap.size w8 wr ∧ Blk wr b9 59 (setV (zb 44) (zb 44) (zb 44) (zb 44) (.slice none 0 0) (.slice none 0 0)))) ∨
    (i = .int .i64 1 ∧ ∃ a n c, Hid (Below w8.heap.size w8 wr ∧ CutAt wr (b9 + 1) (.slice a n c) F0 ∧ Blk wr b9 59 (setV P0 (zb 44) Q0 (zb 44) (.slice a n c) (.slice none 0 0)))) ∨
    (i = .int .i64 2 ∧ ∃ a n c a' n' c', Hid (Below w8.heap.size w8 wr ∧ CutAt wr (b9 + 1) (.slice a n c) F0 ∧ CutAt wr (b9 + 1) (.slice a' n' c') F1 ∧ Blk wr b9 59 (setV P0 P1 Q0 Q1 (.slice a n c) (.slice a' n' c'))))) (fun _ _ _ i _ => 2 - (intOf i).toNat)
  case atStart => exact .inl ⟨rfl, (Below.refl _ _).alloc (Nat.le_refl _) _, by rw [hb9.out]; exact Blk.new w8 59 (setV (zb 44) (zb 44) (zb 44) (zb 44) (.slice none 0 0) (.slice none 0 0))⟩
  case round =>
    rcases hrel with ⟨rfl, hI⟩ | ⟨rfl, fa, fn, fc, hI⟩ | ⟨rfl, fa, fn, fc, ga, gn, gc, hI⟩
    · obtain ⟨c0, S0⟩ := hI.out
      clear hI
      have hlt0 := S0.lt
      replace c0 := Lib.hid c0
      replace S0 := Lib.hid S0
      replace hlt0 := Lib.hid hlt0
      go_wp2_with fail
      refine (of_any _ _ H n (whoS 0 ++ hsS) wr (g8.out.below c0.out g8.out.lt) (h8.out.below c0.out) ((s8.out.below c0.out s8.out.lt).nums 32 nl.out (by omega)) Hb.out nb.out (by rw [Hl.out]; omega) (who_hs 0) (by rw [nl.out]; omega)).mono ?_
      rintro ee w11 ⟨v11, rfl, nT, cT, d11⟩
      rw [hT0'.out] at nT cT
      obtain ⟨aT, lT, kT, rfl⟩ := slice_any nT
      have TT1 := Lib.hid (cT.mono (show b9 + 1 ≤ wr.heap.size from hlt0.out))
      clear cT nT hlt0
      have c1 := Lib.hid (c0.out.trans (d11.mono c0.out.size))
      have S1 := Lib.hid (below_cell d11 S0.out)
      clear c0 S0  d11
      go_wp2_with fail
      refine (packet_any _ T0 w11 (g8.out.below c1.out g8.out.lt) (TT1.out.nums (by rw [T0l.out]; omega)) T0b.out (by rw [T0l.out]; omega)).mono ?_
      rintro ee w12 ⟨rfl, d12⟩
      rw [hP0'.out]
      have c2 := Lib.hid (c1.out.trans (d12.mono c1.out.size))
      have S2 := Lib.hid (below_cell d12 S1.out)
      have TT2 := Lib.hid (TT1.out.below d12)
      clear c1 S1 TT1 d12
      have S3 := Lib.hid (set_w0 S2.out P0 (by rw [P0l.out, zl.out]))
      have c3 := Lib.hid (setCells_below (P0.map (Value.int .u8)) 0 w12 c2.out (Nat.le_of_eq hb9.out.symm))
      have TT3 := Lib.hid (TT2.out.cells (Nat.lt_succ_self b9) 0 (P0.map (Value.int .u8)))
      have th : Hid (w12.there b9 0 (bys P0).size) := by show World.there _ _ _ _; rw [bys_size, P0l.out]; exact S2.out.there 0 44 (by rw [set_size zl.out zl.out zl.out zl.out]; omega)
      have z5 : Hid ((Tryd.prog.info? 55).map (·.size) = some (bys P0).size) := by show _ = _; rw [bys_size, P0l.out]; exact sz55
      obtain ⟨w13, hw⟩ : ∃ x, x = w12.setCells b9 0 (P0.map (Value.int .u8)) := ⟨_, rfl⟩
      rw [← hw] at S3 c3 TT3
      replace hw := Lib.hid hw
      clear S2 c2 TT2
      go_wp2_with (refine wpList_store_mid rfl 55 _ _ rfl b9 0 (bys P0) rfl rfl th.out z5.out (bys_one _) ?_; change wpList _ _ _ _ _ (w12.setCells b9 0 (P0.map (Value.int .u8))); rw [← hw.out])
      clear th z5 hw
      refine (of_any _ _ T0 [] finS w13 (g8.out.below c3.out g8.out.lt) (TT3.out.nums (by rw [T0l.out]; omega)) (nums_nil _ _) T0b.out byt_nil (by rw [T0l.out]; omega) (by decide) (by simp)).mono ?_
      rintro ee w14 ⟨v14, rfl, nF, cF, d14⟩
      rw [hF0'.out] at nF cF
      obtain ⟨aF, lF, kF, rfl⟩ := slice_any nF
      have FF4 := Lib.hid (cF.mono (show b9 + 1 ≤ w13.heap.size from S3.out.lt))
      clear cF nF TT3
      have c4 := Lib.hid (c3.out.trans (d14.mono c3.out.size))
      have S4 := Lib.hid (below_cell d14 S3.out)
      clear c3 S3  d14
      have cc : w14.cell? ⟨b9, 176, none⟩ = some (.slice none 0 0) := (S4.out.cell 176).trans (set_at0 P0l.out zl.out zl.out zl.out)
      have ff := S4.out.fr 176
      have S5 := Lib.hid (set_c0 S4.out P0l.out zl.out zl.out zl.out (.slice aF lF kF))
      have FF5 := Lib.hid (FF4.out.cell (Nat.lt_succ_self b9) 176 (.slice aF lF kF))
      have c5 := Lib.hid (c4.out.setCell (p := ⟨b9, 176, none⟩) (Nat.le_of_eq hb9.out.symm) (.slice aF lF kF))
      clear S4 FF4 c4
      go_wp2_with fail
      clear cc ff
      generalize w14.setCell ⟨b9, 176, none⟩ (.slice aF lF kF) = w15 at S5 FF5 c5 ⊢
      refine (of_any _ _ M n (whoS 0 ++ apS) w15 (g8.out.below c5.out g8.out.lt) (m8.out.below c5.out) ((s8.out.below c5.out s8.out.lt).nums 32 nl.out (by omega)) Mb.out nb.out (by rw [Ml.out]; omega) (who_ap 0) (by rw [nl.out]; omega)).mono ?_
      rintro ee w16 ⟨v16, rfl, nD, _, d16⟩
      rw [hD0'.out] at nD
      obtain ⟨aD, lD, kD, rfl⟩ := slice_any nD
      replace nD := Lib.hid nD
      have c6 := Lib.hid (c5.out.trans (d16.mono c5.out.size))
      have S6 := Lib.hid (below_cell d16 S5.out)
      have FF6 := Lib.hid (FF5.out.below d16)
      clear c5 S5 FF5 d16
      go_wp2_with fail
      refine (packet_any _ D0 w16 (g8.out.below c6.out g8.out.lt) nD.out D0b.out (by rw [D0l.out]; omega)).mono ?_
      rintro ee w17 ⟨rfl, d17⟩
      rw [hQ0'.out]
      clear nD
      have c7 := Lib.hid (c6.out.trans (d17.mono c6.out.size))
      have S7 := Lib.hid (below_cell d17 S6.out)
      have FF7 := Lib.hid (FF6.out.below d17)
      clear c6 S6 FF6 d17
      have S8 := Lib.hid (set_w2 S7.out P0l.out zl.out Q0 (by rw [Q0l.out, zl.out]))
      have c8 := Lib.hid (setCells_below (Q0.map (Value.int .u8)) 88 w17 c7.out (Nat.le_of_eq hb9.out.symm))
      have FF8 := Lib.hid (FF7.out.cells (Nat.lt_succ_self b9) 88 (Q0.map (Value.int .u8)))
      have th : Hid (w17.there b9 88 (bys Q0).size) := by show World.there _ _ _ _; rw [bys_size, Q0l.out]; exact S7.out.there 88 44 (by rw [set_size P0l.out zl.out zl.out zl.out]; omega)
      have z5 : Hid ((Tryd.prog.info? 55).map (·.size) = some (bys Q0).size) := by show _ = _; rw [bys_size, Q0l.out]; exact sz55
      obtain ⟨w18, hw⟩ : ∃ x, x = w17.setCells b9 88 (Q0.map (Value.int .u8)) := ⟨_, rfl⟩
      rw [← hw] at S8 c8 FF8
      replace hw := Lib.hid hw
      clear S7 c7 FF7
      go_wp2_with (refine wpList_store_mid rfl 55 _ _ rfl b9 88 (bys Q0) rfl rfl th.out z5.out (bys_one _) ?_; change wpList _ _ _ _ _ (w17.setCells b9 88 (Q0.map (Value.int .u8))); rw [← hw.out])
      clear th z5 hw
      go_roundw
      case rel => exact .inr (.inl ⟨rfl, _, _, _, c8.out, FF8.out, S8.out⟩)
      case measure => simp [intOf]
    · obtain ⟨c0, cf0, S0⟩ := hI.out
      clear hI
      have hlt0 := S0.lt
      replace c0 := Lib.hid c0
      replace S0 := Lib.hid S0
      replace hlt0 := Lib.hid hlt0
      replace cf0 := Lib.hid cf0
      go_wp2_with fail
      refine (of_any _ _ H n (whoS 1 ++ hsS) wr (g8.out.below c0.out g8.out.lt) (h8.out.below c0.out) ((s8.out.below c0.out s8.out.lt).nums 32 nl.out (by omega)) Hb.out nb.out (by rw [Hl.out]; omega) (who_hs 1) (by rw [nl.out]; omega)).mono ?_
      rintro ee w11 ⟨v11, rfl, nT, cT, d11⟩
      rw [hT1'.out] at nT cT
      obtain ⟨aT, lT, kT, rfl⟩ := slice_any nT
      have TT1 := Lib.hid (cT.mono (show b9 + 1 ≤ wr.heap.size from hlt0.out))
      clear cT nT hlt0
      have c1 := Lib.hid (c0.out.trans (d11.mono c0.out.size))
      have S1 := Lib.hid (below_cell d11 S0.out)
      have cf1 := Lib.hid (cf0.out.below d11)
      clear c0 S0 cf0  d11
      go_wp2_with fail
      refine (packet_any _ T1 w11 (g8.out.below c1.out g8.out.lt) (TT1.out.nums (by rw [T1l.out]; omega)) T1b.out (by rw [T1l.out]; omega)).mono ?_
      rintro ee w12 ⟨rfl, d12⟩
      rw [hP1'.out]
      have c2 := Lib.hid (c1.out.trans (d12.mono c1.out.size))
      have S2 := Lib.hid (below_cell d12 S1.out)
      have cf2 := Lib.hid (cf1.out.below d12)
      have TT2 := Lib.hid (TT1.out.below d12)
      clear c1 S1 cf1 TT1 d12
      have S3 := Lib.hid (set_w1 S2.out P0l.out P1 (by rw [P1l.out, zl.out]))
      have c3 := Lib.hid (setCells_below (P1.map (Value.int .u8)) 44 w12 c2.out (Nat.le_of_eq hb9.out.symm))
      have cf3 := Lib.hid (cf2.out.cells (Nat.lt_succ_self b9) 44 (P1.map (Value.int .u8)))
      have TT3 := Lib.hid (TT2.out.cells (Nat.lt_succ_self b9) 44 (P1.map (Value.int .u8)))
      have th : Hid (w12.there b9 44 (bys P1).size) := by show World.there _ _ _ _; rw [bys_size, P1l.out]; exact S2.out.there 44 44 (by rw [set_size P0l.out zl.out Q0l.out zl.out]; omega)
      have z5 : Hid ((Tryd.prog.info? 55).map (·.size) = some (bys P1).size) := by show _ = _; rw [bys_size, P1l.out]; exact sz55
      obtain ⟨w13, hw⟩ : ∃ x, x = w12.setCells b9 44 (P1.map (Value.int .u8)) := ⟨_, rfl⟩
      rw [← hw] at S3 c3 cf3 TT3
      replace hw := Lib.hid hw
      clear S2 c2 cf2 TT2
      go_wp2_with (refine wpList_store_mid rfl 55 _ _ rfl b9 44 (bys P1) rfl rfl th.out z5.out (bys_one _) ?_; change wpList _ _ _ _ _ (w12.setCells b9 44 (P1.map (Value.int .u8))); rw [← hw.out])
      clear th z5 hw
      refine (of_any _ _ T1 [] finS w13 (g8.out.below c3.out g8.out.lt) (TT3.out.nums (by rw [T1l.out]; omega)) (nums_nil _ _) T1b.out byt_nil (by rw [T1l.out]; omega) (by decide) (by simp)).mono ?_
      rintro ee w14 ⟨v14, rfl, nF, cF, d14⟩
      rw [hF1'.out] at nF cF
      obtain ⟨aF, lF, kF, rfl⟩ := slice_any nF
      have FF4 := Lib.hid (cF.mono (show b9 + 1 ≤ w13.heap.size from S3.out.lt))
      clear cF nF TT3
      have c4 := Lib.hid (c3.out.trans (d14.mono c3.out.size))
      have S4 := Lib.hid (below_cell d14 S3.out)
      have cf4 := Lib.hid (cf3.out.below d14)
      clear c3 S3 cf3  d14
      have cc : w14.cell? ⟨b9, 177, none⟩ = some (.slice none 0 0) := (S4.out.cell 177).trans (set_at1 P0l.out P1l.out Q0l.out zl.out)
      have ff := S4.out.fr 177
      have S5 := Lib.hid (set_c1 S4.out P0l.out P1l.out Q0l.out zl.out (.slice aF lF kF))
      have FF5 := Lib.hid (FF4.out.cell (Nat.lt_succ_self b9) 177 (.slice aF lF kF))
      have c5 := Lib.hid (c4.out.setCell (p := ⟨b9, 177, none⟩) (Nat.le_of_eq hb9.out.symm) (.slice aF lF kF))
      have cf5 := Lib.hid (cf4.out.cell (Nat.lt_succ_self b9) 177 (.slice aF lF kF))
      clear S4 FF4 c4 cf4
      go_wp2_with fail
      clear cc ff
      generalize w14.setCell ⟨b9, 177, none⟩ (.slice aF lF kF) = w15 at S5 FF5 c5 cf5 ⊢
      refine (of_any _ _ M n (whoS 1 ++ apS) w15 (g8.out.below c5.out g8.out.lt) (m8.out.below c5.out) ((s8.out.below c5.out s8.out.lt).nums 32 nl.out (by omega)) Mb.out nb.out (by rw [Ml.out]; omega) (who_ap 1) (by rw [nl.out]; omega)).mono ?_
      rintro ee w16 ⟨v16, rfl, nD, _, d16⟩
      rw [hD1'.out] at nD
      obtain ⟨aD, lD, kD, rfl⟩ := slice_any nD
      replace nD := Lib.hid nD
      have c6 := Lib.hid (c5.out.trans (d16.mono c5.out.size))
      have S6 := Lib.hid (below_cell d16 S5.out)
      have cf6 := Lib.hid (cf5.out.below d16)
      have FF6 := Lib.hid (FF5.out.below d16)
      clear c5 S5 cf5 FF5 d16
      go_wp2_with fail
      refine (packet_any _ D1 w16 (g8.out.below c6.out g8.out.lt) nD.out D1b.out (by rw [D1l.out]; omega)).mono ?_
      rintro ee w17 ⟨rfl, d17⟩
      rw [hQ1'.out]
      clear nD
      have c7 := Lib.hid (c6.out.trans (d17.mono c6.out.size))
      have S7 := Lib.hid (below_cell d17 S6.out)
      have cf7 := Lib.hid (cf6.out.below d17)
      have FF7 := Lib.hid (FF6.out.below d17)
      clear c6 S6 cf6 FF6 d17
      have S8 := Lib.hid (set_w3 S7.out P0l.out P1l.out Q0l.out Q1 (by rw [Q1l.out, zl.out]))
      have c8 := Lib.hid (setCells_below (Q1.map (Value.int .u8)) 132 w17 c7.out (Nat.le_of_eq hb9.out.symm))
      have cf8 := Lib.hid (cf7.out.cells (Nat.lt_succ_self b9) 132 (Q1.map (Value.int .u8)))
      have FF8 := Lib.hid (FF7.out.cells (Nat.lt_succ_self b9) 132 (Q1.map (Value.int .u8)))
      have th : Hid (w17.there b9 132 (bys Q1).size) := by show World.there _ _ _ _; rw [bys_size, Q1l.out]; exact S7.out.there 132 44 (by rw [set_size P0l.out P1l.out Q0l.out zl.out]; omega)
      have z5 : Hid ((Tryd.prog.info? 55).map (·.size) = some (bys Q1).size) := by show _ = _; rw [bys_size, Q1l.out]; exact sz55
      obtain ⟨w18, hw⟩ : ∃ x, x = w17.setCells b9 132 (Q1.map (Value.int .u8)) := ⟨_, rfl⟩
      rw [← hw] at S8 c8 cf8 FF8
      replace hw := Lib.hid hw
      clear S7 c7 cf7 FF7
      go_wp2_with (refine wpList_store_mid rfl 55 _ _ rfl b9 132 (bys Q1) rfl rfl th.out z5.out (bys_one _) ?_; change wpList _ _ _ _ _ (w17.setCells b9 132 (Q1.map (Value.int .u8))); rw [← hw.out])
      clear th z5 hw
      go_roundw
      case rel => exact .inr (.inr ⟨rfl, _, _, _, _, _, _, c8.out, cf8.out, FF8.out, S8.out⟩)
      case measure => simp [intOf]
    · obtain ⟨c0, cf0, cg0, S0⟩ := hI.out
      clear hI
      have lw := Lib.hid (l8.out.below c0 l8.out.lt)
      have zs : Hid ((Tryd.prog.info? 59).map (·.size) = some (setV P0 P1 Q0 Q1 (.slice fa fn fc) (.slice ga gn gc)).size) := by show _ = _; rw [set_size P0l.out P1l.out Q0l.out Q1l.out]; exact sz59
      have hos : Hid ((setV (zb 44) (zb 44) (zb 44) (zb 44) (.slice none 0 0) (.slice none 0 0)).size = (setV P0 P1 Q0 Q1 (.slice fa fn fc) (.slice ga gn gc)).size) := by show _ = _; rw [set_size P0l.out P1l.out Q0l.out Q1l.out, set_size zl.out zl.out zl.out zl.out]
      have ld := Lib.hid (whole_load S0 Tryd.underlying59 rfl zs.out)
      have lx := Lib.hid (lw.out.setRow (setV P0 P1 Q0 Q1 (.slice fa fn fc) (.slice ga gn gc)))
      have bx := Lib.hid (below_setRow (below_all b8.out c0) (Nat.le_refl _) (setV P0 P1 Q0 Q1 (.slice fa fn fc) (.slice ga gn gc)))
      have fx := Lib.hid ((cf0.keep (w' := wr.setRow w.heap.size (setV P0 P1 Q0 Q1 (.slice fa fn fc) (.slice ga gn gc))) (fun k hk => setRow_other wr w.heap.size k _ (by have := hlw.out; omega))).mono (show w.heap.size ≤ b9 + 1 by have := hlw.out; omega))
      have gx := Lib.hid ((cg0.keep (w' := wr.setRow w.heap.size (setV P0 P1 Q0 Q1 (.slice fa fn fc) (.slice ga gn gc))) (fun k hk => setRow_other wr w.heap.size k _ (by have := hlw.out; omega))).mono (show w.heap.size ≤ b9 + 1 by have := hlw.out; omega))
      have one : (setV P0 P1 Q0 Q1 (.slice fa fn fc) (.slice ga gn gc)).all (·.oneCell') = true := set_one
      replace one := Lib.hid one
      clear c0 cf0 cg0 S0
      go_wp2_with (first | refine wpList_load_is rfl 59 _ rfl rfl ld.out ?_ | refine wpList_store_row rfl 59 _ _ rfl _ _ rfl rfl 59 _ lw.out zs.out hos.out one.out ?_)
      replace lx := lx.out
      replace bx := bx.out
      replace fx := fx.out
      replace gx := gx.out
      generalize wr.setRow w.heap.size (setV P0 P1 Q0 Q1 (.slice fa fn fc) (.slice ga gn gc)) = w10 at lx bx fx gx ⊢
      exact bodyPost_ret (results_cell_row rfl _ _ _ 59 _ _ _ rfl lx Tryd.underlying59 rfl zs.out) rfl ⟨_, _, rfl, fx, gx, bx⟩
end Go.Proofs.YtikmfaeiecpncaaDoor
