/- All keys are made of the secret, and the hellos, by labels, step by step: the statement's walk. -/
import Derived.Test.YtikmfaeiecpncaaDoorKM
namespace Go.Proofs.YtikmfaeiecpncaaDoor
open Go.RowKit

theorem Blk.partNums {w : World} {b : Nat} {ty : TypeId} {A x C : List Int} (h : Blk w b ty (bys (A ++ x ++ C))) (off n : Nat) (hA : A.length = off) (hx : x.length = n) (hn : n ≤ 1000000) : NumsAt .u8 w (.slice (some ⟨b, off, none⟩) n n) x := by
  subst hx
  refine ⟨_, _, rfl, Nat.le_refl _, by omega, fun h => (by cases h), .inr ⟨b, off, rfl, fun i hi => ?_⟩⟩
  have hr := Blk.part (A := A.map (Value.int .u8)) (B := x.map (Value.int .u8)) (C := C.map (Value.int .u8)) (by simpa [bys] using h) off (by simpa using hA)
  rw [hr i (.int .u8 (x.getD i 0)) (by simp [List.getD, List.getElem?_eq_getElem hi])]
theorem nums_pre {w : World} {a : Addr} {N c : Nat} {xs : List Int} (h : NumsAt .u8 w (.slice (some a) N c) xs) (m : Nat) (hm : m ≤ xs.length) : NumsAt .u8 w (.slice (some a) m c) (xs.take m) := by
  obtain ⟨a', cap, e, h1, h2, h3, hc⟩ := h
  simp only [Value.slice.injEq] at e
  obtain ⟨rfl, _, rfl⟩ := e
  have hl : (xs.take m).length = m := by simp; omega
  refine ⟨_, _, by rw [hl], by omega, h2, h3, ?_⟩
  rcases hc with rfl | ⟨b, o, e2, hc⟩
  · exact .inl (by simp)
  · refine .inr ⟨b, o, e2, fun i hi => ?_⟩
    rw [hc i (by omega)]
    simp [List.getD, show i < m by omega]
theorem cut26_16 (b : Nat) (w : World) : (Instr.sliceAt 26 (.pointer (some ⟨b, 0, none⟩)) none (some (.int .i64 16)) none).run Tryd.prog w = .ok (.slice (some ⟨b, 0, none⟩) 16 32) w := by
  rw [run_sliceAt_array_h w 26 ⟨b, 0, none⟩ (by rw [arr26', el26]; exact arr26) .i64 16 (by omega) (by rw [arr26']; omega), el26, size5, arr26']
  simp [Result.andThen, slicedAt, add_plain]
set_option maxHeartbeats 12800000 in
set_option maxRecDepth 100000 in
theorem ksteps_any (u v z : Value) (psk hellos dst : List Int) (w : World) (hg : Gl w) (hu : NumsAt .u8 w u psk) (hv : NumsAt .u8 w v hellos) (hz : NumsAt .u8 w z dst) (hb : Byt psk) (hbh : Byt hellos) (hbd : Byt dst) :
    Calls Tryd.prog 13 #[u, v, z] w fun e w' => e = .returned (.bool true) ∧ Below w.heap.size w w' := by
  obtain ⟨a0, k0, rfl, _⟩ := slice_form hu
  obtain ⟨a1, k1, rfl, _⟩ := slice_form hv
  obtain ⟨a2, k2, rfl, _⟩ := slice_form hz
  by_cases c1 : 100 < psk.length
  · have q1 : decide ((100 : Int) < psk.length) = true := by simp; omega
    clear c1 hu hv hz
    go_enter Tryd.func13, Tryd.ntmps13
    go_wp2_with fail
    refine (awake18_any w hg).mono ?_
    rintro ee w1 ⟨rfl, hb1⟩
    go_wp2_with fail
    go_ret
    exact ⟨rfl, hb1⟩
  have q1 : decide ((100 : Int) < psk.length) = false := by simp; omega
  by_cases c2 : 100 < hellos.length
  · have q2 : decide ((100 : Int) < hellos.length) = true := by simp; omega
    clear c1 c2 hu hv hz
    go_enter Tryd.func13, Tryd.ntmps13
    go_wp2_with fail
    refine (awake18_any w hg).mono ?_
    rintro ee w1 ⟨rfl, hb1⟩
    go_wp2_with fail
    go_ret
    exact ⟨rfl, hb1⟩
  have q2 : decide ((100 : Int) < hellos.length) = false := by simp; omega
  by_cases c3 : 100 < dst.length
  · have q3 : decide ((100 : Int) < dst.length) = true := by simp; omega
    clear c1 c2 c3 hu hv hz
    go_enter Tryd.func13, Tryd.ntmps13
    go_wp2_with fail
    refine (awake18_any w hg).mono ?_
    rintro ee w1 ⟨rfl, hb1⟩
    go_wp2_with fail
    go_ret
    exact ⟨rfl, hb1⟩
  have q3 : decide ((100 : Int) < dst.length) = false := by simp; omega
  have hl : psk.length ≤ 100 := by omega
  have hlh : hellos.length ≤ 100 := by omega
  have hld : dst.length ≤ 100 := by omega
  clear c1 c2 c3
  replace hl := Lib.hid hl
  replace hlh := Lib.hid hlh
  replace hld := Lib.hid hld
  replace hb := Lib.hid hb
  replace hbh := Lib.hid hbh
  replace hbd := Lib.hid hbd
  replace hg := Lib.hid hg
  replace hu := Lib.hid hu
  replace hv := Lib.hid hv
  replace hz := Lib.hid hz
  obtain ⟨nn, hnn⟩ := name_it (sha [])
  obtain ⟨n, hn⟩ := name_it (sha hellos)
  obtain ⟨e, he⟩ := name_it (mac [] psk)
  obtain ⟨H, hH⟩ := name_it (hL psk)
  obtain ⟨M, hM⟩ := name_it (mL psk)
  obtain ⟨fi, hfi⟩ := name_it (mac dst psk)
  have nnl : Hid (nn.length = 32) := by show _ = _; rw [hnn.out]; exact sha_len _
  have nl : Hid (n.length = 32) := by show _ = _; rw [hn.out]; exact sha_len _
  have el : Hid (e.length = 32) := by show _ = _; rw [he.out]; exact mac_len _ _
  have Hl : Hid (H.length = 32) := by show _ = _; rw [hH.out]; exact nextL_len _
  have Ml : Hid (M.length = 32) := by show _ = _; rw [hM.out]; exact nextL_len _
  have fil : Hid (fi.length = 32) := by show _ = _; rw [hfi.out]; exact mac_len _ _
  have nnb : Hid (Byt nn) := by show Byt _; rw [hnn.out]; exact byt_sha _
  have nb : Hid (Byt n) := by show Byt _; rw [hn.out]; exact byt_sha _
  have eb : Hid (Byt e) := by show Byt _; rw [he.out]; exact byt_mac _ _
  have Hb : Hid (Byt H) := by show Byt _; rw [hH.out]; exact byt_next _
  have Mb : Hid (Byt M) := by show Byt _; rw [hM.out]; exact byt_next _
  have fib : Hid (Byt fi) := by show Byt _; rw [hfi.out]; exact byt_mac _ _
  obtain ⟨E1, hE1⟩ := name_it (lab e ⟨#[100, 101, 114, 105, 118, 101, 100]⟩ nn 32)
  have E1l : Hid (E1.length = 32) := by show _ = _; rw [hE1.out]; exact labS_len _ _ _ _ (by decide) (by rw [nnl.out]; omega) (by omega)
  have E1b : Hid (Byt E1) := by show Byt _; rw [hE1.out]; exact byt_labS _ _ _ _
  obtain ⟨E2, hE2⟩ := name_it (lab H ⟨#[100, 101, 114, 105, 118, 101, 100]⟩ nn 32)
  have E2l : Hid (E2.length = 32) := by show _ = _; rw [hE2.out]; exact labS_len _ _ _ _ (by decide) (by rw [nnl.out]; omega) (by omega)
  have E2b : Hid (Byt E2) := by show Byt _; rw [hE2.out]; exact byt_labS _ _ _ _
  have hH' : Hid (mac E1 (zb 32) = H) := by show _ = _; rw [hH.out, hE1.out, he.out, hnn.out]; rfl
  have hM' : Hid (mac E2 (zb 32) = M) := by show _ = _; rw [hM.out, hE2.out, hH.out, hnn.out]; rfl
  obtain ⟨T0, hT0⟩ := name_it (trafL psk hellos 0)
  have T0l : Hid (T0.length = 32) := by show _ = _; rw [hT0.out]; exact trafL_len _ _ _
  obtain ⟨P0, hP0⟩ := name_it (helloL psk hellos 0)
  have P0l : Hid (P0.length = 44) := by show _ = _; rw [hP0.out]; exact packetL_len _
  obtain ⟨F0, hF0⟩ := name_it (finL psk hellos 0)
  have F0l : Hid (F0.length = 32) := by show _ = _; rw [hF0.out]; exact finL_len _ _ _
  obtain ⟨D0, hD0⟩ := name_it (dataS psk hellos 0)
  have D0l : Hid (D0.length = 32) := by show _ = _; rw [hD0.out]; exact dataS_len _ _ _
  obtain ⟨Q0, hQ0⟩ := name_it (dataL psk hellos 0)
  have Q0l : Hid (Q0.length = 44) := by show _ = _; rw [hQ0.out]; exact packetL_len _
  have T0b : Hid (Byt T0) := by show Byt _; rw [hT0.out]; exact byt_labS _ _ _ _
  have F0b : Hid (Byt F0) := by show Byt _; rw [hF0.out]; exact byt_labS _ _ _ _
  have D0b : Hid (Byt D0) := by show Byt _; rw [hD0.out]; exact byt_labS _ _ _ _
  have hT0' : Hid (lab H (whoS 0 ++ hsS) n 32 = T0) := by show _ = _; rw [hT0.out, hH.out, hn.out]; rfl
  have hP0' : Hid (packetL T0 = P0) := by show _ = _; rw [hP0.out, hT0.out]; rfl
  have hF0' : Hid (lab T0 finS [] 32 = F0) := by show _ = _; rw [hF0.out, hT0.out]; rfl
  have hD0' : Hid (lab M (whoS 0 ++ apS) n 32 = D0) := by show _ = _; rw [hD0.out, hM.out, hn.out]; rfl
  have hQ0' : Hid (packetL D0 = Q0) := by show _ = _; rw [hQ0.out, hD0.out]; rfl
  obtain ⟨T1, hT1⟩ := name_it (trafL psk hellos 1)
  have T1l : Hid (T1.length = 32) := by show _ = _; rw [hT1.out]; exact trafL_len _ _ _
  obtain ⟨P1, hP1⟩ := name_it (helloL psk hellos 1)
  have P1l : Hid (P1.length = 44) := by show _ = _; rw [hP1.out]; exact packetL_len _
  obtain ⟨F1, hF1⟩ := name_it (finL psk hellos 1)
  have F1l : Hid (F1.length = 32) := by show _ = _; rw [hF1.out]; exact finL_len _ _ _
  obtain ⟨D1, hD1⟩ := name_it (dataS psk hellos 1)
  have D1l : Hid (D1.length = 32) := by show _ = _; rw [hD1.out]; exact dataS_len _ _ _
  obtain ⟨Q1, hQ1⟩ := name_it (dataL psk hellos 1)
  have Q1l : Hid (Q1.length = 44) := by show _ = _; rw [hQ1.out]; exact packetL_len _
  have T1b : Hid (Byt T1) := by show Byt _; rw [hT1.out]; exact byt_labS _ _ _ _
  have F1b : Hid (Byt F1) := by show Byt _; rw [hF1.out]; exact byt_labS _ _ _ _
  have D1b : Hid (Byt D1) := by show Byt _; rw [hD1.out]; exact byt_labS _ _ _ _
  have hT1' : Hid (lab H (whoS 1 ++ hsS) n 32 = T1) := by show _ = _; rw [hT1.out, hH.out, hn.out]; rfl
  have hP1' : Hid (packetL T1 = P1) := by show _ = _; rw [hP1.out, hT1.out]; rfl
  have hF1' : Hid (lab T1 finS [] 32 = F1) := by show _ = _; rw [hF1.out, hT1.out]; rfl
  have hD1' : Hid (lab M (whoS 1 ++ apS) n 32 = D1) := by show _ = _; rw [hD1.out, hM.out, hn.out]; rfl
  have hQ1' : Hid (packetL D1 = Q1) := by show _ = _; rw [hQ1.out, hD1.out]; rfl
  obtain ⟨C0, hC0⟩ := name_it (lab fi ⟨#[99, 108, 105, 101, 110, 116, 32, 105, 110]⟩ [] 32)
  have C0l : Hid (C0.length = 32) := by show _ = _; rw [hC0.out]; exact labS_len _ _ _ _ (by decide) (by simp) (by omega)
  have C0b : Hid (Byt C0) := by show Byt _; rw [hC0.out]; exact byt_labS _ _ _ _
  obtain ⟨A, hA⟩ := name_it (packetL C0)
  have lA : Hid (A.length = 44) := by show _ = _; rw [hA.out]; exact packetL_len _
  obtain ⟨C1, hC1⟩ := name_it (lab fi ⟨#[115, 101, 114, 118, 101, 114, 32, 105, 110]⟩ [] 32)
  have C1l : Hid (C1.length = 32) := by show _ = _; rw [hC1.out]; exact labS_len _ _ _ _ (by decide) (by simp) (by omega)
  have C1b : Hid (Byt C1) := by show Byt _; rw [hC1.out]; exact byt_labS _ _ _ _
  obtain ⟨B, hB⟩ := name_it (packetL C1)
  have lB : Hid (B.length = 44) := by show _ = _; rw [hB.out]; exact packetL_len _
  obtain ⟨fl, hfl⟩ := name_it (firstL psk dst)
  have hfl' : Hid (fl = A ++ B) := by show _ = _; rw [hfl.out, hA.out, hB.out, hC0.out, hC1.out, hfi.out]; rfl
  have lfl : Hid (fl.length = 88) := by show _ = _; rw [hfl.out]; exact firstL_len _ _
  have zl := zb_len 44
  replace zl := Lib.hid zl
  have hzz1 := fun w => zero_of zero59 w
  have hzz3 := fun w => zero_of zero56 w
  have hc26 := fun (b : Nat) (w : World) => slice_all arr26 arr26' el26 b 0 w
  have hmk : ∀ w : World, (Instr.makeSlice 22 (.int .i64 32) (.int .i64 32)).run Tryd.prog w = .ok (.slice (some ⟨w.heap.size, 0, none⟩) 32 32) (w.alloc (.cells (bys (List.replicate 32 0)) 5)) := fun w => make_bytes 32 (by omega) w
  go_enter Tryd.func13, Tryd.ntmps13
  go_wp2_with fail
  refine (sum_any _ [] [] w rfl (parts_nil w) byt_nil (by simp) hg.out).mono ?_
  rintro ee w1 ⟨rfl, d1⟩
  rw [← hnn.out]
  have v1 := hv.out.below d1
  have g1 := hg.out.below d1 hg.out.lt
  have p1 := parts_one (Blk.new w1 22 #[.slice a1 hellos.length k1]) (v1.alloc _)
  have d2 := (Below.refl w1.heap.size w1).alloc (Nat.le_refl _) (.cells #[.slice a1 hellos.length k1] 22)
  go_wp2_with fail
  refine (sum_any _ [hellos] hellos _ (by simp) p1 hbh.out (by have := hlh.out; omega) (g1.below d2 g1.lt)).mono ?_
  rintro ee w2 ⟨rfl, d2'⟩
  rw [← hn.out]
  have b2 := Lib.hid (below_all (below_all d1 d2) d2')
  clear v1 g1 p1 d1 d2 d2'
  have z1 : Hid ((Tryd.prog.info? 26).map (·.size) = some (bys nn).size) := by show _ = _; rw [bys_size, nnl.out]; exact sz26
  have z2 : Hid ((Tryd.prog.info? 26).map (·.size) = some (bys n).size) := by show _ = _; rw [bys_size, nl.out]; exact sz26
  have ho1 : Hid ((bys (zb 32)).size = (bys nn).size) := by show _ = _; rw [bys_size, bys_size, nnl.out]; rfl
  have ho2 : Hid ((bys (zb 32)).size = (bys n).size) := by show _ = _; rw [bys_size, bys_size, nl.out]; rfl
  obtain ⟨q1, q2, q3, q4, q5⟩ := put_two w2 26 26 (bys (zb 32)) (bys nn) (bys (zb 32)) (bys n)
  obtain ⟨w3, hw⟩ : ∃ x, x = (((w2.alloc (.cells (bys (zb 32)) 26)).alloc (.cells (bys (zb 32)) 26)).setRow w2.heap.size (bys nn)).setRow (w2.heap.size + 1) (bys n) := ⟨_, rfl⟩
  rw [← hw] at q3 q4 q5
  replace q1 := Lib.hid q1
  replace q2 := Lib.hid q2
  replace q3 := Lib.hid q3
  replace q4 := Lib.hid q4
  replace hw := Lib.hid hw
  have b3 := Lib.hid (below_all b2.out q5)
  clear b2 q5
  go_wp2_with (first | refine wpList_store_row rfl 26 _ _ rfl _ _ rfl rfl 26 _ q1.out z1.out ho1.out (bys_one _) ?_ | (refine wpList_store_row rfl 26 _ _ rfl _ _ rfl rfl 26 _ q2.out z2.out ho2.out (bys_one _) ?_; change wpList _ _ _ _ _ ((((w2.alloc (.cells (bys (zb 32)) 26)).alloc (.cells (bys (zb 32)) 26)).setRow w2.heap.size (bys nn)).setRow (w2.heap.size + 1) (bys n)); rw [← hw.out]))
  obtain ⟨b7, hb7⟩ : ∃ b, b = w2.heap.size := ⟨_, rfl⟩
  rw [← hb7] at q3 q4 ⊢
  have nn3 := q3
  have n3 := q4
  clear q1 q2 q3 q4 hw hb7 z1 z2 ho1 ho2
  refine (extract_any _ _ [] psk w3 (hg.out.below b3.out hg.out.lt) (nums_nil _ _) (hu.out.below b3.out) byt_nil hb.out (by simp) (by have := hl.out; omega)).mono ?_
  rintro ee w4 ⟨rfl, d4⟩
  rw [← he.out]
  have b4 := Lib.hid (below_all b3.out d4)
  have nn4 := Lib.hid (below_cell d4 nn3.out)
  have n4 := Lib.hid (below_cell d4 n3.out)
  clear b3 nn3 n3 d4
  have z8 : (Tryd.prog.info? 26).map (·.size) = some (bys e).size := by rw [bys_size, el.out]; exact sz26
  replace z8 := Lib.hid z8
  have ho8 : Hid ((bys (zb 32)).size = (bys e).size) := by show _ = _; rw [bys_size, bys_size, el.out]; rfl
  have ln_b8e := Lib.hid ((Blk.new w4 26 (bys (zb 32))).setRow (bys e))
  have bb8 := Lib.hid (below_setRow (g := w4.heap.size) ((Below.refl w4.heap.size w4).alloc (Nat.le_refl _) (.cells (bys (zb 32)) 26)) (Nat.le_refl _) (bys e))
  obtain ⟨w5, hw8⟩ : ∃ x, x = (w4.alloc (.cells (bys (zb 32)) 26)).setRow w4.heap.size (bys e) := ⟨_, rfl⟩
  rw [← hw8] at ln_b8e bb8
  have hlt_b8e := ln_b8e.out.lt
  replace hlt_b8e := Lib.hid hlt_b8e
  have b5 := Lib.hid (below_all b4.out bb8.out)
  have nn5 := Lib.hid (below_cell bb8.out nn4.out)
  have n5 := Lib.hid (below_cell bb8.out n4.out)
  clear b4 nn4 n4
  replace hw8 := Lib.hid hw8
  go_wp2_with (refine wpList_store_row rfl 26 _ _ rfl _ _ rfl rfl 26 _ (Blk.new w4 26 (bys (zb 32))) z8.out ho8.out (bys_one _) ?_; change wpList _ _ _ _ _ ((w4.alloc (.cells (bys (zb 32)) 26)).setRow w4.heap.size (bys e)); rw [← hw8.out])
  obtain ⟨b8e, hb8⟩ : ∃ b, b = w4.heap.size := ⟨_, rfl⟩
  rw [← hb8] at ln_b8e ⊢
  clear hb8 hw8 z8 ho8 bb8
  have ex5 := ln_b8e
  clear ln_b8e hlt_b8e
  refine region_rel_lit (.step (.step (.step (.step (.step (.step (.base _))))))) (fun i W v => match i with
    | 0 => v = (.slice (some ⟨b8e, 0, none⟩) 32 32)
    | 1 => v = (.slice (some ⟨b7, 0, none⟩) 32 32)
    | 2 => ∃ a n k, v = Value.slice a n k ∧ NumsAt .u8 W v E1
    | 3 => ∃ a n k, v = Value.slice a n k ∧ NumsAt .u8 W v (zb 32)
    | 4 => v = .agg (bys H)
    | _ => ∃ b, v = .pointer (some ⟨b, 0, none⟩) ∧ w5.heap.size ≤ b ∧ Blk W b 26 (bys (zb 32))) mixed (by kernel_rfl) (by kernel_rfl) ?_ ?_ ?_
  · rintro (_ | _ | _ | _ | _ | i) W W' v h hb
    all_goals first | exact h | exact PartsAt.below h hb | exact NumsAt.below h hb | exact sl_below h hb | exact SlAt.below h hb | exact FarAt.below h hb | exact PtrAt.below h hb | exact blk_spec h hb | exact spec_below h hb
  · intro i oi hoi x w9 hb9 hd
    rcases i with _ | _ | _ | _ | _ | _ | i
    · obtain rfl := Option.some.inj hoi
      simp only [fill, Act.put, List.setIfInBounds_toArray, List.set_cons_succ, List.set_cons_zero]
      go_wp2_with fail
      exact ⟨_, rfl, Below.refl _ _, rfl⟩
    · obtain rfl := Option.some.inj hoi
      simp only [fill, Act.put, List.setIfInBounds_toArray, List.set_cons_succ, List.set_cons_zero]
      go_wp2_with fail
      exact ⟨_, rfl, Below.refl _ _, rfl⟩
    · obtain rfl := Option.some.inj hoi
      have h0 : (x 0) = (.slice (some ⟨b8e, 0, none⟩) 32 32) := hd 0 (by kernel_rfl)
      have h1 : (x 1) = (.slice (some ⟨b7, 0, none⟩) 32 32) := hd 1 (by kernel_rfl)
      simp only [fill, Act.put, List.setIfInBounds_toArray, List.set_cons_succ, List.set_cons_zero, h0, h1]
      go_wp2_with fail
      refine (lab_any _ _ e nn ⟨#[100, 101, 114, 105, 118, 101, 100]⟩ 32 _ w9 rfl (hg.out.below (below_all b5.out hb9) hg.out.lt) ((below_cell hb9 ex5.out).nums 32 el.out (by omega)) ((below_cell hb9 nn5.out).nums 32 nnl.out (by omega)) eb.out nnb.out (by rw [el.out]; omega) (by decide) (by rw [nnl.out]; omega) (by omega) (by omega)).mono ?_
      rintro ee w10 ⟨v10, rfl, hn10, _, hb10⟩
      obtain ⟨a9, l9, k9, rfl⟩ := slice_any hn10
      go_wp2_with fail
      exact ⟨_, rfl, hb10, _, _, _, rfl, by rw [hE1.out]; exact hn10⟩
    · obtain rfl := Option.some.inj hoi
      simp only [fill, Act.put, List.setIfInBounds_toArray, List.set_cons_succ, List.set_cons_zero]
      go_wp2_with fail
      exact ⟨_, rfl, (Below.refl _ _).alloc (Nat.le_refl _) _, _, _, _, rfl, (Blk.new w9 5 (bys (zb 32))).nums 32 (by simp [zb]) (by omega)⟩
    · obtain rfl := Option.some.inj hoi
      have h2 : ∃ a n k, (x 2) = Value.slice a n k ∧ NumsAt .u8 w9 (x 2) E1 := hd 2 (by kernel_rfl)
      have h3 : ∃ a n k, (x 3) = Value.slice a n k ∧ NumsAt .u8 w9 (x 3) (zb 32) := hd 3 (by kernel_rfl)
      simp only [fill, Act.put, List.setIfInBounds_toArray, List.set_cons_succ, List.set_cons_zero]
      obtain ⟨a7, l7, k7, e7, hn7⟩ := h2
      obtain ⟨a6, l6, k6, e6, hn6⟩ := h3
      rw [e7] at hn7
      rw [e6] at hn6
      simp only [e7, e6]
      go_wp2_with fail
      refine (extract_any _ _ E1 (zb 32) w9 (hg.out.below (below_all b5.out hb9) hg.out.lt) hn7 hn6 E1b.out (byt_zb 32) (by rw [E1l.out]; omega) (by simp [zb])).mono ?_
      rintro ee w10 ⟨rfl, hb10⟩
      go_wp2_with fail
      exact ⟨_, rfl, hb10, by rw [hH'.out]⟩
    · obtain rfl := Option.some.inj hoi
      simp only [fill, Act.put, List.setIfInBounds_toArray, List.set_cons_succ, List.set_cons_zero]
      go_wp2_with fail
      exact ⟨_, rfl, (Below.refl _ _).alloc (Nat.le_refl _) (.cells (bys (zb 32)) 26), _, rfl, hb9.size, Blk.new w9 26 (bys (zb 32))⟩
    · cases hoi
  · intro x w9 hb9 hd
    have h4 : (x 4) = .agg (bys H) := hd 4 (by decide)
    have h5 : ∃ b, (x 5) = .pointer (some ⟨b, 0, none⟩) ∧ w5.heap.size ≤ b ∧ Blk w9 b 26 (bys (zb 32)) := hd 5 (by decide)
    simp only [fill, Act.put, List.setIfInBounds_toArray, List.set_cons_succ, List.set_cons_zero, h4]
    obtain ⟨b10, e6, hle6, l6⟩ := h5
    simp only [e6]
    have zr : Hid ((Tryd.prog.info? 26).map (·.size) = some (bys H).size) := by show _ = _; rw [bys_size, Hl.out]; exact sz26
    have hor : Hid ((bys (zb 32)).size = (bys H).size) := by show _ = _; rw [bys_size, bys_size, Hl.out]; rfl
    have dd := below_setRow (g := b10) hb9 hle6 (bys H)
    have Hx6 := Lib.hid (l6.setRow (bys H))
    replace l6 := Lib.hid l6
    obtain ⟨w6, hw⟩ : ∃ x, x = w9.setRow b10 (bys H) := ⟨_, rfl⟩
    rw [← hw] at dd Hx6
    have b6 := Lib.hid (below_all b5.out dd)
    have nn6 := Lib.hid (below_cell dd nn5.out)
    have n6 := Lib.hid (below_cell dd n5.out)
    have ex6 := Lib.hid (below_cell dd ex5.out)
    replace hw := Lib.hid hw
    clear hd e6 hle6 dd h4 b5 hb9 nn5 n5 ex5
    go_wp2_with (refine wpList_store_row rfl 26 _ _ rfl _ _ rfl rfl 26 _ l6.out zr.out hor.out (bys_one _) ?_; rw [← hw.out])
    clear zr hor l6 hw
    refine region_rel_lit (.step (.step (.step (.step (.step (.step (.base _))))))) (fun i W v => match i with
      | 0 => v = (.slice (some ⟨b10, 0, none⟩) 32 32)
      | 1 => v = (.slice (some ⟨b7, 0, none⟩) 32 32)
      | 2 => ∃ a n k, v = Value.slice a n k ∧ NumsAt .u8 W v E2
      | 3 => ∃ a n k, v = Value.slice a n k ∧ NumsAt .u8 W v (zb 32)
      | 4 => v = .agg (bys M)
      | _ => ∃ b, v = .pointer (some ⟨b, 0, none⟩) ∧ w6.heap.size ≤ b ∧ Blk W b 26 (bys (zb 32))) mixed (by kernel_rfl) (by kernel_rfl) ?_ ?_ ?_
    · rintro (_ | _ | _ | _ | _ | i) W W' v h hb
      all_goals first | exact h | exact PartsAt.below h hb | exact NumsAt.below h hb | exact sl_below h hb | exact SlAt.below h hb | exact FarAt.below h hb | exact PtrAt.below h hb | exact blk_spec h hb | exact spec_below h hb
    · intro i oi hoi x w9 hb9 hd
      rcases i with _ | _ | _ | _ | _ | _ | i
      · obtain rfl := Option.some.inj hoi
        simp only [fill, Act.put, List.setIfInBounds_toArray, List.set_cons_succ, List.set_cons_zero]
        go_wp2_with fail
        exact ⟨_, rfl, Below.refl _ _, rfl⟩
      · obtain rfl := Option.some.inj hoi
        simp only [fill, Act.put, List.setIfInBounds_toArray, List.set_cons_succ, List.set_cons_zero]
        go_wp2_with fail
        exact ⟨_, rfl, Below.refl _ _, rfl⟩
      · obtain rfl := Option.some.inj hoi
        have h0 : (x 0) = (.slice (some ⟨b10, 0, none⟩) 32 32) := hd 0 (by kernel_rfl)
        have h1 : (x 1) = (.slice (some ⟨b7, 0, none⟩) 32 32) := hd 1 (by kernel_rfl)
        simp only [fill, Act.put, List.setIfInBounds_toArray, List.set_cons_succ, List.set_cons_zero, h0, h1]
        go_wp2_with fail
        refine (lab_any _ _ H nn ⟨#[100, 101, 114, 105, 118, 101, 100]⟩ 32 _ w9 rfl (hg.out.below (below_all b6.out hb9) hg.out.lt) ((below_cell hb9 Hx6.out).nums 32 Hl.out (by omega)) ((below_cell hb9 nn6.out).nums 32 nnl.out (by omega)) Hb.out nnb.out (by rw [Hl.out]; omega) (by decide) (by rw [nnl.out]; omega) (by omega) (by omega)).mono ?_
        rintro ee w10 ⟨v10, rfl, hn10, _, hb10⟩
        obtain ⟨a9, l9, k9, rfl⟩ := slice_any hn10
        go_wp2_with fail
        exact ⟨_, rfl, hb10, _, _, _, rfl, by rw [hE2.out]; exact hn10⟩
      · obtain rfl := Option.some.inj hoi
        simp only [fill, Act.put, List.setIfInBounds_toArray, List.set_cons_succ, List.set_cons_zero]
        go_wp2_with fail
        exact ⟨_, rfl, (Below.refl _ _).alloc (Nat.le_refl _) _, _, _, _, rfl, (Blk.new w9 5 (bys (zb 32))).nums 32 (by simp [zb]) (by omega)⟩
      · obtain rfl := Option.some.inj hoi
        have h2 : ∃ a n k, (x 2) = Value.slice a n k ∧ NumsAt .u8 w9 (x 2) E2 := hd 2 (by kernel_rfl)
        have h3 : ∃ a n k, (x 3) = Value.slice a n k ∧ NumsAt .u8 w9 (x 3) (zb 32) := hd 3 (by kernel_rfl)
        simp only [fill, Act.put, List.setIfInBounds_toArray, List.set_cons_succ, List.set_cons_zero]
        obtain ⟨a7, l7, k7, e7, hn7⟩ := h2
        obtain ⟨a6, l6, k6, e6, hn6⟩ := h3
        rw [e7] at hn7
        rw [e6] at hn6
        simp only [e7, e6]
        go_wp2_with fail
        refine (extract_any _ _ E2 (zb 32) w9 (hg.out.below (below_all b6.out hb9) hg.out.lt) hn7 hn6 E2b.out (byt_zb 32) (by rw [E2l.out]; omega) (by simp [zb])).mono ?_
        rintro ee w10 ⟨rfl, hb10⟩
        go_wp2_with fail
        exact ⟨_, rfl, hb10, by rw [hM'.out]⟩
      · obtain rfl := Option.some.inj hoi
        simp only [fill, Act.put, List.setIfInBounds_toArray, List.set_cons_succ, List.set_cons_zero]
        go_wp2_with fail
        exact ⟨_, rfl, (Below.refl _ _).alloc (Nat.le_refl _) (.cells (bys (zb 32)) 26), _, rfl, hb9.size, Blk.new w9 26 (bys (zb 32))⟩
      · cases hoi
    · intro x w9 hb9 hd
      have h4 : (x 4) = .agg (bys M) := hd 4 (by decide)
      have h5 : ∃ b, (x 5) = .pointer (some ⟨b, 0, none⟩) ∧ w6.heap.size ≤ b ∧ Blk w9 b 26 (bys (zb 32)) := hd 5 (by decide)
      simp only [fill, Act.put, List.setIfInBounds_toArray, List.set_cons_succ, List.set_cons_zero, h4]
      obtain ⟨b11, e6, hle6, l6⟩ := h5
      simp only [e6]
      have zr : Hid ((Tryd.prog.info? 26).map (·.size) = some (bys M).size) := by show _ = _; rw [bys_size, Ml.out]; exact sz26
      have hor : Hid ((bys (zb 32)).size = (bys M).size) := by show _ = _; rw [bys_size, bys_size, Ml.out]; rfl
      have dd := below_setRow (g := b11) hb9 hle6 (bys M)
      have Mx7 := Lib.hid (l6.setRow (bys M))
      replace l6 := Lib.hid l6
      obtain ⟨w7, hw⟩ : ∃ x, x = w9.setRow b11 (bys M) := ⟨_, rfl⟩
      rw [← hw] at dd Mx7
      have b7x := Lib.hid (below_all b6.out dd)
      have nn7 := Lib.hid (below_cell dd nn6.out)
      have n7 := Lib.hid (below_cell dd n6.out)
      have ex7 := Lib.hid (below_cell dd ex6.out)
      have Hx7 := Lib.hid (below_cell dd Hx6.out)
      replace hw := Lib.hid hw
      clear hd e6 hle6 dd h4 b6 hb9 nn6 n6 ex6 Hx6
      go_wp2_with (refine wpList_store_row rfl 26 _ _ rfl _ _ rfl rfl 26 _ l6.out zr.out hor.out (bys_one _) ?_; rw [← hw.out])
      clear zr hor l6 hw
      have B7 := b7x
      clear b7x
      refine (extract_any _ _ dst psk w7 (hg.out.below B7.out hg.out.lt) (hz.out.below B7.out) (hu.out.below B7.out) hbd.out hb.out (by have := hld.out; omega) (by have := hl.out; omega)).mono ?_
      rintro ee w8 ⟨rfl, d8⟩
      rw [← hfi.out]
      have b8 := Lib.hid (below_all B7.out d8)
      have n8 := Lib.hid (below_cell d8 n7.out)
      have Hx8 := Lib.hid (below_cell d8 Hx7.out)
      have Mx8 := Lib.hid (below_cell d8 Mx7.out)
      clear B7 nn7 n7 Hx7 Mx7 ex7 d8
      have z8 : (Tryd.prog.info? 26).map (·.size) = some (bys fi).size := by rw [bys_size, fil.out]; exact sz26
      replace z8 := Lib.hid z8
      have ho8 : Hid ((bys (zb 32)).size = (bys fi).size) := by show _ = _; rw [bys_size, bys_size, fil.out]; rfl
      have ln_bf := Lib.hid ((Blk.new w8 26 (bys (zb 32))).setRow (bys fi))
      have bb8 := Lib.hid (below_setRow (g := w8.heap.size) ((Below.refl w8.heap.size w8).alloc (Nat.le_refl _) (.cells (bys (zb 32)) 26)) (Nat.le_refl _) (bys fi))
      obtain ⟨w10, hw8⟩ : ∃ x, x = (w8.alloc (.cells (bys (zb 32)) 26)).setRow w8.heap.size (bys fi) := ⟨_, rfl⟩
      rw [← hw8] at ln_bf bb8
      have hlt_bf := ln_bf.out.lt
      replace hlt_bf := Lib.hid hlt_bf
      have b10 := Lib.hid (below_all b8.out bb8.out)
      have n10 := Lib.hid (below_cell bb8.out n8.out)
      have Hx10 := Lib.hid (below_cell bb8.out Hx8.out)
      have Mx10 := Lib.hid (below_cell bb8.out Mx8.out)
      clear b8 n8 Hx8 Mx8
      replace hw8 := Lib.hid hw8
      go_wp2_with (refine wpList_store_row rfl 26 _ _ rfl _ _ rfl rfl 26 _ (Blk.new w8 26 (bys (zb 32))) z8.out ho8.out (bys_one _) ?_; change wpList _ _ _ _ _ ((w8.alloc (.cells (bys (zb 32)) 26)).setRow w8.heap.size (bys fi)); rw [← hw8.out])
      obtain ⟨bf, hb8⟩ : ∃ b, b = w8.heap.size := ⟨_, rfl⟩
      rw [← hb8] at ln_bf ⊢
      clear hb8 hw8 z8 ho8 bb8
      refine (all_any _ _ psk hellos w10 (hg.out.below b10.out hg.out.lt) (hu.out.below b10.out) (hv.out.below b10.out) hb.out hbh.out (by have := hl.out; omega) (by have := hlh.out; omega)).mono ?_
      rintro ee w11 ⟨f0, f1, rfl, cut0, cut1, d11⟩
      rw [← hP0.out, ← hP1.out, ← hQ0.out, ← hQ1.out]
      rw [← hF0.out] at cut0
      rw [← hF1.out] at cut1
      obtain ⟨x0, rfl⟩ := cut0.form 32 F0l.out
      obtain ⟨x1, rfl⟩ := cut1.form 32 F1l.out
      have b11 := Lib.hid (below_all b10.out d11)
      have n11 := Lib.hid (below_cell d11 n10.out)
      have Hx11 := Lib.hid (below_cell d11 Hx10.out)
      have Mx11 := Lib.hid (below_cell d11 Mx10.out)
      have fx11 := Lib.hid (below_cell d11 ln_bf.out)
      have s11 := Lib.hid (cut0.nums (by rw [F0l.out]; omega))
      have t11 := Lib.hid (cut1.nums (by rw [F1l.out]; omega))
      clear b10 n10 Hx10 Mx10 ln_bf hlt_bf cut0 cut1 d11
      go_wp2_with fail
      refine (first_any _ _ psk dst w11 (hg.out.below b11.out hg.out.lt) (hu.out.below b11.out) (hz.out.below b11.out) hb.out hbd.out (by have := hl.out; omega) (by have := hld.out; omega)).mono ?_
      rintro ee w12 ⟨rfl, d12⟩
      rw [← hfl.out]
      have b12 := Lib.hid (below_all b11.out d12)
      have n12 := Lib.hid (below_cell d12 n11.out)
      have Hx12 := Lib.hid (below_cell d12 Hx11.out)
      have Mx12 := Lib.hid (below_cell d12 Mx11.out)
      have fx12 := Lib.hid (below_cell d12 fx11.out)
      have s12 := Lib.hid (s11.out.below d12)
      have t12 := Lib.hid (t11.out.below d12)
      clear b11 n11 Hx11 Mx11 fx11 s11 t11 d12
      have zs1 : Hid ((Tryd.prog.info? 59).map (·.size) = some (setV P0 P1 Q0 Q1 (.slice (some ⟨x0, 0, none⟩) 32 32) (.slice (some ⟨x1, 0, none⟩) 32 32)).size) := by show _ = _; rw [set_size P0l.out P1l.out Q0l.out Q1l.out]; exact sz59
      have zs2 : Hid ((Tryd.prog.info? 56).map (·.size) = some (bys fl).size) := by show _ = _; rw [bys_size, lfl.out]; exact sz56
      have ho1 : Hid ((setV (zb 44) (zb 44) (zb 44) (zb 44) (.slice none 0 0) (.slice none 0 0)).size = (setV P0 P1 Q0 Q1 (.slice (some ⟨x0, 0, none⟩) 32 32) (.slice (some ⟨x1, 0, none⟩) 32 32)).size) := by show _ = _; rw [set_size P0l.out P1l.out Q0l.out Q1l.out, set_size zl.out zl.out zl.out zl.out]
      have ho2 : Hid ((bys (zb 88)).size = (bys fl).size) := by show _ = _; rw [bys_size, bys_size, lfl.out]; rfl
      have on1 : (setV P0 P1 Q0 Q1 (.slice (some ⟨x0, 0, none⟩) 32 32) (.slice (some ⟨x1, 0, none⟩) 32 32)).all (·.oneCell') = true := set_one
      replace on1 := Lib.hid on1
      obtain ⟨q1, q2, q3, q4, q5⟩ := put_two w12 59 56 (setV (zb 44) (zb 44) (zb 44) (zb 44) (.slice none 0 0) (.slice none 0 0)) (setV P0 P1 Q0 Q1 (.slice (some ⟨x0, 0, none⟩) 32 32) (.slice (some ⟨x1, 0, none⟩) 32 32)) (bys (zb 88)) (bys fl)
      obtain ⟨w13, hw⟩ : ∃ x, x = (((w12.alloc (.cells (setV (zb 44) (zb 44) (zb 44) (zb 44) (.slice none 0 0) (.slice none 0 0)) 59)).alloc (.cells (bys (zb 88)) 56)).setRow w12.heap.size (setV P0 P1 Q0 Q1 (.slice (some ⟨x0, 0, none⟩) 32 32) (.slice (some ⟨x1, 0, none⟩) 32 32))).setRow (w12.heap.size + 1) (bys fl) := ⟨_, rfl⟩
      rw [← hw] at q3 q4 q5
      replace q1 := Lib.hid q1
      replace q2 := Lib.hid q2
      replace q3 := Lib.hid q3
      replace q4 := Lib.hid q4
      replace hw := Lib.hid hw
      have b13 := Lib.hid (below_all b12.out q5)
      have n13 := Lib.hid (below_cell q5 n12.out)
      have Hx13 := Lib.hid (below_cell q5 Hx12.out)
      have Mx13 := Lib.hid (below_cell q5 Mx12.out)
      have fx13 := Lib.hid (below_cell q5 fx12.out)
      have s13 := Lib.hid (s12.out.below q5)
      have t13 := Lib.hid (t12.out.below q5)
      have d14 := (Below.refl w13.heap.size w13).alloc (Nat.le_refl _) (.cells #[.string ⟨#[99]⟩, .string ⟨#[115]⟩] 9)
      have c14 := Blk.new w13 9 #[.string ⟨#[99]⟩, .string ⟨#[115]⟩]
      have d15 := d14.alloc d14.size (.cells #[.string ⟨#[99, 108, 105, 101, 110, 116, 32, 105, 110]⟩, .string ⟨#[115, 101, 114, 118, 101, 114, 32, 105, 110]⟩] 9)
      have c15 := c14.alloc (.cells #[.string ⟨#[99, 108, 105, 101, 110, 116, 32, 105, 110]⟩, .string ⟨#[115, 101, 114, 118, 101, 114, 32, 105, 110]⟩] 9)
      have e15 := Blk.new (w13.alloc (.cells #[.string ⟨#[99]⟩, .string ⟨#[115]⟩] 9)) 9 #[.string ⟨#[99, 108, 105, 101, 110, 116, 32, 105, 110]⟩, .string ⟨#[115, 101, 114, 118, 101, 114, 32, 105, 110]⟩]
      rw [show (w13.alloc (.cells #[.string ⟨#[99]⟩, .string ⟨#[115]⟩] 9)).heap.size = w13.heap.size + 1 by simp] at e15
      obtain ⟨w14, hw14⟩ : ∃ x, x = (w13.alloc (.cells #[.string ⟨#[99]⟩, .string ⟨#[115]⟩] 9)).alloc (.cells #[.string ⟨#[99, 108, 105, 101, 110, 116, 32, 105, 110]⟩, .string ⟨#[115, 101, 114, 118, 101, 114, 32, 105, 110]⟩] 9) := ⟨_, rfl⟩
      rw [← hw14] at d15 c15 e15
      have b14 := Lib.hid (below_all b13.out d15)
      have n14 := Lib.hid (below_cell d15 n13.out)
      have Hx14 := Lib.hid (below_cell d15 Hx13.out)
      have Mx14 := Lib.hid (below_cell d15 Mx13.out)
      have fx14 := Lib.hid (below_cell d15 fx13.out)
      have s14 := Lib.hid (s13.out.below d15)
      have t14 := Lib.hid (t13.out.below d15)
      have S14 := Lib.hid (below_cell d15 q3.out)
      have C14 := Lib.hid (below_cell d15 q4.out)
      have W14 := Lib.hid c15
      have I14 := Lib.hid e15
      replace hw14 := Lib.hid hw14
      clear b12 n12 Hx12 Mx12 fx12 s12 t12 q5 b13 n13 Hx13 Mx13 fx13 s13 t13 d14 c14 d15 c15 e15
      go_wp2_with (first | refine wpList_store_row rfl 59 _ _ rfl _ _ rfl rfl 59 _ q1.out zs1.out ho1.out on1.out ?_ | (refine wpList_store_row rfl 56 _ _ rfl _ _ rfl rfl 56 _ q2.out zs2.out ho2.out (bys_one _) ?_; change wpList _ _ _ _ _ ((((w12.alloc (.cells (setV (zb 44) (zb 44) (zb 44) (zb 44) (.slice none 0 0) (.slice none 0 0)) 59)).alloc (.cells (bys (zb 88)) 56)).setRow w12.heap.size (setV P0 P1 Q0 Q1 (.slice (some ⟨x0, 0, none⟩) 32 32) (.slice (some ⟨x1, 0, none⟩) 32 32))).setRow (w12.heap.size + 1) (bys fl)); rw [← hw.out]))
      change Code.wp _ _ _ _ ((w13.alloc (.cells #[.string ⟨#[99]⟩, .string ⟨#[115]⟩] 9)).alloc (.cells #[.string ⟨#[99, 108, 105, 101, 110, 116, 32, 105, 110]⟩, .string ⟨#[115, 101, 114, 118, 101, 114, 32, 105, 110]⟩] 9))
      rw [← hw14.out]
      obtain ⟨bs, hbs⟩ : ∃ b, b = w12.heap.size := ⟨_, rfl⟩
      rw [← hbs] at S14 C14 ⊢
      obtain ⟨bw, hbw⟩ : ∃ b, b = w13.heap.size := ⟨_, rfl⟩
      rw [← hbw] at W14 I14 ⊢
      clear q1 q2 q3 q4 hw hw14 hbs hbw zs1 zs2 ho1 ho2 on1 hzz1 hzz3 hmk
      go_loopw [17, 18] (fun i _ wr => (i = .int .i64 0 ∨ i = .int .i64 1 ∨ i = .int .i64 2) ∧ Hid (Below w14.heap.size w14 wr)) (fun i _ _ => 2 - (intOf i).toNat)
      case atStart => exact ⟨.inl rfl, Below.refl _ _⟩
      case round =>
        obtain ⟨hi, hc⟩ := hrel
        rcases hi with rfl | rfl | rfl
        · clear hT1' hT1 hP1' hP1 hF1' hF1 hD1' hD1 hQ1' hQ1 T1l D1l T1b F1b D1b E1l E2l E1b E2b hE1 hE2 hH' hM' el eb he nnl nnb hnn hb hbh hbd hl hlh hld hu hv hz C1l C1b hC1
          go_wp2_with fail
          refine region_rel_lit (.step (.step (.step (.step (.step (.step (.step (.step (.base _))))))))) (fun i W v => match i with
            | 0 => v = (.slice (some ⟨b10, 0, none⟩) 32 32)
            | 1 => v = .slice (some ⟨bw, 0, none⟩) 2 2
            | 2 => v = .int .i64 0
            | 3 => v = .pointer (some ⟨bw, 0, none⟩)
            | 4 => v = .string (whoS 0)
            | 5 => v = .string (whoS 0 ++ hsS)
            | 6 => v = (.slice (some ⟨b7 + 1, 0, none⟩) 32 32)
            | _ => ∃ a n k, v = Value.slice a n k ∧ NumsAt .u8 W v T0) mixed (by kernel_rfl) (by kernel_rfl) ?_ ?_ ?_
          · rintro (_ | _ | _ | _ | _ | _ | _ | i) W W' v h hb
            all_goals first | exact h | exact PartsAt.below h hb | exact NumsAt.below h hb | exact sl_below h hb | exact SlAt.below h hb | exact FarAt.below h hb | exact PtrAt.below h hb | exact blk_spec h hb | exact spec_below h hb
          · intro i oi hoi x w9 hb9 hd
            rcases i with _ | _ | _ | _ | _ | _ | _ | _ | i
            · obtain rfl := Option.some.inj hoi
              simp only [fill, Act.put, List.setIfInBounds_toArray, List.set_cons_succ, List.set_cons_zero]
              go_wp2_with fail
              exact ⟨_, rfl, Below.refl _ _, rfl⟩
            · obtain rfl := Option.some.inj hoi
              simp only [fill, Act.put, List.setIfInBounds_toArray, List.set_cons_succ, List.set_cons_zero]
              go_wp2_with fail
              exact ⟨_, rfl, Below.refl _ _, rfl⟩
            · obtain rfl := Option.some.inj hoi
              simp only [fill, Act.put, List.setIfInBounds_toArray, List.set_cons_succ, List.set_cons_zero]
              go_wp2_with fail
              exact ⟨_, rfl, Below.refl _ _, rfl⟩
            · obtain rfl := Option.some.inj hoi
              have h1 : (x 1) = .slice (some ⟨bw, 0, none⟩) 2 2 := hd 1 (by kernel_rfl)
              have h2 : (x 2) = .int .i64 0 := hd 2 (by kernel_rfl)
              simp only [fill, Act.put, List.setIfInBounds_toArray, List.set_cons_succ, List.set_cons_zero, h1, h2]
              go_wp2_with fail
              exact ⟨_, rfl, Below.refl _ _, rfl⟩
            · obtain rfl := Option.some.inj hoi
              have h3 : (x 3) = .pointer (some ⟨bw, 0, none⟩) := hd 3 (by kernel_rfl)
              simp only [fill, Act.put, List.setIfInBounds_toArray, List.set_cons_succ, List.set_cons_zero, h3]
              have cc : w9.cell? ⟨bw, 0, none⟩ = some (.string (whoS 0)) := (below_cell (below_all hc.out hb9) W14.out).cell 0
              go_wp2_with fail
              exact ⟨_, rfl, Below.refl _ _, rfl⟩
            · obtain rfl := Option.some.inj hoi
              have h4 : (x 4) = .string (whoS 0) := hd 4 (by kernel_rfl)
              simp only [fill, Act.put, List.setIfInBounds_toArray, List.set_cons_succ, List.set_cons_zero, h4]
              go_wp2_with fail
              exact ⟨_, rfl, Below.refl _ _, rfl⟩
            · obtain rfl := Option.some.inj hoi
              simp only [fill, Act.put, List.setIfInBounds_toArray, List.set_cons_succ, List.set_cons_zero]
              go_wp2_with fail
              exact ⟨_, rfl, Below.refl _ _, rfl⟩
            · obtain rfl := Option.some.inj hoi
              have h0 : (x 0) = (.slice (some ⟨b10, 0, none⟩) 32 32) := hd 0 (by kernel_rfl)
              have h5 : (x 5) = .string (whoS 0 ++ hsS) := hd 5 (by kernel_rfl)
              have h6 : (x 6) = (.slice (some ⟨b7 + 1, 0, none⟩) 32 32) := hd 6 (by kernel_rfl)
              simp only [fill, Act.put, List.setIfInBounds_toArray, List.set_cons_succ, List.set_cons_zero, h0, h5, h6]
              go_wp2_with fail
              refine (lab_any _ _ H n (whoS 0 ++ hsS) 32 _ w9 rfl ((hg.out.below b14.out hg.out.lt).below (below_all hc.out hb9) (hg.out.below b14.out hg.out.lt).lt) ((below_cell (below_all hc.out hb9) Hx14.out).nums 32 Hl.out (by omega)) ((below_cell (below_all hc.out hb9) n14.out).nums 32 nl.out (by omega)) Hb.out nb.out (by rw [Hl.out]; omega) (who_hs 0) (by rw [nl.out]; omega) (by omega) (by omega)).mono ?_
              rintro ee w10 ⟨v10, rfl, hn10, _, hb10⟩
              rw [hT0'.out] at hn10
              obtain ⟨a9, l9, k9, rfl⟩ := slice_any hn10
              go_wp2_with fail
              exact ⟨_, rfl, hb10, _, _, _, rfl, hn10⟩
            · cases hoi
          · intro x w9 hb9 hd
            have h7 : ∃ a n k, (x 7) = Value.slice a n k ∧ NumsAt .u8 w9 (x 7) T0 := hd 7 (by decide)
            simp only [fill, Act.put, List.setIfInBounds_toArray, List.set_cons_succ, List.set_cons_zero]
            obtain ⟨aT, lT, kT, eT, tn⟩ := h7
            rw [eT] at tn
            simp only [eT]
            have hc2 := Lib.hid (below_all hc.out hb9)
            replace tn := Lib.hid tn
            clear hd eT hb9 hc
            generalize w9 = wt at hc2 tn ⊢
            go_wp2_with fail
            refine region_rel_lit (.step (.step (.step (.step (.step (.step (.step (.step (.step (.step (.step (.step (.step (.step (.step (.step (.step (.step (.step (.step (.step (.step (.step (.step (.step (.step (.step (.step (.step (.step (.step (.step (.step (.step (.step (.step (.step (.step (.step (.step (.step (.step (.step (.step (.step (.base _)))))))))))))))))))))))))))))))))))))))))))))) (fun i W v => match i with
              | 0 => v = .int .i64 0
              | 1 => v = .pointer (some ⟨bs, 0, none⟩)
              | 2 => v = .pointer (some ⟨bs, 0, none⟩)
              | 3 => v = .agg (bys P0)
              | 4 => v = .slice aT lT kT
              | 5 => v = .agg (bys P0)
              | 6 => v = .bool false
              | 7 => v = .bool false
              | 8 => v = .int .i64 0
              | 9 => v = .pointer (some ⟨bs, 176, none⟩)
              | 10 => v = .pointer (some ⟨bs, 176, none⟩)
              | 11 => v = .slice (some ⟨x0, 0, none⟩) 32 32
              | 12 => v = .slice aT lT kT
              | 13 => ∃ a n k, v = Value.slice a n k ∧ NumsAt .u8 W v F0
              | 14 => v = .bool true
              | 15 => v = .bool false
              | 16 => v = .bool false
              | 17 => v = .bool false
              | 18 => v = .int .i64 0
              | 19 => v = .pointer (some ⟨bs, 88, none⟩)
              | 20 => v = .pointer (some ⟨bs, 88, none⟩)
              | 21 => v = .agg (bys Q0)
              | 22 => v = (.slice (some ⟨b11, 0, none⟩) 32 32)
              | 23 => v = .slice (some ⟨bw, 0, none⟩) 2 2
              | 24 => v = .int .i64 0
              | 25 => v = .pointer (some ⟨bw, 0, none⟩)
              | 26 => v = .string (whoS 0)
              | 27 => v = .string (whoS 0 ++ apS)
              | 28 => v = (.slice (some ⟨b7 + 1, 0, none⟩) 32 32)
              | 29 => ∃ a n k, v = Value.slice a n k ∧ NumsAt .u8 W v D0
              | 30 => v = .agg (bys Q0)
              | 31 => v = .bool false
              | 32 => v = .bool false
              | 33 => v = .bool false
              | 34 => v = .int .i64 0
              | 35 => v = .pointer (some ⟨bs + 1, 0, none⟩)
              | 36 => v = .agg (bys A)
              | 37 => v = (.slice (some ⟨bf, 0, none⟩) 32 32)
              | 38 => v = .slice (some ⟨bw + 1, 0, none⟩) 2 2
              | 39 => v = .int .i64 0
              | 40 => v = .pointer (some ⟨bw + 1, 0, none⟩)
              | 41 => v = .string ⟨#[99, 108, 105, 101, 110, 116, 32, 105, 110]⟩
              | 42 => ∃ a n k, v = Value.slice a n k ∧ NumsAt .u8 W v C0
              | 43 => v = .agg (bys A)
              | _ => v = .bool false) mixed (by kernel_rfl) (by kernel_rfl) ?_ ?_ ?_
            · rintro (_ | _ | _ | _ | _ | _ | _ | _ | _ | _ | _ | _ | _ | _ | _ | _ | _ | _ | _ | _ | _ | _ | _ | _ | _ | _ | _ | _ | _ | _ | _ | _ | _ | _ | _ | _ | _ | _ | _ | _ | _ | _ | _ | _ | i) W W' v h hb
              all_goals first | exact h | exact PartsAt.below h hb | exact NumsAt.below h hb | exact sl_below h hb | exact SlAt.below h hb | exact FarAt.below h hb | exact PtrAt.below h hb | exact blk_spec h hb | exact spec_below h hb
            · intro i oi hoi x w9 hb9 hd
              rcases i with _ | _ | _ | _ | _ | _ | _ | _ | _ | _ | _ | _ | _ | _ | _ | _ | _ | _ | _ | _ | _ | _ | _ | _ | _ | _ | _ | _ | _ | _ | _ | _ | _ | _ | _ | _ | _ | _ | _ | _ | _ | _ | _ | _ | _ | i
              · obtain rfl := Option.some.inj hoi
                simp only [fill, Act.put, List.setIfInBounds_toArray, List.set_cons_succ, List.set_cons_zero]
                go_wp2_with fail
                exact ⟨_, rfl, Below.refl _ _, rfl⟩
              · obtain rfl := Option.some.inj hoi
                simp only [fill, Act.put, List.setIfInBounds_toArray, List.set_cons_succ, List.set_cons_zero]
                go_wp2_with fail
                exact ⟨_, rfl, Below.refl _ _, rfl⟩
              · obtain rfl := Option.some.inj hoi
                have h0 : (x 0) = .int .i64 0 := hd 0 (by kernel_rfl)
                have h1 : (x 1) = .pointer (some ⟨bs, 0, none⟩) := hd 1 (by kernel_rfl)
                simp only [fill, Act.put, List.setIfInBounds_toArray, List.set_cons_succ, List.set_cons_zero, h0, h1]
                go_wp2_with fail
                exact ⟨_, rfl, Below.refl _ _, rfl⟩
              · obtain rfl := Option.some.inj hoi
                have h2 : (x 2) = .pointer (some ⟨bs, 0, none⟩) := hd 2 (by kernel_rfl)
                simp only [fill, Act.put, List.setIfInBounds_toArray, List.set_cons_succ, List.set_cons_zero, h2]
                have e1 := Lib.hid (mid_load P0 (set_p0 (below_cell (below_all hc2.out hb9) S14.out)) Tryd.underlying55 rfl (by rw [P0l.out]; exact sz55))
                go_wp2_with (refine wpList_load_isG (by kernel_rfl) 55 _ rfl rfl e1.out ?_)
                exact ⟨_, rfl, Below.refl _ _, rfl⟩
              · obtain rfl := Option.some.inj hoi
                simp only [fill, Act.put, List.setIfInBounds_toArray, List.set_cons_succ, List.set_cons_zero]
                go_wp2_with fail
                exact ⟨_, rfl, Below.refl _ _, rfl⟩
              · obtain rfl := Option.some.inj hoi
                have h4 : (x 4) = .slice aT lT kT := hd 4 (by kernel_rfl)
                simp only [fill, Act.put, List.setIfInBounds_toArray, List.set_cons_succ, List.set_cons_zero, h4]
                go_wp2_with fail
                refine (packet_any _ T0 w9 ((hg.out.below b14.out hg.out.lt).below (below_all hc2.out hb9) (hg.out.below b14.out hg.out.lt).lt) (tn.out.below hb9) T0b.out (by rw [T0l.out]; omega)).mono ?_
                rintro ee w10 ⟨rfl, hb10⟩
                go_wp2_with fail
                exact ⟨_, rfl, hb10, by rw [hP0'.out]⟩
              · obtain rfl := Option.some.inj hoi
                have h3 : (x 3) = .agg (bys P0) := hd 3 (by kernel_rfl)
                have h5 : (x 5) = .agg (bys P0) := hd 5 (by kernel_rfl)
                simp only [fill, Act.put, List.setIfInBounds_toArray, List.set_cons_succ, List.set_cons_zero, h3, h5]
                have e1 := neq55 P0 P0 P0l.out P0l.out w9
                rw [show (P0 == P0) = true by simp] at e1
                replace e1 := Lib.hid e1
                go_wp2_with (refine wpList_binG (by kernel_rfl) .neq 55 _ _ _ rfl rfl rfl (run_eqGuard_agg _ _ _ _ _ _ _ guard55) e1.out ?_)
                exact ⟨_, rfl, Below.refl _ _, rfl⟩
              · obtain rfl := Option.some.inj hoi
                have h6 : (x 6) = .bool false := hd 6 (by kernel_rfl)
                simp only [fill, Act.put, List.setIfInBounds_toArray, List.set_cons_succ, List.set_cons_zero, h6]
                go_wp2_with fail
                exact ⟨_, rfl, Below.refl _ _, rfl⟩
              · obtain rfl := Option.some.inj hoi
                have h7 : (x 7) = .bool false := hd 7 (by kernel_rfl)
                simp only [fill, Act.put, List.setIfInBounds_toArray, List.set_cons_succ, List.set_cons_zero, h7]
                go_wp2_with fail
                exact ⟨_, rfl, Below.refl _ _, rfl⟩
              · obtain rfl := Option.some.inj hoi
                have h7 : (x 7) = .bool false := hd 7 (by kernel_rfl)
                simp only [fill, Act.put, List.setIfInBounds_toArray, List.set_cons_succ, List.set_cons_zero, h7]
                go_wp2_with fail
                exact ⟨_, rfl, Below.refl _ _, rfl⟩
              · obtain rfl := Option.some.inj hoi
                have h7 : (x 7) = .bool false := hd 7 (by kernel_rfl)
                have h8 : (x 8) = .int .i64 0 := hd 8 (by kernel_rfl)
                have h9 : (x 9) = .pointer (some ⟨bs, 176, none⟩) := hd 9 (by kernel_rfl)
                simp only [fill, Act.put, List.setIfInBounds_toArray, List.set_cons_succ, List.set_cons_zero, h7, h8, h9]
                go_wp2_with fail
                exact ⟨_, rfl, Below.refl _ _, rfl⟩
              · obtain rfl := Option.some.inj hoi
                have h7 : (x 7) = .bool false := hd 7 (by kernel_rfl)
                have h10 : (x 10) = .pointer (some ⟨bs, 176, none⟩) := hd 10 (by kernel_rfl)
                simp only [fill, Act.put, List.setIfInBounds_toArray, List.set_cons_succ, List.set_cons_zero, h7, h10]
                have cc : w9.cell? ⟨bs, 176, none⟩ = some (.slice (some ⟨x0, 0, none⟩) 32 32) := ((below_cell (below_all hc2.out hb9) S14.out).cell 176).trans (set_at0 P0l.out P1l.out Q0l.out Q1l.out)
                go_wp2_with fail
                exact ⟨_, rfl, Below.refl _ _, rfl⟩
              · obtain rfl := Option.some.inj hoi
                have h7 : (x 7) = .bool false := hd 7 (by kernel_rfl)
                simp only [fill, Act.put, List.setIfInBounds_toArray, List.set_cons_succ, List.set_cons_zero, h7]
                go_wp2_with fail
                exact ⟨_, rfl, Below.refl _ _, rfl⟩
              · obtain rfl := Option.some.inj hoi
                have h7 : (x 7) = .bool false := hd 7 (by kernel_rfl)
                have h12 : (x 12) = .slice aT lT kT := hd 12 (by kernel_rfl)
                simp only [fill, Act.put, List.setIfInBounds_toArray, List.set_cons_succ, List.set_cons_zero, h7, h12]
                go_wp2_with fail
                refine (lab_any _ _ T0 [] finS 32 _ w9 rfl ((hg.out.below b14.out hg.out.lt).below (below_all hc2.out hb9) (hg.out.below b14.out hg.out.lt).lt) (tn.out.below hb9) (nums_nil _ _) T0b.out byt_nil (by rw [T0l.out]; omega) (by decide) (by simp) (by omega) (by omega)).mono ?_
                rintro ee w10 ⟨v10, rfl, hn10, _, hb10⟩
                rw [hF0'.out] at hn10
                obtain ⟨a9, l9, k9, rfl⟩ := slice_any hn10
                go_wp2_with fail
                exact ⟨_, rfl, hb10, _, _, _, rfl, hn10⟩
              · obtain rfl := Option.some.inj hoi
                have h7 : (x 7) = .bool false := hd 7 (by kernel_rfl)
                have h11 : (x 11) = .slice (some ⟨x0, 0, none⟩) 32 32 := hd 11 (by kernel_rfl)
                have h13 : ∃ a n k, (x 13) = Value.slice a n k ∧ NumsAt .u8 w9 (x 13) F0 := hd 13 (by kernel_rfl)
                simp only [fill, Act.put, List.setIfInBounds_toArray, List.set_cons_succ, List.set_cons_zero, h7, h11]
                obtain ⟨a7, l7, k7, e7, hn7⟩ := h13
                rw [e7] at hn7
                simp only [e7]
                have hs := Lib.hid (show (F0 == F0) = true by simp)
                go_wp2_with fail
                refine (same_is _ _ F0 F0 true w9 (s14.out.below (below_all hc2.out hb9)) hn7 hs.out).mono ?_
                rintro ee w10 ⟨rfl, hb10⟩
                go_wp2_with fail
                exact ⟨_, rfl, hb10, rfl⟩
              · obtain rfl := Option.some.inj hoi
                have h7 : (x 7) = .bool false := hd 7 (by kernel_rfl)
                have h14 : (x 14) = .bool true := hd 14 (by kernel_rfl)
                simp only [fill, Act.put, List.setIfInBounds_toArray, List.set_cons_succ, List.set_cons_zero, h7, h14]
                go_wp2_with fail
                exact ⟨_, rfl, Below.refl _ _, rfl⟩
              · obtain rfl := Option.some.inj hoi
                have h7 : (x 7) = .bool false := hd 7 (by kernel_rfl)
                have h15 : (x 15) = .bool false := hd 15 (by kernel_rfl)
                simp only [fill, Act.put, List.setIfInBounds_toArray, List.set_cons_succ, List.set_cons_zero, h7, h15]
                go_wp2_with fail
                exact ⟨_, rfl, Below.refl _ _, rfl⟩
              · obtain rfl := Option.some.inj hoi
                have h16 : (x 16) = .bool false := hd 16 (by kernel_rfl)
                simp only [fill, Act.put, List.setIfInBounds_toArray, List.set_cons_succ, List.set_cons_zero, h16]
                go_wp2_with fail
                exact ⟨_, rfl, Below.refl _ _, rfl⟩
              · obtain rfl := Option.some.inj hoi
                have h17 : (x 17) = .bool false := hd 17 (by kernel_rfl)
                simp only [fill, Act.put, List.setIfInBounds_toArray, List.set_cons_succ, List.set_cons_zero, h17]
                go_wp2_with fail
                exact ⟨_, rfl, Below.refl _ _, rfl⟩
              · obtain rfl := Option.some.inj hoi
                have h17 : (x 17) = .bool false := hd 17 (by kernel_rfl)
                simp only [fill, Act.put, List.setIfInBounds_toArray, List.set_cons_succ, List.set_cons_zero, h17]
                go_wp2_with fail
                exact ⟨_, rfl, Below.refl _ _, rfl⟩
              · obtain rfl := Option.some.inj hoi
                have h17 : (x 17) = .bool false := hd 17 (by kernel_rfl)
                have h18 : (x 18) = .int .i64 0 := hd 18 (by kernel_rfl)
                have h19 : (x 19) = .pointer (some ⟨bs, 88, none⟩) := hd 19 (by kernel_rfl)
                simp only [fill, Act.put, List.setIfInBounds_toArray, List.set_cons_succ, List.set_cons_zero, h17, h18, h19]
                go_wp2_with fail
                exact ⟨_, rfl, Below.refl _ _, rfl⟩
              · obtain rfl := Option.some.inj hoi
                have h17 : (x 17) = .bool false := hd 17 (by kernel_rfl)
                have h20 : (x 20) = .pointer (some ⟨bs, 88, none⟩) := hd 20 (by kernel_rfl)
                simp only [fill, Act.put, List.setIfInBounds_toArray, List.set_cons_succ, List.set_cons_zero, h17, h20]
                have e1 := Lib.hid (mid_load Q0 (set_p2 (below_cell (below_all hc2.out hb9) S14.out) P0l.out P1l.out) Tryd.underlying55 rfl (by rw [Q0l.out]; exact sz55))
                go_wp2_with (refine wpList_load_isG (by kernel_rfl) 55 _ rfl rfl e1.out ?_)
                exact ⟨_, rfl, Below.refl _ _, rfl⟩
              · obtain rfl := Option.some.inj hoi
                have h17 : (x 17) = .bool false := hd 17 (by kernel_rfl)
                simp only [fill, Act.put, List.setIfInBounds_toArray, List.set_cons_succ, List.set_cons_zero, h17]
                go_wp2_with fail
                exact ⟨_, rfl, Below.refl _ _, rfl⟩
              · obtain rfl := Option.some.inj hoi
                have h17 : (x 17) = .bool false := hd 17 (by kernel_rfl)
                simp only [fill, Act.put, List.setIfInBounds_toArray, List.set_cons_succ, List.set_cons_zero, h17]
                go_wp2_with fail
                exact ⟨_, rfl, Below.refl _ _, rfl⟩
              · obtain rfl := Option.some.inj hoi
                have h17 : (x 17) = .bool false := hd 17 (by kernel_rfl)
                simp only [fill, Act.put, List.setIfInBounds_toArray, List.set_cons_succ, List.set_cons_zero, h17]
                go_wp2_with fail
                exact ⟨_, rfl, Below.refl _ _, rfl⟩
              · obtain rfl := Option.some.inj hoi
                have h17 : (x 17) = .bool false := hd 17 (by kernel_rfl)
                have h23 : (x 23) = .slice (some ⟨bw, 0, none⟩) 2 2 := hd 23 (by kernel_rfl)
                have h24 : (x 24) = .int .i64 0 := hd 24 (by kernel_rfl)
                simp only [fill, Act.put, List.setIfInBounds_toArray, List.set_cons_succ, List.set_cons_zero, h17, h23, h24]
                go_wp2_with fail
                exact ⟨_, rfl, Below.refl _ _, rfl⟩
              · obtain rfl := Option.some.inj hoi
                have h17 : (x 17) = .bool false := hd 17 (by kernel_rfl)
                have h25 : (x 25) = .pointer (some ⟨bw, 0, none⟩) := hd 25 (by kernel_rfl)
                simp only [fill, Act.put, List.setIfInBounds_toArray, List.set_cons_succ, List.set_cons_zero, h17, h25]
                have cc : w9.cell? ⟨bw, 0, none⟩ = some (.string (whoS 0)) := (below_cell (below_all hc2.out hb9) W14.out).cell 0
                go_wp2_with fail
                exact ⟨_, rfl, Below.refl _ _, rfl⟩
              · obtain rfl := Option.some.inj hoi
                have h17 : (x 17) = .bool false := hd 17 (by kernel_rfl)
                have h26 : (x 26) = .string (whoS 0) := hd 26 (by kernel_rfl)
                simp only [fill, Act.put, List.setIfInBounds_toArray, List.set_cons_succ, List.set_cons_zero, h17, h26]
                go_wp2_with fail
                exact ⟨_, rfl, Below.refl _ _, rfl⟩
              · obtain rfl := Option.some.inj hoi
                have h17 : (x 17) = .bool false := hd 17 (by kernel_rfl)
                simp only [fill, Act.put, List.setIfInBounds_toArray, List.set_cons_succ, List.set_cons_zero, h17]
                go_wp2_with fail
                exact ⟨_, rfl, Below.refl _ _, rfl⟩
              · obtain rfl := Option.some.inj hoi
                have h17 : (x 17) = .bool false := hd 17 (by kernel_rfl)
                have h22 : (x 22) = (.slice (some ⟨b11, 0, none⟩) 32 32) := hd 22 (by kernel_rfl)
                have h27 : (x 27) = .string (whoS 0 ++ apS) := hd 27 (by kernel_rfl)
                have h28 : (x 28) = (.slice (some ⟨b7 + 1, 0, none⟩) 32 32) := hd 28 (by kernel_rfl)
                simp only [fill, Act.put, List.setIfInBounds_toArray, List.set_cons_succ, List.set_cons_zero, h17, h22, h27, h28]
                go_wp2_with fail
                refine (lab_any _ _ M n (whoS 0 ++ apS) 32 _ w9 rfl ((hg.out.below b14.out hg.out.lt).below (below_all hc2.out hb9) (hg.out.below b14.out hg.out.lt).lt) ((below_cell (below_all hc2.out hb9) Mx14.out).nums 32 Ml.out (by omega)) ((below_cell (below_all hc2.out hb9) n14.out).nums 32 nl.out (by omega)) Mb.out nb.out (by rw [Ml.out]; omega) (who_ap 0) (by rw [nl.out]; omega) (by omega) (by omega)).mono ?_
                rintro ee w10 ⟨v10, rfl, hn10, _, hb10⟩
                rw [hD0'.out] at hn10
                obtain ⟨a9, l9, k9, rfl⟩ := slice_any hn10
                go_wp2_with fail
                exact ⟨_, rfl, hb10, _, _, _, rfl, hn10⟩
              · obtain rfl := Option.some.inj hoi
                have h17 : (x 17) = .bool false := hd 17 (by kernel_rfl)
                have h29 : ∃ a n k, (x 29) = Value.slice a n k ∧ NumsAt .u8 w9 (x 29) D0 := hd 29 (by kernel_rfl)
                simp only [fill, Act.put, List.setIfInBounds_toArray, List.set_cons_succ, List.set_cons_zero, h17]
                obtain ⟨a7, l7, k7, e7, hn7⟩ := h29
                rw [e7] at hn7
                simp only [e7]
                go_wp2_with fail
                refine (packet_any _ D0 w9 ((hg.out.below b14.out hg.out.lt).below (below_all hc2.out hb9) (hg.out.below b14.out hg.out.lt).lt) hn7 D0b.out (by rw [D0l.out]; omega)).mono ?_
                rintro ee w10 ⟨rfl, hb10⟩
                go_wp2_with fail
                exact ⟨_, rfl, hb10, by rw [hQ0'.out]⟩
              · obtain rfl := Option.some.inj hoi
                have h17 : (x 17) = .bool false := hd 17 (by kernel_rfl)
                have h21 : (x 21) = .agg (bys Q0) := hd 21 (by kernel_rfl)
                have h30 : (x 30) = .agg (bys Q0) := hd 30 (by kernel_rfl)
                simp only [fill, Act.put, List.setIfInBounds_toArray, List.set_cons_succ, List.set_cons_zero, h17, h21, h30]
                have e1 := neq55 Q0 Q0 Q0l.out Q0l.out w9
                rw [show (Q0 == Q0) = true by simp] at e1
                replace e1 := Lib.hid e1
                go_wp2_with (refine wpList_binG (by kernel_rfl) .neq 55 _ _ _ rfl rfl rfl (run_eqGuard_agg _ _ _ _ _ _ _ guard55) e1.out ?_)
                exact ⟨_, rfl, Below.refl _ _, rfl⟩
              · obtain rfl := Option.some.inj hoi
                have h17 : (x 17) = .bool false := hd 17 (by kernel_rfl)
                have h31 : (x 31) = .bool false := hd 31 (by kernel_rfl)
                simp only [fill, Act.put, List.setIfInBounds_toArray, List.set_cons_succ, List.set_cons_zero, h17, h31]
                go_wp2_with fail
                exact ⟨_, rfl, Below.refl _ _, rfl⟩
              · obtain rfl := Option.some.inj hoi
                have h32 : (x 32) = .bool false := hd 32 (by kernel_rfl)
                simp only [fill, Act.put, List.setIfInBounds_toArray, List.set_cons_succ, List.set_cons_zero, h32]
                go_wp2_with fail
                exact ⟨_, rfl, Below.refl _ _, rfl⟩
              · obtain rfl := Option.some.inj hoi
                have h33 : (x 33) = .bool false := hd 33 (by kernel_rfl)
                simp only [fill, Act.put, List.setIfInBounds_toArray, List.set_cons_succ, List.set_cons_zero, h33]
                go_wp2_with fail
                exact ⟨_, rfl, Below.refl _ _, rfl⟩
              · obtain rfl := Option.some.inj hoi
                have h33 : (x 33) = .bool false := hd 33 (by kernel_rfl)
                have h34 : (x 34) = .int .i64 0 := hd 34 (by kernel_rfl)
                simp only [fill, Act.put, List.setIfInBounds_toArray, List.set_cons_succ, List.set_cons_zero, h33, h34]
                go_wp2_with fail
                exact ⟨_, rfl, Below.refl _ _, rfl⟩
              · obtain rfl := Option.some.inj hoi
                have h33 : (x 33) = .bool false := hd 33 (by kernel_rfl)
                have h35 : (x 35) = .pointer (some ⟨bs + 1, 0, none⟩) := hd 35 (by kernel_rfl)
                simp only [fill, Act.put, List.setIfInBounds_toArray, List.set_cons_succ, List.set_cons_zero, h33, h35]
                have e1 := Lib.hid (mid_load A (Blk.part (A := []) (B := A.map (Value.int .u8)) (C := B.map (Value.int .u8)) (by simpa [bys, hfl'.out] using (below_cell (below_all hc2.out hb9) C14.out)) 0 rfl) Tryd.underlying55 rfl (by rw [lA.out]; exact sz55))
                go_wp2_with (refine wpList_load_isG (by kernel_rfl) 55 _ rfl rfl e1.out ?_)
                exact ⟨_, rfl, Below.refl _ _, rfl⟩
              · obtain rfl := Option.some.inj hoi
                have h33 : (x 33) = .bool false := hd 33 (by kernel_rfl)
                simp only [fill, Act.put, List.setIfInBounds_toArray, List.set_cons_succ, List.set_cons_zero, h33]
                go_wp2_with fail
                exact ⟨_, rfl, Below.refl _ _, rfl⟩
              · obtain rfl := Option.some.inj hoi
                have h33 : (x 33) = .bool false := hd 33 (by kernel_rfl)
                simp only [fill, Act.put, List.setIfInBounds_toArray, List.set_cons_succ, List.set_cons_zero, h33]
                go_wp2_with fail
                exact ⟨_, rfl, Below.refl _ _, rfl⟩
              · obtain rfl := Option.some.inj hoi
                have h33 : (x 33) = .bool false := hd 33 (by kernel_rfl)
                simp only [fill, Act.put, List.setIfInBounds_toArray, List.set_cons_succ, List.set_cons_zero, h33]
                go_wp2_with fail
                exact ⟨_, rfl, Below.refl _ _, rfl⟩
              · obtain rfl := Option.some.inj hoi
                have h33 : (x 33) = .bool false := hd 33 (by kernel_rfl)
                have h38 : (x 38) = .slice (some ⟨bw + 1, 0, none⟩) 2 2 := hd 38 (by kernel_rfl)
                have h39 : (x 39) = .int .i64 0 := hd 39 (by kernel_rfl)
                simp only [fill, Act.put, List.setIfInBounds_toArray, List.set_cons_succ, List.set_cons_zero, h33, h38, h39]
                go_wp2_with fail
                exact ⟨_, rfl, Below.refl _ _, rfl⟩
              · obtain rfl := Option.some.inj hoi
                have h33 : (x 33) = .bool false := hd 33 (by kernel_rfl)
                have h40 : (x 40) = .pointer (some ⟨bw + 1, 0, none⟩) := hd 40 (by kernel_rfl)
                simp only [fill, Act.put, List.setIfInBounds_toArray, List.set_cons_succ, List.set_cons_zero, h33, h40]
                have cc : w9.cell? ⟨bw + 1, 0, none⟩ = some (.string ⟨#[99, 108, 105, 101, 110, 116, 32, 105, 110]⟩) := (below_cell (below_all hc2.out hb9) I14.out).cell 0
                go_wp2_with fail
                exact ⟨_, rfl, Below.refl _ _, rfl⟩
              · obtain rfl := Option.some.inj hoi
                have h33 : (x 33) = .bool false := hd 33 (by kernel_rfl)
                have h37 : (x 37) = (.slice (some ⟨bf, 0, none⟩) 32 32) := hd 37 (by kernel_rfl)
                have h41 : (x 41) = .string ⟨#[99, 108, 105, 101, 110, 116, 32, 105, 110]⟩ := hd 41 (by kernel_rfl)
                simp only [fill, Act.put, List.setIfInBounds_toArray, List.set_cons_succ, List.set_cons_zero, h33, h37, h41]
                go_wp2_with fail
                refine (lab_any _ _ fi [] ⟨#[99, 108, 105, 101, 110, 116, 32, 105, 110]⟩ 32 _ w9 rfl ((hg.out.below b14.out hg.out.lt).below (below_all hc2.out hb9) (hg.out.below b14.out hg.out.lt).lt) ((below_cell (below_all hc2.out hb9) fx14.out).nums 32 fil.out (by omega)) (nums_nil _ _) fib.out byt_nil (by rw [fil.out]; omega) (by decide) (by simp) (by omega) (by omega)).mono ?_
                rintro ee w10 ⟨v10, rfl, hn10, _, hb10⟩
                rw [← hC0.out] at hn10
                obtain ⟨a9, l9, k9, rfl⟩ := slice_any hn10
                go_wp2_with fail
                exact ⟨_, rfl, hb10, _, _, _, rfl, hn10⟩
              · obtain rfl := Option.some.inj hoi
                have h33 : (x 33) = .bool false := hd 33 (by kernel_rfl)
                have h42 : ∃ a n k, (x 42) = Value.slice a n k ∧ NumsAt .u8 w9 (x 42) C0 := hd 42 (by kernel_rfl)
                simp only [fill, Act.put, List.setIfInBounds_toArray, List.set_cons_succ, List.set_cons_zero, h33]
                obtain ⟨a7, l7, k7, e7, hn7⟩ := h42
                rw [e7] at hn7
                simp only [e7]
                go_wp2_with fail
                refine (packet_any _ C0 w9 ((hg.out.below b14.out hg.out.lt).below (below_all hc2.out hb9) (hg.out.below b14.out hg.out.lt).lt) hn7 C0b.out (by rw [C0l.out]; omega)).mono ?_
                rintro ee w10 ⟨rfl, hb10⟩
                go_wp2_with fail
                exact ⟨_, rfl, hb10, by rw [hA.out]⟩
              · obtain rfl := Option.some.inj hoi
                have h33 : (x 33) = .bool false := hd 33 (by kernel_rfl)
                have h36 : (x 36) = .agg (bys A) := hd 36 (by kernel_rfl)
                have h43 : (x 43) = .agg (bys A) := hd 43 (by kernel_rfl)
                simp only [fill, Act.put, List.setIfInBounds_toArray, List.set_cons_succ, List.set_cons_zero, h33, h36, h43]
                have e1 := neq55 A A lA.out lA.out w9
                rw [show (A == A) = true by simp] at e1
                replace e1 := Lib.hid e1
                go_wp2_with (refine wpList_binG (by kernel_rfl) .neq 55 _ _ _ rfl rfl rfl (run_eqGuard_agg _ _ _ _ _ _ _ guard55) e1.out ?_)
                exact ⟨_, rfl, Below.refl _ _, rfl⟩
              · cases hoi
            · intro x w9 hb9 hd
              have h33 : (x 33) = .bool false := hd 33 (by decide)
              have h44 : (x 44) = .bool false := hd 44 (by decide)
              simp only [fill, Act.put, List.setIfInBounds_toArray, List.set_cons_succ, List.set_cons_zero, h33, h44]
              have hc3 := Lib.hid (below_all hc2.out hb9)
              clear hd h33 h44 hb9 hc2 tn
              generalize w9 = w8 at hc3 ⊢
              go_wp2_with fail
              go_roundw
              case rel => exact ⟨.inr (.inl rfl), hc3.out⟩
              case measure => simp [intOf]
        · clear hT0' hT0 hP0' hP0 hF0' hF0 hD0' hD0 hQ0' hQ0 T0l D0l T0b F0b D0b E1l E2l E1b E2b hE1 hE2 hH' hM' el eb he nnl nnb hnn hb hbh hbd hl hlh hld hu hv hz C0l C0b hC0
          go_wp2_with fail
          refine region_rel_lit (.step (.step (.step (.step (.step (.step (.step (.step (.base _))))))))) (fun i W v => match i with
            | 0 => v = (.slice (some ⟨b10, 0, none⟩) 32 32)
            | 1 => v = .slice (some ⟨bw, 0, none⟩) 2 2
            | 2 => v = .int .i64 1
            | 3 => v = .pointer (some ⟨bw, 1, none⟩)
            | 4 => v = .string (whoS 1)
            | 5 => v = .string (whoS 1 ++ hsS)
            | 6 => v = (.slice (some ⟨b7 + 1, 0, none⟩) 32 32)
            | _ => ∃ a n k, v = Value.slice a n k ∧ NumsAt .u8 W v T1) mixed (by kernel_rfl) (by kernel_rfl) ?_ ?_ ?_
          · rintro (_ | _ | _ | _ | _ | _ | _ | i) W W' v h hb
            all_goals first | exact h | exact PartsAt.below h hb | exact NumsAt.below h hb | exact sl_below h hb | exact SlAt.below h hb | exact FarAt.below h hb | exact PtrAt.below h hb | exact blk_spec h hb | exact spec_below h hb
          · intro i oi hoi x w9 hb9 hd
            rcases i with _ | _ | _ | _ | _ | _ | _ | _ | i
            · obtain rfl := Option.some.inj hoi
              simp only [fill, Act.put, List.setIfInBounds_toArray, List.set_cons_succ, List.set_cons_zero]
              go_wp2_with fail
              exact ⟨_, rfl, Below.refl _ _, rfl⟩
            · obtain rfl := Option.some.inj hoi
              simp only [fill, Act.put, List.setIfInBounds_toArray, List.set_cons_succ, List.set_cons_zero]
              go_wp2_with fail
              exact ⟨_, rfl, Below.refl _ _, rfl⟩
            · obtain rfl := Option.some.inj hoi
              simp only [fill, Act.put, List.setIfInBounds_toArray, List.set_cons_succ, List.set_cons_zero]
              go_wp2_with fail
              exact ⟨_, rfl, Below.refl _ _, rfl⟩
            · obtain rfl := Option.some.inj hoi
              have h1 : (x 1) = .slice (some ⟨bw, 0, none⟩) 2 2 := hd 1 (by kernel_rfl)
              have h2 : (x 2) = .int .i64 1 := hd 2 (by kernel_rfl)
              simp only [fill, Act.put, List.setIfInBounds_toArray, List.set_cons_succ, List.set_cons_zero, h1, h2]
              go_wp2_with fail
              exact ⟨_, rfl, Below.refl _ _, rfl⟩
            · obtain rfl := Option.some.inj hoi
              have h3 : (x 3) = .pointer (some ⟨bw, 1, none⟩) := hd 3 (by kernel_rfl)
              simp only [fill, Act.put, List.setIfInBounds_toArray, List.set_cons_succ, List.set_cons_zero, h3]
              have cc : w9.cell? ⟨bw, 1, none⟩ = some (.string (whoS 1)) := (below_cell (below_all hc.out hb9) W14.out).cell 1
              go_wp2_with fail
              exact ⟨_, rfl, Below.refl _ _, rfl⟩
            · obtain rfl := Option.some.inj hoi
              have h4 : (x 4) = .string (whoS 1) := hd 4 (by kernel_rfl)
              simp only [fill, Act.put, List.setIfInBounds_toArray, List.set_cons_succ, List.set_cons_zero, h4]
              go_wp2_with fail
              exact ⟨_, rfl, Below.refl _ _, rfl⟩
            · obtain rfl := Option.some.inj hoi
              simp only [fill, Act.put, List.setIfInBounds_toArray, List.set_cons_succ, List.set_cons_zero]
              go_wp2_with fail
              exact ⟨_, rfl, Below.refl _ _, rfl⟩
            · obtain rfl := Option.some.inj hoi
              have h0 : (x 0) = (.slice (some ⟨b10, 0, none⟩) 32 32) := hd 0 (by kernel_rfl)
              have h5 : (x 5) = .string (whoS 1 ++ hsS) := hd 5 (by kernel_rfl)
              have h6 : (x 6) = (.slice (some ⟨b7 + 1, 0, none⟩) 32 32) := hd 6 (by kernel_rfl)
              simp only [fill, Act.put, List.setIfInBounds_toArray, List.set_cons_succ, List.set_cons_zero, h0, h5, h6]
              go_wp2_with fail
              refine (lab_any _ _ H n (whoS 1 ++ hsS) 32 _ w9 rfl ((hg.out.below b14.out hg.out.lt).below (below_all hc.out hb9) (hg.out.below b14.out hg.out.lt).lt) ((below_cell (below_all hc.out hb9) Hx14.out).nums 32 Hl.out (by omega)) ((below_cell (below_all hc.out hb9) n14.out).nums 32 nl.out (by omega)) Hb.out nb.out (by rw [Hl.out]; omega) (who_hs 1) (by rw [nl.out]; omega) (by omega) (by omega)).mono ?_
              rintro ee w10 ⟨v10, rfl, hn10, _, hb10⟩
              rw [hT1'.out] at hn10
              obtain ⟨a9, l9, k9, rfl⟩ := slice_any hn10
              go_wp2_with fail
              exact ⟨_, rfl, hb10, _, _, _, rfl, hn10⟩
            · cases hoi
          · intro x w9 hb9 hd
            have h7 : ∃ a n k, (x 7) = Value.slice a n k ∧ NumsAt .u8 w9 (x 7) T1 := hd 7 (by decide)
            simp only [fill, Act.put, List.setIfInBounds_toArray, List.set_cons_succ, List.set_cons_zero]
            obtain ⟨aT, lT, kT, eT, tn⟩ := h7
            rw [eT] at tn
            simp only [eT]
            have hc2 := Lib.hid (below_all hc.out hb9)
            replace tn := Lib.hid tn
            clear hd eT hb9 hc
            generalize w9 = wt at hc2 tn ⊢
            go_wp2_with fail
            refine region_rel_lit (.step (.step (.step (.step (.step (.step (.step (.step (.step (.step (.step (.step (.step (.step (.step (.step (.step (.step (.step (.step (.step (.step (.step (.step (.step (.step (.step (.step (.step (.step (.step (.step (.step (.step (.step (.step (.step (.step (.step (.step (.step (.step (.step (.step (.step (.base _)))))))))))))))))))))))))))))))))))))))))))))) (fun i W v => match i with
              | 0 => v = .int .i64 1
              | 1 => v = .pointer (some ⟨bs, 0, none⟩)
              | 2 => v = .pointer (some ⟨bs, 44, none⟩)
              | 3 => v = .agg (bys P1)
              | 4 => v = .slice aT lT kT
              | 5 => v = .agg (bys P1)
              | 6 => v = .bool false
              | 7 => v = .bool false
              | 8 => v = .int .i64 1
              | 9 => v = .pointer (some ⟨bs, 176, none⟩)
              | 10 => v = .pointer (some ⟨bs, 177, none⟩)
              | 11 => v = .slice (some ⟨x1, 0, none⟩) 32 32
              | 12 => v = .slice aT lT kT
              | 13 => ∃ a n k, v = Value.slice a n k ∧ NumsAt .u8 W v F1
              | 14 => v = .bool true
              | 15 => v = .bool false
              | 16 => v = .bool false
              | 17 => v = .bool false
              | 18 => v = .int .i64 1
              | 19 => v = .pointer (some ⟨bs, 88, none⟩)
              | 20 => v = .pointer (some ⟨bs, 132, none⟩)
              | 21 => v = .agg (bys Q1)
              | 22 => v = (.slice (some ⟨b11, 0, none⟩) 32 32)
              | 23 => v = .slice (some ⟨bw, 0, none⟩) 2 2
              | 24 => v = .int .i64 1
              | 25 => v = .pointer (some ⟨bw, 1, none⟩)
              | 26 => v = .string (whoS 1)
              | 27 => v = .string (whoS 1 ++ apS)
              | 28 => v = (.slice (some ⟨b7 + 1, 0, none⟩) 32 32)
              | 29 => ∃ a n k, v = Value.slice a n k ∧ NumsAt .u8 W v D1
              | 30 => v = .agg (bys Q1)
              | 31 => v = .bool false
              | 32 => v = .bool false
              | 33 => v = .bool false
              | 34 => v = .int .i64 1
              | 35 => v = .pointer (some ⟨bs + 1, 44, none⟩)
              | 36 => v = .agg (bys B)
              | 37 => v = (.slice (some ⟨bf, 0, none⟩) 32 32)
              | 38 => v = .slice (some ⟨bw + 1, 0, none⟩) 2 2
              | 39 => v = .int .i64 1
              | 40 => v = .pointer (some ⟨bw + 1, 1, none⟩)
              | 41 => v = .string ⟨#[115, 101, 114, 118, 101, 114, 32, 105, 110]⟩
              | 42 => ∃ a n k, v = Value.slice a n k ∧ NumsAt .u8 W v C1
              | 43 => v = .agg (bys B)
              | _ => v = .bool false) mixed (by kernel_rfl) (by kernel_rfl) ?_ ?_ ?_
            · rintro (_ | _ | _ | _ | _ | _ | _ | _ | _ | _ | _ | _ | _ | _ | _ | _ | _ | _ | _ | _ | _ | _ | _ | _ | _ | _ | _ | _ | _ | _ | _ | _ | _ | _ | _ | _ | _ | _ | _ | _ | _ | _ | _ | _ | i) W W' v h hb
              all_goals first | exact h | exact PartsAt.below h hb | exact NumsAt.below h hb | exact sl_below h hb | exact SlAt.below h hb | exact FarAt.below h hb | exact PtrAt.below h hb | exact blk_spec h hb | exact spec_below h hb
            · intro i oi hoi x w9 hb9 hd
              rcases i with _ | _ | _ | _ | _ | _ | _ | _ | _ | _ | _ | _ | _ | _ | _ | _ | _ | _ | _ | _ | _ | _ | _ | _ | _ | _ | _ | _ | _ | _ | _ | _ | _ | _ | _ | _ | _ | _ | _ | _ | _ | _ | _ | _ | _ | i
              · obtain rfl := Option.some.inj hoi
                simp only [fill, Act.put, List.setIfInBounds_toArray, List.set_cons_succ, List.set_cons_zero]
                go_wp2_with fail
                exact ⟨_, rfl, Below.refl _ _, rfl⟩
              · obtain rfl := Option.some.inj hoi
                simp only [fill, Act.put, List.setIfInBounds_toArray, List.set_cons_succ, List.set_cons_zero]
                go_wp2_with fail
                exact ⟨_, rfl, Below.refl _ _, rfl⟩
              · obtain rfl := Option.some.inj hoi
                have h0 : (x 0) = .int .i64 1 := hd 0 (by kernel_rfl)
                have h1 : (x 1) = .pointer (some ⟨bs, 0, none⟩) := hd 1 (by kernel_rfl)
                simp only [fill, Act.put, List.setIfInBounds_toArray, List.set_cons_succ, List.set_cons_zero, h0, h1]
                go_wp2_with fail
                exact ⟨_, rfl, Below.refl _ _, rfl⟩
              · obtain rfl := Option.some.inj hoi
                have h2 : (x 2) = .pointer (some ⟨bs, 44, none⟩) := hd 2 (by kernel_rfl)
                simp only [fill, Act.put, List.setIfInBounds_toArray, List.set_cons_succ, List.set_cons_zero, h2]
                have e1 := Lib.hid (mid_load P1 (set_p1 (below_cell (below_all hc2.out hb9) S14.out) P0l.out) Tryd.underlying55 rfl (by rw [P1l.out]; exact sz55))
                go_wp2_with (refine wpList_load_isG (by kernel_rfl) 55 _ rfl rfl e1.out ?_)
                exact ⟨_, rfl, Below.refl _ _, rfl⟩
              · obtain rfl := Option.some.inj hoi
                simp only [fill, Act.put, List.setIfInBounds_toArray, List.set_cons_succ, List.set_cons_zero]
                go_wp2_with fail
                exact ⟨_, rfl, Below.refl _ _, rfl⟩
              · obtain rfl := Option.some.inj hoi
                have h4 : (x 4) = .slice aT lT kT := hd 4 (by kernel_rfl)
                simp only [fill, Act.put, List.setIfInBounds_toArray, List.set_cons_succ, List.set_cons_zero, h4]
                go_wp2_with fail
                refine (packet_any _ T1 w9 ((hg.out.below b14.out hg.out.lt).below (below_all hc2.out hb9) (hg.out.below b14.out hg.out.lt).lt) (tn.out.below hb9) T1b.out (by rw [T1l.out]; omega)).mono ?_
                rintro ee w10 ⟨rfl, hb10⟩
                go_wp2_with fail
                exact ⟨_, rfl, hb10, by rw [hP1'.out]⟩
              · obtain rfl := Option.some.inj hoi
                have h3 : (x 3) = .agg (bys P1) := hd 3 (by kernel_rfl)
                have h5 : (x 5) = .agg (bys P1) := hd 5 (by kernel_rfl)
                simp only [fill, Act.put, List.setIfInBounds_toArray, List.set_cons_succ, List.set_cons_zero, h3, h5]
                have e1 := neq55 P1 P1 P1l.out P1l.out w9
                rw [show (P1 == P1) = true by simp] at e1
                replace e1 := Lib.hid e1
                go_wp2_with (refine wpList_binG (by kernel_rfl) .neq 55 _ _ _ rfl rfl rfl (run_eqGuard_agg _ _ _ _ _ _ _ guard55) e1.out ?_)
                exact ⟨_, rfl, Below.refl _ _, rfl⟩
              · obtain rfl := Option.some.inj hoi
                have h6 : (x 6) = .bool false := hd 6 (by kernel_rfl)
                simp only [fill, Act.put, List.setIfInBounds_toArray, List.set_cons_succ, List.set_cons_zero, h6]
                go_wp2_with fail
                exact ⟨_, rfl, Below.refl _ _, rfl⟩
              · obtain rfl := Option.some.inj hoi
                have h7 : (x 7) = .bool false := hd 7 (by kernel_rfl)
                simp only [fill, Act.put, List.setIfInBounds_toArray, List.set_cons_succ, List.set_cons_zero, h7]
                go_wp2_with fail
                exact ⟨_, rfl, Below.refl _ _, rfl⟩
              · obtain rfl := Option.some.inj hoi
                have h7 : (x 7) = .bool false := hd 7 (by kernel_rfl)
                simp only [fill, Act.put, List.setIfInBounds_toArray, List.set_cons_succ, List.set_cons_zero, h7]
                go_wp2_with fail
                exact ⟨_, rfl, Below.refl _ _, rfl⟩
              · obtain rfl := Option.some.inj hoi
                have h7 : (x 7) = .bool false := hd 7 (by kernel_rfl)
                have h8 : (x 8) = .int .i64 1 := hd 8 (by kernel_rfl)
                have h9 : (x 9) = .pointer (some ⟨bs, 176, none⟩) := hd 9 (by kernel_rfl)
                simp only [fill, Act.put, List.setIfInBounds_toArray, List.set_cons_succ, List.set_cons_zero, h7, h8, h9]
                go_wp2_with fail
                exact ⟨_, rfl, Below.refl _ _, rfl⟩
              · obtain rfl := Option.some.inj hoi
                have h7 : (x 7) = .bool false := hd 7 (by kernel_rfl)
                have h10 : (x 10) = .pointer (some ⟨bs, 177, none⟩) := hd 10 (by kernel_rfl)
                simp only [fill, Act.put, List.setIfInBounds_toArray, List.set_cons_succ, List.set_cons_zero, h7, h10]
                have cc : w9.cell? ⟨bs, 177, none⟩ = some (.slice (some ⟨x1, 0, none⟩) 32 32) := ((below_cell (below_all hc2.out hb9) S14.out).cell 177).trans (set_at1 P0l.out P1l.out Q0l.out Q1l.out)
                go_wp2_with fail
                exact ⟨_, rfl, Below.refl _ _, rfl⟩
              · obtain rfl := Option.some.inj hoi
                have h7 : (x 7) = .bool false := hd 7 (by kernel_rfl)
                simp only [fill, Act.put, List.setIfInBounds_toArray, List.set_cons_succ, List.set_cons_zero, h7]
                go_wp2_with fail
                exact ⟨_, rfl, Below.refl _ _, rfl⟩
              · obtain rfl := Option.some.inj hoi
                have h7 : (x 7) = .bool false := hd 7 (by kernel_rfl)
                have h12 : (x 12) = .slice aT lT kT := hd 12 (by kernel_rfl)
                simp only [fill, Act.put, List.setIfInBounds_toArray, List.set_cons_succ, List.set_cons_zero, h7, h12]
                go_wp2_with fail
                refine (lab_any _ _ T1 [] finS 32 _ w9 rfl ((hg.out.below b14.out hg.out.lt).below (below_all hc2.out hb9) (hg.out.below b14.out hg.out.lt).lt) (tn.out.below hb9) (nums_nil _ _) T1b.out byt_nil (by rw [T1l.out]; omega) (by decide) (by simp) (by omega) (by omega)).mono ?_
                rintro ee w10 ⟨v10, rfl, hn10, _, hb10⟩
                rw [hF1'.out] at hn10
                obtain ⟨a9, l9, k9, rfl⟩ := slice_any hn10
                go_wp2_with fail
                exact ⟨_, rfl, hb10, _, _, _, rfl, hn10⟩
              · obtain rfl := Option.some.inj hoi
                have h7 : (x 7) = .bool false := hd 7 (by kernel_rfl)
                have h11 : (x 11) = .slice (some ⟨x1, 0, none⟩) 32 32 := hd 11 (by kernel_rfl)
                have h13 : ∃ a n k, (x 13) = Value.slice a n k ∧ NumsAt .u8 w9 (x 13) F1 := hd 13 (by kernel_rfl)
                simp only [fill, Act.put, List.setIfInBounds_toArray, List.set_cons_succ, List.set_cons_zero, h7, h11]
                obtain ⟨a7, l7, k7, e7, hn7⟩ := h13
                rw [e7] at hn7
                simp only [e7]
                have hs := Lib.hid (show (F1 == F1) = true by simp)
                go_wp2_with fail
                refine (same_is _ _ F1 F1 true w9 (t14.out.below (below_all hc2.out hb9)) hn7 hs.out).mono ?_
                rintro ee w10 ⟨rfl, hb10⟩
                go_wp2_with fail
                exact ⟨_, rfl, hb10, rfl⟩
              · obtain rfl := Option.some.inj hoi
                have h7 : (x 7) = .bool false := hd 7 (by kernel_rfl)
                have h14 : (x 14) = .bool true := hd 14 (by kernel_rfl)
                simp only [fill, Act.put, List.setIfInBounds_toArray, List.set_cons_succ, List.set_cons_zero, h7, h14]
                go_wp2_with fail
                exact ⟨_, rfl, Below.refl _ _, rfl⟩
              · obtain rfl := Option.some.inj hoi
                have h7 : (x 7) = .bool false := hd 7 (by kernel_rfl)
                have h15 : (x 15) = .bool false := hd 15 (by kernel_rfl)
                simp only [fill, Act.put, List.setIfInBounds_toArray, List.set_cons_succ, List.set_cons_zero, h7, h15]
                go_wp2_with fail
                exact ⟨_, rfl, Below.refl _ _, rfl⟩
              · obtain rfl := Option.some.inj hoi
                have h16 : (x 16) = .bool false := hd 16 (by kernel_rfl)
                simp only [fill, Act.put, List.setIfInBounds_toArray, List.set_cons_succ, List.set_cons_zero, h16]
                go_wp2_with fail
                exact ⟨_, rfl, Below.refl _ _, rfl⟩
              · obtain rfl := Option.some.inj hoi
                have h17 : (x 17) = .bool false := hd 17 (by kernel_rfl)
                simp only [fill, Act.put, List.setIfInBounds_toArray, List.set_cons_succ, List.set_cons_zero, h17]
                go_wp2_with fail
                exact ⟨_, rfl, Below.refl _ _, rfl⟩
              · obtain rfl := Option.some.inj hoi
                have h17 : (x 17) = .bool false := hd 17 (by kernel_rfl)
                simp only [fill, Act.put, List.setIfInBounds_toArray, List.set_cons_succ, List.set_cons_zero, h17]
                go_wp2_with fail
                exact ⟨_, rfl, Below.refl _ _, rfl⟩
              · obtain rfl := Option.some.inj hoi
                have h17 : (x 17) = .bool false := hd 17 (by kernel_rfl)
                have h18 : (x 18) = .int .i64 1 := hd 18 (by kernel_rfl)
                have h19 : (x 19) = .pointer (some ⟨bs, 88, none⟩) := hd 19 (by kernel_rfl)
                simp only [fill, Act.put, List.setIfInBounds_toArray, List.set_cons_succ, List.set_cons_zero, h17, h18, h19]
                go_wp2_with fail
                exact ⟨_, rfl, Below.refl _ _, rfl⟩
              · obtain rfl := Option.some.inj hoi
                have h17 : (x 17) = .bool false := hd 17 (by kernel_rfl)
                have h20 : (x 20) = .pointer (some ⟨bs, 132, none⟩) := hd 20 (by kernel_rfl)
                simp only [fill, Act.put, List.setIfInBounds_toArray, List.set_cons_succ, List.set_cons_zero, h17, h20]
                have e1 := Lib.hid (mid_load Q1 (set_p3 (below_cell (below_all hc2.out hb9) S14.out) P0l.out P1l.out Q0l.out) Tryd.underlying55 rfl (by rw [Q1l.out]; exact sz55))
                go_wp2_with (refine wpList_load_isG (by kernel_rfl) 55 _ rfl rfl e1.out ?_)
                exact ⟨_, rfl, Below.refl _ _, rfl⟩
              · obtain rfl := Option.some.inj hoi
                have h17 : (x 17) = .bool false := hd 17 (by kernel_rfl)
                simp only [fill, Act.put, List.setIfInBounds_toArray, List.set_cons_succ, List.set_cons_zero, h17]
                go_wp2_with fail
                exact ⟨_, rfl, Below.refl _ _, rfl⟩
              · obtain rfl := Option.some.inj hoi
                have h17 : (x 17) = .bool false := hd 17 (by kernel_rfl)
                simp only [fill, Act.put, List.setIfInBounds_toArray, List.set_cons_succ, List.set_cons_zero, h17]
                go_wp2_with fail
                exact ⟨_, rfl, Below.refl _ _, rfl⟩
              · obtain rfl := Option.some.inj hoi
                have h17 : (x 17) = .bool false := hd 17 (by kernel_rfl)
                simp only [fill, Act.put, List.setIfInBounds_toArray, List.set_cons_succ, List.set_cons_zero, h17]
                go_wp2_with fail
                exact ⟨_, rfl, Below.refl _ _, rfl⟩
              · obtain rfl := Option.some.inj hoi
                have h17 : (x 17) = .bool false := hd 17 (by kernel_rfl)
                have h23 : (x 23) = .slice (some ⟨bw, 0, none⟩) 2 2 := hd 23 (by kernel_rfl)
                have h24 : (x 24) = .int .i64 1 := hd 24 (by kernel_rfl)
                simp only [fill, Act.put, List.setIfInBounds_toArray, List.set_cons_succ, List.set_cons_zero, h17, h23, h24]
                go_wp2_with fail
                exact ⟨_, rfl, Below.refl _ _, rfl⟩
              · obtain rfl := Option.some.inj hoi
                have h17 : (x 17) = .bool false := hd 17 (by kernel_rfl)
                have h25 : (x 25) = .pointer (some ⟨bw, 1, none⟩) := hd 25 (by kernel_rfl)
                simp only [fill, Act.put, List.setIfInBounds_toArray, List.set_cons_succ, List.set_cons_zero, h17, h25]
                have cc : w9.cell? ⟨bw, 1, none⟩ = some (.string (whoS 1)) := (below_cell (below_all hc2.out hb9) W14.out).cell 1
                go_wp2_with fail
                exact ⟨_, rfl, Below.refl _ _, rfl⟩
              · obtain rfl := Option.some.inj hoi
                have h17 : (x 17) = .bool false := hd 17 (by kernel_rfl)
                have h26 : (x 26) = .string (whoS 1) := hd 26 (by kernel_rfl)
                simp only [fill, Act.put, List.setIfInBounds_toArray, List.set_cons_succ, List.set_cons_zero, h17, h26]
                go_wp2_with fail
                exact ⟨_, rfl, Below.refl _ _, rfl⟩
              · obtain rfl := Option.some.inj hoi
                have h17 : (x 17) = .bool false := hd 17 (by kernel_rfl)
                simp only [fill, Act.put, List.setIfInBounds_toArray, List.set_cons_succ, List.set_cons_zero, h17]
                go_wp2_with fail
                exact ⟨_, rfl, Below.refl _ _, rfl⟩
              · obtain rfl := Option.some.inj hoi
                have h17 : (x 17) = .bool false := hd 17 (by kernel_rfl)
                have h22 : (x 22) = (.slice (some ⟨b11, 0, none⟩) 32 32) := hd 22 (by kernel_rfl)
                have h27 : (x 27) = .string (whoS 1 ++ apS) := hd 27 (by kernel_rfl)
                have h28 : (x 28) = (.slice (some ⟨b7 + 1, 0, none⟩) 32 32) := hd 28 (by kernel_rfl)
                simp only [fill, Act.put, List.setIfInBounds_toArray, List.set_cons_succ, List.set_cons_zero, h17, h22, h27, h28]
                go_wp2_with fail
                refine (lab_any _ _ M n (whoS 1 ++ apS) 32 _ w9 rfl ((hg.out.below b14.out hg.out.lt).below (below_all hc2.out hb9) (hg.out.below b14.out hg.out.lt).lt) ((below_cell (below_all hc2.out hb9) Mx14.out).nums 32 Ml.out (by omega)) ((below_cell (below_all hc2.out hb9) n14.out).nums 32 nl.out (by omega)) Mb.out nb.out (by rw [Ml.out]; omega) (who_ap 1) (by rw [nl.out]; omega) (by omega) (by omega)).mono ?_
                rintro ee w10 ⟨v10, rfl, hn10, _, hb10⟩
                rw [hD1'.out] at hn10
                obtain ⟨a9, l9, k9, rfl⟩ := slice_any hn10
                go_wp2_with fail
                exact ⟨_, rfl, hb10, _, _, _, rfl, hn10⟩
              · obtain rfl := Option.some.inj hoi
                have h17 : (x 17) = .bool false := hd 17 (by kernel_rfl)
                have h29 : ∃ a n k, (x 29) = Value.slice a n k ∧ NumsAt .u8 w9 (x 29) D1 := hd 29 (by kernel_rfl)
                simp only [fill, Act.put, List.setIfInBounds_toArray, List.set_cons_succ, List.set_cons_zero, h17]
                obtain ⟨a7, l7, k7, e7, hn7⟩ := h29
                rw [e7] at hn7
                simp only [e7]
                go_wp2_with fail
                refine (packet_any _ D1 w9 ((hg.out.below b14.out hg.out.lt).below (below_all hc2.out hb9) (hg.out.below b14.out hg.out.lt).lt) hn7 D1b.out (by rw [D1l.out]; omega)).mono ?_
                rintro ee w10 ⟨rfl, hb10⟩
                go_wp2_with fail
                exact ⟨_, rfl, hb10, by rw [hQ1'.out]⟩
              · obtain rfl := Option.some.inj hoi
                have h17 : (x 17) = .bool false := hd 17 (by kernel_rfl)
                have h21 : (x 21) = .agg (bys Q1) := hd 21 (by kernel_rfl)
                have h30 : (x 30) = .agg (bys Q1) := hd 30 (by kernel_rfl)
                simp only [fill, Act.put, List.setIfInBounds_toArray, List.set_cons_succ, List.set_cons_zero, h17, h21, h30]
                have e1 := neq55 Q1 Q1 Q1l.out Q1l.out w9
                rw [show (Q1 == Q1) = true by simp] at e1
                replace e1 := Lib.hid e1
                go_wp2_with (refine wpList_binG (by kernel_rfl) .neq 55 _ _ _ rfl rfl rfl (run_eqGuard_agg _ _ _ _ _ _ _ guard55) e1.out ?_)
                exact ⟨_, rfl, Below.refl _ _, rfl⟩
              · obtain rfl := Option.some.inj hoi
                have h17 : (x 17) = .bool false := hd 17 (by kernel_rfl)
                have h31 : (x 31) = .bool false := hd 31 (by kernel_rfl)
                simp only [fill, Act.put, List.setIfInBounds_toArray, List.set_cons_succ, List.set_cons_zero, h17, h31]
                go_wp2_with fail
                exact ⟨_, rfl, Below.refl _ _, rfl⟩
              · obtain rfl := Option.some.inj hoi
                have h32 : (x 32) = .bool false := hd 32 (by kernel_rfl)
                simp only [fill, Act.put, List.setIfInBounds_toArray, List.set_cons_succ, List.set_cons_zero, h32]
                go_wp2_with fail
                exact ⟨_, rfl, Below.refl _ _, rfl⟩
              · obtain rfl := Option.some.inj hoi
                have h33 : (x 33) = .bool false := hd 33 (by kernel_rfl)
                simp only [fill, Act.put, List.setIfInBounds_toArray, List.set_cons_succ, List.set_cons_zero, h33]
                go_wp2_with fail
                exact ⟨_, rfl, Below.refl _ _, rfl⟩
              · obtain rfl := Option.some.inj hoi
                have h33 : (x 33) = .bool false := hd 33 (by kernel_rfl)
                have h34 : (x 34) = .int .i64 1 := hd 34 (by kernel_rfl)
                simp only [fill, Act.put, List.setIfInBounds_toArray, List.set_cons_succ, List.set_cons_zero, h33, h34]
                go_wp2_with fail
                exact ⟨_, rfl, Below.refl _ _, rfl⟩
              · obtain rfl := Option.some.inj hoi
                have h33 : (x 33) = .bool false := hd 33 (by kernel_rfl)
                have h35 : (x 35) = .pointer (some ⟨bs + 1, 44, none⟩) := hd 35 (by kernel_rfl)
                simp only [fill, Act.put, List.setIfInBounds_toArray, List.set_cons_succ, List.set_cons_zero, h33, h35]
                have e1 := Lib.hid (mid_load B (Blk.part (A := A.map (Value.int .u8)) (B := B.map (Value.int .u8)) (C := []) (by simpa [bys, hfl'.out] using (below_cell (below_all hc2.out hb9) C14.out)) 44 (by simp [lA.out])) Tryd.underlying55 rfl (by rw [lB.out]; exact sz55))
                go_wp2_with (refine wpList_load_isG (by kernel_rfl) 55 _ rfl rfl e1.out ?_)
                exact ⟨_, rfl, Below.refl _ _, rfl⟩
              · obtain rfl := Option.some.inj hoi
                have h33 : (x 33) = .bool false := hd 33 (by kernel_rfl)
                simp only [fill, Act.put, List.setIfInBounds_toArray, List.set_cons_succ, List.set_cons_zero, h33]
                go_wp2_with fail
                exact ⟨_, rfl, Below.refl _ _, rfl⟩
              · obtain rfl := Option.some.inj hoi
                have h33 : (x 33) = .bool false := hd 33 (by kernel_rfl)
                simp only [fill, Act.put, List.setIfInBounds_toArray, List.set_cons_succ, List.set_cons_zero, h33]
                go_wp2_with fail
                exact ⟨_, rfl, Below.refl _ _, rfl⟩
              · obtain rfl := Option.some.inj hoi
                have h33 : (x 33) = .bool false := hd 33 (by kernel_rfl)
                simp only [fill, Act.put, List.setIfInBounds_toArray, List.set_cons_succ, List.set_cons_zero, h33]
                go_wp2_with fail
                exact ⟨_, rfl, Below.refl _ _, rfl⟩
              · obtain rfl := Option.some.inj hoi
                have h33 : (x 33) = .bool false := hd 33 (by kernel_rfl)
                have h38 : (x 38) = .slice (some ⟨bw + 1, 0, none⟩) 2 2 := hd 38 (by kernel_rfl)
                have h39 : (x 39) = .int .i64 1 := hd 39 (by kernel_rfl)
                simp only [fill, Act.put, List.setIfInBounds_toArray, List.set_cons_succ, List.set_cons_zero, h33, h38, h39]
                go_wp2_with fail
                exact ⟨_, rfl, Below.refl _ _, rfl⟩
              · obtain rfl := Option.some.inj hoi
                have h33 : (x 33) = .bool false := hd 33 (by kernel_rfl)
                have h40 : (x 40) = .pointer (some ⟨bw + 1, 1, none⟩) := hd 40 (by kernel_rfl)
                simp only [fill, Act.put, List.setIfInBounds_toArray, List.set_cons_succ, List.set_cons_zero, h33, h40]
                have cc : w9.cell? ⟨bw + 1, 1, none⟩ = some (.string ⟨#[115, 101, 114, 118, 101, 114, 32, 105, 110]⟩) := (below_cell (below_all hc2.out hb9) I14.out).cell 1
                go_wp2_with fail
                exact ⟨_, rfl, Below.refl _ _, rfl⟩
              · obtain rfl := Option.some.inj hoi
                have h33 : (x 33) = .bool false := hd 33 (by kernel_rfl)
                have h37 : (x 37) = (.slice (some ⟨bf, 0, none⟩) 32 32) := hd 37 (by kernel_rfl)
                have h41 : (x 41) = .string ⟨#[115, 101, 114, 118, 101, 114, 32, 105, 110]⟩ := hd 41 (by kernel_rfl)
                simp only [fill, Act.put, List.setIfInBounds_toArray, List.set_cons_succ, List.set_cons_zero, h33, h37, h41]
                go_wp2_with fail
                refine (lab_any _ _ fi [] ⟨#[115, 101, 114, 118, 101, 114, 32, 105, 110]⟩ 32 _ w9 rfl ((hg.out.below b14.out hg.out.lt).below (below_all hc2.out hb9) (hg.out.below b14.out hg.out.lt).lt) ((below_cell (below_all hc2.out hb9) fx14.out).nums 32 fil.out (by omega)) (nums_nil _ _) fib.out byt_nil (by rw [fil.out]; omega) (by decide) (by simp) (by omega) (by omega)).mono ?_
                rintro ee w10 ⟨v10, rfl, hn10, _, hb10⟩
                rw [← hC1.out] at hn10
                obtain ⟨a9, l9, k9, rfl⟩ := slice_any hn10
                go_wp2_with fail
                exact ⟨_, rfl, hb10, _, _, _, rfl, hn10⟩
              · obtain rfl := Option.some.inj hoi
                have h33 : (x 33) = .bool false := hd 33 (by kernel_rfl)
                have h42 : ∃ a n k, (x 42) = Value.slice a n k ∧ NumsAt .u8 w9 (x 42) C1 := hd 42 (by kernel_rfl)
                simp only [fill, Act.put, List.setIfInBounds_toArray, List.set_cons_succ, List.set_cons_zero, h33]
                obtain ⟨a7, l7, k7, e7, hn7⟩ := h42
                rw [e7] at hn7
                simp only [e7]
                go_wp2_with fail
                refine (packet_any _ C1 w9 ((hg.out.below b14.out hg.out.lt).below (below_all hc2.out hb9) (hg.out.below b14.out hg.out.lt).lt) hn7 C1b.out (by rw [C1l.out]; omega)).mono ?_
                rintro ee w10 ⟨rfl, hb10⟩
                go_wp2_with fail
                exact ⟨_, rfl, hb10, by rw [hB.out]⟩
              · obtain rfl := Option.some.inj hoi
                have h33 : (x 33) = .bool false := hd 33 (by kernel_rfl)
                have h36 : (x 36) = .agg (bys B) := hd 36 (by kernel_rfl)
                have h43 : (x 43) = .agg (bys B) := hd 43 (by kernel_rfl)
                simp only [fill, Act.put, List.setIfInBounds_toArray, List.set_cons_succ, List.set_cons_zero, h33, h36, h43]
                have e1 := neq55 B B lB.out lB.out w9
                rw [show (B == B) = true by simp] at e1
                replace e1 := Lib.hid e1
                go_wp2_with (refine wpList_binG (by kernel_rfl) .neq 55 _ _ _ rfl rfl rfl (run_eqGuard_agg _ _ _ _ _ _ _ guard55) e1.out ?_)
                exact ⟨_, rfl, Below.refl _ _, rfl⟩
              · cases hoi
            · intro x w9 hb9 hd
              have h33 : (x 33) = .bool false := hd 33 (by decide)
              have h44 : (x 44) = .bool false := hd 44 (by decide)
              simp only [fill, Act.put, List.setIfInBounds_toArray, List.set_cons_succ, List.set_cons_zero, h33, h44]
              have hc3 := Lib.hid (below_all hc2.out hb9)
              clear hd h33 h44 hb9 hc2 tn
              generalize w9 = w8 at hc3 ⊢
              go_wp2_with fail
              go_roundw
              case rel => exact ⟨.inr (.inr rfl), hc3.out⟩
              case measure => simp [intOf]
        · have b20 := Lib.hid (below_all b14.out hc.out)
          have n20 := Lib.hid (below_cell hc.out n14.out)
          clear b14 n14 Hx14 Mx14 fx14 s14 t14 S14 C14 W14 I14 hc hT0' hT0 T0l hT1' hT1 T1l hP0' hP0 P0l hP1' hP1 P1l hF0' hF0 F0l hF1' hF1 F1l hD0' hD0 D0l hD1' hD1 D1l hQ0' hQ0 Q0l hQ1' hQ1 Q1l T0b T1b F0b F1b D0b D1b E1l E2l E1b E2b hE1 hE2 hH' hM' el eb he nnl nnb hnn C0l C0b hC0 C1l C1b hC1 Hl Hb hH Ml Mb hM fil fib hfi hA hB lA lB hfl hfl' lfl
          obtain ⟨L1, hL1⟩ := name_it (lab psk ⟨#[113, 117, 105, 99, 32, 107, 101, 121]⟩ [] 16)
          obtain ⟨L2, hL2⟩ := name_it (lab psk ⟨#[113, 117, 105, 99, 32, 105, 118]⟩ [] 12)
          obtain ⟨L3, hL3⟩ := name_it (lab psk ⟨#[113, 117, 105, 99, 32, 104, 112]⟩ [] 16)
          have L1l : Hid (L1.length = 16) := by show _ = _; rw [hL1.out]; exact labS_len _ _ _ _ (by decide) (by simp) (by omega)
          have L2l : Hid (L2.length = 12) := by show _ = _; rw [hL2.out]; exact labS_len _ _ _ _ (by decide) (by simp) (by omega)
          have L3l : Hid (L3.length = 16) := by show _ = _; rw [hL3.out]; exact labS_len _ _ _ _ (by decide) (by simp) (by omega)
          obtain ⟨pk, hpk⟩ := name_it (packetL psk)
          have hpk' : Hid (pk = L1 ++ L2 ++ L3) := by show _ = _; rw [hpk.out, hL1.out, hL2.out, hL3.out]; rfl
          have lpk : Hid (pk.length = 44) := by show _ = _; rw [hpk.out]; exact packetL_len _
          obtain ⟨fin, hfin⟩ := name_it (mac psk n)
          have hfin2 : Hid (mac psk (sha hellos) = fin) := by show _ = _; rw [hfin.out, hn.out]
          have lfin : Hid (fin.length = 32) := by show _ = _; rw [hfin.out]; exact mac_len _ _
          obtain ⟨R, hR⟩ := name_it (resB ++ dst)
          have hRl : Hid (R.length ≤ 200) := by show _ ≤ _; rw [hR.out]; simp [resB]; have := hld.out; omega
          have hRb : Hid (Byt R) := by show Byt _; rw [hR.out]; exact byt_app byt_res hbd.out
          obtain ⟨mr, hmr⟩ := name_it (mac psk R)
          have lmr : Hid (mr.length = 32) := by show _ = _; rw [hmr.out]; exact mac_len _ _
          obtain ⟨rs, hrs⟩ := name_it (resetL psk dst)
          have hrs' : Hid (mr.take 16 = rs) := by show _ = _; rw [hrs.out, hmr.out, hR.out]; rfl
          have lrs : Hid (rs.length = 16) := by show _ = _; rw [hrs.out]; exact resetL_len _ _
          have m26 := guard26
          have kc := conv_lit
          have c52 := fun (b o : Nat) (w : World) => slice_all arr52 len52 el52 b o w
          have c53 := fun (b o : Nat) (w : World) => slice_all arr53 len53 el53 b o w
          have k26 := cut26_16
          go_wp2_with fail
          refine (packet_any _ psk wr (hg.out.below b20.out hg.out.lt) (hu.out.below b20.out) hb.out (by have := hl.out; omega)).mono ?_
          rintro ee w21 ⟨rfl, d21⟩
          rw [← hpk.out]
          have b21 := Lib.hid (below_all b20.out d21)
          have n21 := Lib.hid (below_cell d21 n20.out)
          clear b20 n20 d21
          have z1 : Hid ((Tryd.prog.info? 55).map (·.size) = some (bys pk).size) := by show _ = _; rw [bys_size, lpk.out]; exact sz55
          have ho1 : Hid ((bys (zb 44)).size = (bys pk).size) := by show _ = _; rw [bys_size, bys_size, lpk.out]; rfl
          have l22 := Lib.hid (Blk.new w21 55 (bys (zb 44)))
          have k22 := Lib.hid ((Blk.new w21 55 (bys (zb 44))).setRow (bys pk))
          have d22 := below_setRow (g := w21.heap.size) ((Below.refl w21.heap.size w21).alloc (Nat.le_refl _) (.cells (bys (zb 44)) 55)) (Nat.le_refl _) (bys pk)
          obtain ⟨w22, hw22⟩ : ∃ x, x = (w21.alloc (.cells (bys (zb 44)) 55)).setRow w21.heap.size (bys pk) := ⟨_, rfl⟩
          rw [← hw22] at k22 d22
          have b22 := Lib.hid (below_all b21.out d22)
          have n22 := Lib.hid (below_cell d22 n21.out)
          replace hw22 := Lib.hid hw22
          clear b21 n21 d22
          go_wp2_with (refine wpList_store_row rfl 55 _ _ rfl _ _ rfl rfl 55 _ l22.out z1.out ho1.out (bys_one _) ?_; change wpList _ _ _ _ _ ((w21.alloc (.cells (bys (zb 44)) 55)).setRow w21.heap.size (bys pk)); rw [← hw22.out])
          obtain ⟨bk, hbk⟩ : ∃ b, b = w21.heap.size := ⟨_, rfl⟩
          rw [← hbk] at k22 ⊢
          clear hbk hw22 l22 z1 ho1
          refine (reset_any _ _ psk dst w22 (hg.out.below b22.out hg.out.lt) (hu.out.below b22.out) (hz.out.below b22.out) hb.out hbd.out (by have := hl.out; omega) (by have := hld.out; omega)).mono ?_
          rintro ee w23 ⟨rfl, d23⟩
          rw [← hrs.out]
          have b23 := Lib.hid (below_all b22.out d23)
          have n23 := Lib.hid (below_cell d23 n22.out)
          have k23 := Lib.hid (below_cell d23 k22.out)
          clear b22 n22 k22 d23
          have c2 := (Below.refl w23.heap.size w23).alloc (Nat.le_refl _) (.cells (bys resB) 5 (5, 6))
          have n2 := nums_lit w23 5 (5, 6) resB 5 rfl (by omega)
          obtain ⟨w24, hw24⟩ : ∃ x, x = w23.alloc (.cells (bys resB) 5 (5, 6)) := ⟨_, rfl⟩
          rw [← hw24] at c2 n2
          have hs2 : w24.heap.size = w23.heap.size + 1 := by rw [hw24]; simp
          have z2 := (hz.out.below b23.out).below c2
          have p3 := parts_two (Blk.new w24 22 #[.slice (some ⟨w23.heap.size, 0, none⟩) 5 5, .slice a2 dst.length k2]) (n2.alloc _) (z2.alloc _)
          have c3 := (Below.refl w24.heap.size w24).alloc (Nat.le_refl _) (.cells #[.slice (some ⟨w23.heap.size, 0, none⟩) 5 5, .slice a2 dst.length k2] 22)
          have d25 := below_all c2 c3
          have b25 := Lib.hid (below_all b23.out d25)
          have n25 := Lib.hid (below_cell d25 n23.out)
          have k25 := Lib.hid (below_cell d25 k23.out)
          replace p3 := Lib.hid p3
          replace hw24 := Lib.hid hw24
          clear b23 n23 k23 c2 n2 z2 c3 d25
          go_wp2_with fail
          change Calls _ _ _ ((w23.alloc (.cells (bys resB) 5 (5, 6))).alloc (.cells #[.slice (some ⟨w23.heap.size, 0, none⟩) 5 5, .slice a2 dst.length k2] 22)) _
          rw [← hw24.out, ← hs2]
          refine (mac_any _ _ psk R [resB, dst] _ (hg.out.below b25.out hg.out.lt) (hu.out.below b25.out) p3.out (by rw [hR.out]; simp) hb.out hRb.out (by have := hl.out; omega) (by have := hRl.out; omega) (by simp)).mono ?_
          rintro ee w26 ⟨rfl, d26⟩
          rw [← hmr.out]
          have b26 := Lib.hid (below_all b25.out d26)
          have n26 := Lib.hid (below_cell d26 n25.out)
          have k26x := Lib.hid (below_cell d26 k25.out)
          clear b25 n25 k25 d26 p3 hw24 hs2 kc
          have z1 : Hid ((Tryd.prog.info? 52).map (·.size) = some (bys rs).size) := by show _ = _; rw [bys_size, lrs.out]; exact sz52
          have z2 : Hid ((Tryd.prog.info? 26).map (·.size) = some (bys mr).size) := by show _ = _; rw [bys_size, lmr.out]; exact sz26
          have ho1 : Hid ((bys (zb 16)).size = (bys rs).size) := by show _ = _; rw [bys_size, bys_size, lrs.out]; rfl
          have ho2 : Hid ((bys (zb 32)).size = (bys mr).size) := by show _ = _; rw [bys_size, bys_size, lmr.out]; rfl
          obtain ⟨q1, q2, q3, q4, q5⟩ := put_two w26 52 26 (bys (zb 16)) (bys rs) (bys (zb 32)) (bys mr)
          obtain ⟨w27, hw⟩ : ∃ x, x = (((w26.alloc (.cells (bys (zb 16)) 52)).alloc (.cells (bys (zb 32)) 26)).setRow w26.heap.size (bys rs)).setRow (w26.heap.size + 1) (bys mr) := ⟨_, rfl⟩
          rw [← hw] at q3 q4 q5
          replace q1 := Lib.hid q1
          replace q2 := Lib.hid q2
          replace q3 := Lib.hid q3
          replace q4 := Lib.hid q4
          replace hw := Lib.hid hw
          have b27 := Lib.hid (below_all b26.out q5)
          have n27 := Lib.hid (below_cell q5 n26.out)
          have k27 := Lib.hid (below_cell q5 k26x.out)
          clear b26 n26 k26x q5
          go_wp2_with (first | refine wpList_store_row rfl 52 _ _ rfl _ _ rfl rfl 52 _ q1.out z1.out ho1.out (bys_one _) ?_ | (refine wpList_store_row rfl 26 _ _ rfl _ _ rfl rfl 26 _ q2.out z2.out ho2.out (bys_one _) ?_; change wpList _ _ _ _ _ ((((w26.alloc (.cells (bys (zb 16)) 52)).alloc (.cells (bys (zb 32)) 26)).setRow w26.heap.size (bys rs)).setRow (w26.heap.size + 1) (bys mr)); rw [← hw.out]))
          obtain ⟨br, hbr⟩ : ∃ b, b = w26.heap.size := ⟨_, rfl⟩
          rw [← hbr] at q3 q4 ⊢
          have r27 := q3
          have m27 := q4
          clear q1 q2 q3 q4 hw hbr z1 z2 ho1 ho2
          refine region_rel_lit (.step (.step (.step (.step (.step (.step (.step (.step (.step (.step (.step (.step (.step (.step (.step (.step (.step (.step (.step (.step (.step (.step (.step (.step (.step (.step (.step (.step (.step (.step (.step (.step (.step (.step (.step (.step (.step (.base _)))))))))))))))))))))))))))))))))))))) (fun i W v => match i with
            | 0 => v = .pointer (some ⟨bk, 0, none⟩)
            | 1 => v = .slice (some ⟨bk, 0, none⟩) 16 16
            | 2 => v = .slice a0 psk.length k0
            | 3 => ∃ a n k, v = Value.slice a n k ∧ NumsAt .u8 W v L1
            | 4 => v = .bool true
            | 5 => v = .bool true
            | 6 => v = .pointer (some ⟨bk, 16, none⟩)
            | 7 => v = .slice (some ⟨bk, 16, none⟩) 12 12
            | 8 => v = .slice a0 psk.length k0
            | 9 => ∃ a n k, v = Value.slice a n k ∧ NumsAt .u8 W v L2
            | 10 => v = .bool true
            | 11 => v = .bool true
            | 12 => v = .bool true
            | 13 => v = .pointer (some ⟨bk, 28, none⟩)
            | 14 => v = .slice (some ⟨bk, 28, none⟩) 16 16
            | 15 => v = .slice a0 psk.length k0
            | 16 => ∃ a n k, v = Value.slice a n k ∧ NumsAt .u8 W v L3
            | 17 => v = .bool true
            | 18 => v = .bool true
            | 19 => v = .bool true
            | 20 => v = .slice a0 psk.length k0
            | 21 => v = .slice a1 hellos.length k1
            | 22 => v = .agg (bys fin)
            | 23 => v = .slice a0 psk.length k0
            | 24 => v = (.slice (some ⟨b7 + 1, 0, none⟩) 32 32)
            | 25 => PartsAt W v [n]
            | 26 => v = .agg (bys fin)
            | 27 => v = .bool true
            | 28 => v = .bool true
            | 29 => v = .bool true
            | 30 => v = .slice (some ⟨br, 0, none⟩) 16 16
            | 31 => v = .slice (some ⟨br + 1, 0, none⟩) 16 32
            | 32 => v = .bool true
            | 33 => v = .bool true
            | 34 => v = .bool true
            | 35 => v = .bool true
            | _ => v = .bool true) mixed (by kernel_rfl) (by kernel_rfl) ?_ ?_ ?_
          · rintro (_ | _ | _ | _ | _ | _ | _ | _ | _ | _ | _ | _ | _ | _ | _ | _ | _ | _ | _ | _ | _ | _ | _ | _ | _ | _ | _ | _ | _ | _ | _ | _ | _ | _ | _ | _ | i) W W' v h hb
            all_goals first | exact h | exact PartsAt.below h hb | exact NumsAt.below h hb | exact sl_below h hb | exact SlAt.below h hb | exact FarAt.below h hb | exact PtrAt.below h hb | exact blk_spec h hb | exact spec_below h hb
          · intro i oi hoi x w9 hb9 hd
            rcases i with _ | _ | _ | _ | _ | _ | _ | _ | _ | _ | _ | _ | _ | _ | _ | _ | _ | _ | _ | _ | _ | _ | _ | _ | _ | _ | _ | _ | _ | _ | _ | _ | _ | _ | _ | _ | _ | i
            · obtain rfl := Option.some.inj hoi
              simp only [fill, Act.put, List.setIfInBounds_toArray, List.set_cons_succ, List.set_cons_zero]
              go_wp2_with fail
              exact ⟨_, rfl, Below.refl _ _, rfl⟩
            · obtain rfl := Option.some.inj hoi
              have h0 : (x 0) = .pointer (some ⟨bk, 0, none⟩) := hd 0 (by kernel_rfl)
              simp only [fill, Act.put, List.setIfInBounds_toArray, List.set_cons_succ, List.set_cons_zero, h0]
              go_wp2_with fail
              exact ⟨_, rfl, Below.refl _ _, rfl⟩
            · obtain rfl := Option.some.inj hoi
              simp only [fill, Act.put, List.setIfInBounds_toArray, List.set_cons_succ, List.set_cons_zero]
              go_wp2_with fail
              exact ⟨_, rfl, Below.refl _ _, rfl⟩
            · obtain rfl := Option.some.inj hoi
              have h2 : (x 2) = .slice a0 psk.length k0 := hd 2 (by kernel_rfl)
              simp only [fill, Act.put, List.setIfInBounds_toArray, List.set_cons_succ, List.set_cons_zero, h2]
              go_wp2_with fail
              refine (lab_any _ _ psk [] ⟨#[113, 117, 105, 99, 32, 107, 101, 121]⟩ 16 _ w9 rfl (hg.out.below (below_all b27.out hb9) hg.out.lt) (hu.out.below (below_all b27.out hb9)) (nums_nil _ _) hb.out byt_nil (by have := hl.out; omega) (by decide) (by simp) (by omega) (by omega)).mono ?_
              rintro ee w10 ⟨v10, rfl, hn10, _, hb10⟩
              rw [← hL1.out] at hn10
              obtain ⟨a9, l9, k9, rfl⟩ := slice_any hn10
              go_wp2_with fail
              exact ⟨_, rfl, hb10, _, _, _, rfl, hn10⟩
            · obtain rfl := Option.some.inj hoi
              have h1 : (x 1) = .slice (some ⟨bk, 0, none⟩) 16 16 := hd 1 (by kernel_rfl)
              have h3 : ∃ a n k, (x 3) = Value.slice a n k ∧ NumsAt .u8 w9 (x 3) L1 := hd 3 (by kernel_rfl)
              simp only [fill, Act.put, List.setIfInBounds_toArray, List.set_cons_succ, List.set_cons_zero, h1]
              obtain ⟨a7, l7, k7, e7, hn7⟩ := h3
              rw [e7] at hn7
              simp only [e7]
              have hs := Lib.hid (show (L1 == L1) = true by simp)
              go_wp2_with fail
              refine (same_is _ _ L1 L1 true w9 (Blk.partNums (A := []) (x := L1) (C := L2 ++ L3) (by simpa [hpk'.out] using (below_cell hb9 k27.out)) 0 16 rfl L1l.out (by omega)) hn7 hs.out).mono ?_
              rintro ee w10 ⟨rfl, hb10⟩
              go_wp2_with fail
              exact ⟨_, rfl, hb10, rfl⟩
            · obtain rfl := Option.some.inj hoi
              have h4 : (x 4) = .bool true := hd 4 (by kernel_rfl)
              simp only [fill, Act.put, List.setIfInBounds_toArray, List.set_cons_succ, List.set_cons_zero, h4]
              go_wp2_with fail
              exact ⟨_, rfl, Below.refl _ _, rfl⟩
            · obtain rfl := Option.some.inj hoi
              have h5 : (x 5) = .bool true := hd 5 (by kernel_rfl)
              simp only [fill, Act.put, List.setIfInBounds_toArray, List.set_cons_succ, List.set_cons_zero, h5]
              go_wp2_with fail
              exact ⟨_, rfl, Below.refl _ _, rfl⟩
            · obtain rfl := Option.some.inj hoi
              have h5 : (x 5) = .bool true := hd 5 (by kernel_rfl)
              have h6 : (x 6) = .pointer (some ⟨bk, 16, none⟩) := hd 6 (by kernel_rfl)
              simp only [fill, Act.put, List.setIfInBounds_toArray, List.set_cons_succ, List.set_cons_zero, h5, h6]
              go_wp2_with fail
              exact ⟨_, rfl, Below.refl _ _, rfl⟩
            · obtain rfl := Option.some.inj hoi
              have h5 : (x 5) = .bool true := hd 5 (by kernel_rfl)
              simp only [fill, Act.put, List.setIfInBounds_toArray, List.set_cons_succ, List.set_cons_zero, h5]
              go_wp2_with fail
              exact ⟨_, rfl, Below.refl _ _, rfl⟩
            · obtain rfl := Option.some.inj hoi
              have h5 : (x 5) = .bool true := hd 5 (by kernel_rfl)
              have h8 : (x 8) = .slice a0 psk.length k0 := hd 8 (by kernel_rfl)
              simp only [fill, Act.put, List.setIfInBounds_toArray, List.set_cons_succ, List.set_cons_zero, h5, h8]
              go_wp2_with fail
              refine (lab_any _ _ psk [] ⟨#[113, 117, 105, 99, 32, 105, 118]⟩ 12 _ w9 rfl (hg.out.below (below_all b27.out hb9) hg.out.lt) (hu.out.below (below_all b27.out hb9)) (nums_nil _ _) hb.out byt_nil (by have := hl.out; omega) (by decide) (by simp) (by omega) (by omega)).mono ?_
              rintro ee w10 ⟨v10, rfl, hn10, _, hb10⟩
              rw [← hL2.out] at hn10
              obtain ⟨a9, l9, k9, rfl⟩ := slice_any hn10
              go_wp2_with fail
              exact ⟨_, rfl, hb10, _, _, _, rfl, hn10⟩
            · obtain rfl := Option.some.inj hoi
              have h5 : (x 5) = .bool true := hd 5 (by kernel_rfl)
              have h7 : (x 7) = .slice (some ⟨bk, 16, none⟩) 12 12 := hd 7 (by kernel_rfl)
              have h9 : ∃ a n k, (x 9) = Value.slice a n k ∧ NumsAt .u8 w9 (x 9) L2 := hd 9 (by kernel_rfl)
              simp only [fill, Act.put, List.setIfInBounds_toArray, List.set_cons_succ, List.set_cons_zero, h5, h7]
              obtain ⟨a7, l7, k7, e7, hn7⟩ := h9
              rw [e7] at hn7
              simp only [e7]
              have hs := Lib.hid (show (L2 == L2) = true by simp)
              go_wp2_with fail
              refine (same_is _ _ L2 L2 true w9 (Blk.partNums (A := L1) (x := L2) (C := L3) (by simpa [hpk'.out] using (below_cell hb9 k27.out)) 16 12 L1l.out L2l.out (by omega)) hn7 hs.out).mono ?_
              rintro ee w10 ⟨rfl, hb10⟩
              go_wp2_with fail
              exact ⟨_, rfl, hb10, rfl⟩
            · obtain rfl := Option.some.inj hoi
              have h5 : (x 5) = .bool true := hd 5 (by kernel_rfl)
              have h10 : (x 10) = .bool true := hd 10 (by kernel_rfl)
              simp only [fill, Act.put, List.setIfInBounds_toArray, List.set_cons_succ, List.set_cons_zero, h5, h10]
              go_wp2_with fail
              exact ⟨_, rfl, Below.refl _ _, rfl⟩
            · obtain rfl := Option.some.inj hoi
              have h11 : (x 11) = .bool true := hd 11 (by kernel_rfl)
              simp only [fill, Act.put, List.setIfInBounds_toArray, List.set_cons_succ, List.set_cons_zero, h11]
              go_wp2_with fail
              exact ⟨_, rfl, Below.refl _ _, rfl⟩
            · obtain rfl := Option.some.inj hoi
              have h12 : (x 12) = .bool true := hd 12 (by kernel_rfl)
              simp only [fill, Act.put, List.setIfInBounds_toArray, List.set_cons_succ, List.set_cons_zero, h12]
              go_wp2_with fail
              exact ⟨_, rfl, Below.refl _ _, rfl⟩
            · obtain rfl := Option.some.inj hoi
              have h12 : (x 12) = .bool true := hd 12 (by kernel_rfl)
              have h13 : (x 13) = .pointer (some ⟨bk, 28, none⟩) := hd 13 (by kernel_rfl)
              simp only [fill, Act.put, List.setIfInBounds_toArray, List.set_cons_succ, List.set_cons_zero, h12, h13]
              go_wp2_with fail
              exact ⟨_, rfl, Below.refl _ _, rfl⟩
            · obtain rfl := Option.some.inj hoi
              have h12 : (x 12) = .bool true := hd 12 (by kernel_rfl)
              simp only [fill, Act.put, List.setIfInBounds_toArray, List.set_cons_succ, List.set_cons_zero, h12]
              go_wp2_with fail
              exact ⟨_, rfl, Below.refl _ _, rfl⟩
            · obtain rfl := Option.some.inj hoi
              have h12 : (x 12) = .bool true := hd 12 (by kernel_rfl)
              have h15 : (x 15) = .slice a0 psk.length k0 := hd 15 (by kernel_rfl)
              simp only [fill, Act.put, List.setIfInBounds_toArray, List.set_cons_succ, List.set_cons_zero, h12, h15]
              go_wp2_with fail
              refine (lab_any _ _ psk [] ⟨#[113, 117, 105, 99, 32, 104, 112]⟩ 16 _ w9 rfl (hg.out.below (below_all b27.out hb9) hg.out.lt) (hu.out.below (below_all b27.out hb9)) (nums_nil _ _) hb.out byt_nil (by have := hl.out; omega) (by decide) (by simp) (by omega) (by omega)).mono ?_
              rintro ee w10 ⟨v10, rfl, hn10, _, hb10⟩
              rw [← hL3.out] at hn10
              obtain ⟨a9, l9, k9, rfl⟩ := slice_any hn10
              go_wp2_with fail
              exact ⟨_, rfl, hb10, _, _, _, rfl, hn10⟩
            · obtain rfl := Option.some.inj hoi
              have h12 : (x 12) = .bool true := hd 12 (by kernel_rfl)
              have h14 : (x 14) = .slice (some ⟨bk, 28, none⟩) 16 16 := hd 14 (by kernel_rfl)
              have h16 : ∃ a n k, (x 16) = Value.slice a n k ∧ NumsAt .u8 w9 (x 16) L3 := hd 16 (by kernel_rfl)
              simp only [fill, Act.put, List.setIfInBounds_toArray, List.set_cons_succ, List.set_cons_zero, h12, h14]
              obtain ⟨a7, l7, k7, e7, hn7⟩ := h16
              rw [e7] at hn7
              simp only [e7]
              have hs := Lib.hid (show (L3 == L3) = true by simp)
              go_wp2_with fail
              refine (same_is _ _ L3 L3 true w9 (Blk.partNums (A := L1 ++ L2) (x := L3) (C := []) (by simpa [hpk'.out] using (below_cell hb9 k27.out)) 28 16 (by rw [List.length_append, L1l.out, L2l.out]) L3l.out (by omega)) hn7 hs.out).mono ?_
              rintro ee w10 ⟨rfl, hb10⟩
              go_wp2_with fail
              exact ⟨_, rfl, hb10, rfl⟩
            · obtain rfl := Option.some.inj hoi
              have h12 : (x 12) = .bool true := hd 12 (by kernel_rfl)
              have h17 : (x 17) = .bool true := hd 17 (by kernel_rfl)
              simp only [fill, Act.put, List.setIfInBounds_toArray, List.set_cons_succ, List.set_cons_zero, h12, h17]
              go_wp2_with fail
              exact ⟨_, rfl, Below.refl _ _, rfl⟩
            · obtain rfl := Option.some.inj hoi
              have h18 : (x 18) = .bool true := hd 18 (by kernel_rfl)
              simp only [fill, Act.put, List.setIfInBounds_toArray, List.set_cons_succ, List.set_cons_zero, h18]
              go_wp2_with fail
              exact ⟨_, rfl, Below.refl _ _, rfl⟩
            · obtain rfl := Option.some.inj hoi
              have h19 : (x 19) = .bool true := hd 19 (by kernel_rfl)
              simp only [fill, Act.put, List.setIfInBounds_toArray, List.set_cons_succ, List.set_cons_zero, h19]
              go_wp2_with fail
              exact ⟨_, rfl, Below.refl _ _, rfl⟩
            · obtain rfl := Option.some.inj hoi
              have h19 : (x 19) = .bool true := hd 19 (by kernel_rfl)
              simp only [fill, Act.put, List.setIfInBounds_toArray, List.set_cons_succ, List.set_cons_zero, h19]
              go_wp2_with fail
              exact ⟨_, rfl, Below.refl _ _, rfl⟩
            · obtain rfl := Option.some.inj hoi
              have h19 : (x 19) = .bool true := hd 19 (by kernel_rfl)
              have h20 : (x 20) = .slice a0 psk.length k0 := hd 20 (by kernel_rfl)
              have h21 : (x 21) = .slice a1 hellos.length k1 := hd 21 (by kernel_rfl)
              simp only [fill, Act.put, List.setIfInBounds_toArray, List.set_cons_succ, List.set_cons_zero, h19, h20, h21]
              go_wp2_with fail
              refine (finish_any _ _ psk hellos w9 (hg.out.below (below_all b27.out hb9) hg.out.lt) (hu.out.below (below_all b27.out hb9)) (hv.out.below (below_all b27.out hb9)) hb.out hbh.out (by have := hl.out; omega) (by have := hlh.out; omega)).mono ?_
              rintro ee w10 ⟨rfl, hb10⟩
              go_wp2_with fail
              exact ⟨_, rfl, hb10, by rw [hfin2.out]⟩
            · obtain rfl := Option.some.inj hoi
              have h19 : (x 19) = .bool true := hd 19 (by kernel_rfl)
              simp only [fill, Act.put, List.setIfInBounds_toArray, List.set_cons_succ, List.set_cons_zero, h19]
              go_wp2_with fail
              exact ⟨_, rfl, Below.refl _ _, rfl⟩
            · obtain rfl := Option.some.inj hoi
              have h19 : (x 19) = .bool true := hd 19 (by kernel_rfl)
              simp only [fill, Act.put, List.setIfInBounds_toArray, List.set_cons_succ, List.set_cons_zero, h19]
              go_wp2_with fail
              exact ⟨_, rfl, Below.refl _ _, rfl⟩
            · obtain rfl := Option.some.inj hoi
              have h19 : (x 19) = .bool true := hd 19 (by kernel_rfl)
              have h24 : (x 24) = (.slice (some ⟨b7 + 1, 0, none⟩) 32 32) := hd 24 (by kernel_rfl)
              simp only [fill, Act.put, List.setIfInBounds_toArray, List.set_cons_succ, List.set_cons_zero, h19, h24]
              go_wp2_with fail
              have hp := parts_one (Blk.new w9 22 #[(.slice (some ⟨b7 + 1, 0, none⟩) 32 32)]) (((below_cell hb9 n27.out).nums 32 nl.out (by omega)).alloc _)
              exact ⟨_, rfl, (Below.refl _ _).alloc (Nat.le_refl _) _, hp⟩
            · obtain rfl := Option.some.inj hoi
              have h19 : (x 19) = .bool true := hd 19 (by kernel_rfl)
              have h23 : (x 23) = .slice a0 psk.length k0 := hd 23 (by kernel_rfl)
              have h25 : PartsAt w9 (x 25) [n] := hd 25 (by kernel_rfl)
              simp only [fill, Act.put, List.setIfInBounds_toArray, List.set_cons_succ, List.set_cons_zero, h19, h23]
              go_wp2_with fail
              refine (mac_any _ _ psk n [n] w9 (hg.out.below (below_all b27.out hb9) hg.out.lt) (hu.out.below (below_all b27.out hb9)) h25 (by simp) hb.out nb.out (by have := hl.out; omega) (by rw [nl.out]; omega) (by simp)).mono ?_
              rintro ee w10 ⟨rfl, hb10⟩
              go_wp2_with fail
              exact ⟨_, rfl, hb10, by rw [hfin.out]⟩
            · obtain rfl := Option.some.inj hoi
              have h19 : (x 19) = .bool true := hd 19 (by kernel_rfl)
              have h22 : (x 22) = .agg (bys fin) := hd 22 (by kernel_rfl)
              have h26 : (x 26) = .agg (bys fin) := hd 26 (by kernel_rfl)
              simp only [fill, Act.put, List.setIfInBounds_toArray, List.set_cons_succ, List.set_cons_zero, h19, h22, h26]
              have e1 := equal_self arr26 fin lfin.out w9
              go_wp2_with fail
              exact ⟨_, rfl, Below.refl _ _, rfl⟩
            · obtain rfl := Option.some.inj hoi
              have h19 : (x 19) = .bool true := hd 19 (by kernel_rfl)
              have h27 : (x 27) = .bool true := hd 27 (by kernel_rfl)
              simp only [fill, Act.put, List.setIfInBounds_toArray, List.set_cons_succ, List.set_cons_zero, h19, h27]
              go_wp2_with fail
              exact ⟨_, rfl, Below.refl _ _, rfl⟩
            · obtain rfl := Option.some.inj hoi
              have h28 : (x 28) = .bool true := hd 28 (by kernel_rfl)
              simp only [fill, Act.put, List.setIfInBounds_toArray, List.set_cons_succ, List.set_cons_zero, h28]
              go_wp2_with fail
              exact ⟨_, rfl, Below.refl _ _, rfl⟩
            · obtain rfl := Option.some.inj hoi
              have h29 : (x 29) = .bool true := hd 29 (by kernel_rfl)
              simp only [fill, Act.put, List.setIfInBounds_toArray, List.set_cons_succ, List.set_cons_zero, h29]
              go_wp2_with fail
              exact ⟨_, rfl, Below.refl _ _, rfl⟩
            · obtain rfl := Option.some.inj hoi
              have h29 : (x 29) = .bool true := hd 29 (by kernel_rfl)
              simp only [fill, Act.put, List.setIfInBounds_toArray, List.set_cons_succ, List.set_cons_zero, h29]
              go_wp2_with fail
              exact ⟨_, rfl, Below.refl _ _, rfl⟩
            · obtain rfl := Option.some.inj hoi
              have h29 : (x 29) = .bool true := hd 29 (by kernel_rfl)
              have h30 : (x 30) = .slice (some ⟨br, 0, none⟩) 16 16 := hd 30 (by kernel_rfl)
              have h31 : (x 31) = .slice (some ⟨br + 1, 0, none⟩) 16 32 := hd 31 (by kernel_rfl)
              simp only [fill, Act.put, List.setIfInBounds_toArray, List.set_cons_succ, List.set_cons_zero, h29, h30, h31]
              have nx := nums_pre (((below_cell hb9 m27.out).nums 32 lmr.out (by omega))) 16 (by rw [lmr.out]; omega)
              rw [hrs'.out] at nx
              have hs := Lib.hid (show (rs == rs) = true by simp)
              replace nx := Lib.hid nx
              go_wp2_with fail
              refine (same_is _ _ rs rs true w9 ((below_cell hb9 r27.out).nums 16 lrs.out (by omega)) nx.out hs.out).mono ?_
              rintro ee w10 ⟨rfl, hb10⟩
              go_wp2_with fail
              exact ⟨_, rfl, hb10, rfl⟩
            · obtain rfl := Option.some.inj hoi
              have h29 : (x 29) = .bool true := hd 29 (by kernel_rfl)
              have h32 : (x 32) = .bool true := hd 32 (by kernel_rfl)
              simp only [fill, Act.put, List.setIfInBounds_toArray, List.set_cons_succ, List.set_cons_zero, h29, h32]
              go_wp2_with fail
              exact ⟨_, rfl, Below.refl _ _, rfl⟩
            · obtain rfl := Option.some.inj hoi
              have h33 : (x 33) = .bool true := hd 33 (by kernel_rfl)
              simp only [fill, Act.put, List.setIfInBounds_toArray, List.set_cons_succ, List.set_cons_zero, h33]
              go_wp2_with fail
              exact ⟨_, rfl, Below.refl _ _, rfl⟩
            · obtain rfl := Option.some.inj hoi
              have h34 : (x 34) = .bool true := hd 34 (by kernel_rfl)
              simp only [fill, Act.put, List.setIfInBounds_toArray, List.set_cons_succ, List.set_cons_zero, h34]
              go_wp2_with fail
              refine (awake18_any w9 (hg.out.below (below_all b27.out hb9) hg.out.lt)).mono ?_
              rintro ee w10 ⟨rfl, hb10⟩
              go_wp2_with fail
              exact ⟨_, rfl, hb10, by rfl⟩
            · obtain rfl := Option.some.inj hoi
              have h34 : (x 34) = .bool true := hd 34 (by kernel_rfl)
              have h35 : (x 35) = .bool true := hd 35 (by kernel_rfl)
              simp only [fill, Act.put, List.setIfInBounds_toArray, List.set_cons_succ, List.set_cons_zero, h34, h35]
              go_wp2_with fail
              exact ⟨_, rfl, Below.refl _ _, rfl⟩
            · cases hoi
          · intro x w9 hb9 hd
            have h36 : (x 36) = .bool true := hd 36 (by decide)
            simp only [fill, Act.put, List.setIfInBounds_toArray, List.set_cons_succ, List.set_cons_zero, h36]
            go_wp2_with fail
            go_ret
            exact ⟨rfl, below_all b27.out hb9⟩
end Go.Proofs.YtikmfaeiecpncaaDoor
