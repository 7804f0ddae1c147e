/- The document's keys behind the hellos: walked. -/
import Derived.Test.YtikmfaeiecpncaaDoorKH
namespace Go.Proofs.YtikmfaeiecpncaaDoor
open Go.RowKit

theorem FarAt.form {w : World} {B : Nat} {v : Value} {xs : List Int} (h : FarAt w B v xs) : ∃ g off n cap, v = .slice (some ⟨g, off, none⟩) n cap := by
  obtain ⟨⟨g, off, n, cap, e, _⟩, _⟩ := h
  exact ⟨g, off, n, cap, e⟩
/-- What stays as it is in the loop. -/
def RAt (w : World) (z : Array Value) (n H M : List Int) (b6 b7 b8 : Nat) (wr : World) : Prop :=
  Below w.heap.size w wr ∧ Blk wr w.heap.size 64 z ∧ Blk wr b6 26 (bys n) ∧ Blk wr b7 26 (bys H) ∧ Blk wr b8 26 (bys M)
theorem RAt.below {w wr w' : World} {z : Array Value} {n H M : List Int} {b6 b7 b8 : Nat} (h : RAt w z n H M b6 b7 b8 wr) (hb : Below wr.heap.size wr w') : RAt w z n H M b6 b7 b8 w' :=
  ⟨below_all h.1 hb, below_cell hb h.2.1, below_cell hb h.2.2.1, below_cell hb h.2.2.2.1, below_cell hb h.2.2.2.2⟩
theorem RAt.cells {w wr : World} {z : Array Value} {n H M : List Int} {b6 b7 b8 b9 : Nat} (h : RAt w z n H M b6 b7 b8 wr) (h0 : w.heap.size < b9) (h6 : b9 < b6) (h7 : b9 < b7) (h8 : b9 < b8) (o : Nat) (vs : List Value) : RAt w z n H M b6 b7 b8 (wr.setCells b9 o vs) :=
  ⟨setCells_below vs o wr h.1 (by omega), h.2.1.cellsOther o vs (by omega), h.2.2.1.cellsOther o vs (by omega), h.2.2.2.1.cellsOther o vs (by omega), h.2.2.2.2.cellsOther o vs (by omega)⟩
theorem RAt.cell {w wr : World} {z : Array Value} {n H M : List Int} {b6 b7 b8 b9 : Nat} (h : RAt w z n H M b6 b7 b8 wr) (h0 : w.heap.size < b9) (h6 : b9 < b6) (h7 : b9 < b7) (h8 : b9 < b8) (o : Nat) (u : Value) : RAt w z n H M b6 b7 b8 (wr.setCell ⟨b9, o, none⟩ u) :=
  ⟨h.1.setCell (p := ⟨b9, o, none⟩) (by show w.heap.size ≤ b9; omega) u, h.2.1.setOther u (by omega), h.2.2.1.setOther u (by omega), h.2.2.2.1.setOther u (by omega), h.2.2.2.2.setOther u (by omega)⟩
set_option maxHeartbeats 3200000 in
set_option maxRecDepth 100000 in
theorem rall_any (u v : Value) (psk hellos : List Int) (w : World) (hu : NumsAt .u8 w u psk) (hv : NumsAt .u8 w v hellos) (hb : Byt psk) (hbh : Byt hellos) (hl : psk.length ≤ 10000) (hlh : hellos.length ≤ 10000) :
    Calls Tryd.prog 38 #[u, v] w fun e w' => ∃ f0 f1, e = .returned (.agg (setV (helloL psk hellos 0) (helloL psk hellos 1) (dataL psk hellos 0) (dataL psk hellos 1) f0 f1)) ∧ FarAt w' w.heap.size f0 (finL psk hellos 0) ∧ FarAt w' w.heap.size f1 (finL psk hellos 1) ∧ Below w.heap.size w w' := by
  obtain ⟨a0, l0, k0, rfl⟩ := slice_any hu
  obtain ⟨a1, m1, k1, rfl⟩ := slice_any hv
  obtain ⟨e, he⟩ := name_it (mac [] psk)
  obtain ⟨n, hn⟩ := name_it (sha hellos)
  obtain ⟨H, hH⟩ := name_it (hL psk)
  obtain ⟨M, hM⟩ := name_it (mL psk)
  have el : Hid (e.length = 32) := by show _ = _; rw [he.out]; exact mac_len _ _
  have nl : Hid (n.length = 32) := by show _ = _; rw [hn.out]; exact sha_len _
  have Hl : Hid (H.length = 32) := by show _ = _; rw [hH.out]; exact nextL_len _
  have Ml : Hid (M.length = 32) := by show _ = _; rw [hM.out]; exact nextL_len _
  have eb : Hid (Byt e) := by show Byt _; rw [he.out]; exact byt_mac _ _
  have nb : Hid (Byt n) := by show Byt _; rw [hn.out]; exact byt_sha _
  have Hb : Hid (Byt H) := by show Byt _; rw [hH.out]; exact byt_next _
  have Mb : Hid (Byt M) := by show Byt _; rw [hM.out]; exact byt_next _
  have hH' : Hid (nextL e = H) := by show _ = _; rw [hH.out, he.out]; rfl
  have hM' : Hid (nextL H = M) := by show _ = _; rw [hM.out, hH.out]; rfl
  obtain ⟨T0, hT0⟩ := name_it (trafL psk hellos 0)
  obtain ⟨P0, hP0⟩ := name_it (helloL psk hellos 0)
  obtain ⟨F0, hF0⟩ := name_it (finL psk hellos 0)
  obtain ⟨D0, hD0⟩ := name_it (dataS psk hellos 0)
  obtain ⟨Q0, hQ0⟩ := name_it (dataL psk hellos 0)
  have hT0' : Hid (lab H (whoS 0 ++ hsS) n 32 = T0) := by show _ = _; rw [hT0.out, hH.out, hn.out]; rfl
  have hP0' : Hid (packetL T0 = P0) := by show _ = _; rw [hP0.out, hT0.out]; rfl
  have hF0' : Hid (lab T0 finS [] 32 = F0) := by show _ = _; rw [hF0.out, hT0.out]; rfl
  have hD0' : Hid (lab M (whoS 0 ++ apS) n 32 = D0) := by show _ = _; rw [hD0.out, hM.out, hn.out]; rfl
  have hQ0' : Hid (packetL D0 = Q0) := by show _ = _; rw [hQ0.out, hD0.out]; rfl
  have T0l : Hid (T0.length = 32) := by show _ = _; rw [hT0.out]; exact trafL_len _ _ _
  have P0l : Hid (P0.length = 44) := by show _ = _; rw [hP0.out]; exact packetL_len _
  have F0l : Hid (F0.length = 32) := by show _ = _; rw [hF0.out]; exact finL_len _ _ _
  have D0l : Hid (D0.length = 32) := by show _ = _; rw [hD0.out]; exact dataS_len _ _ _
  have Q0l : Hid (Q0.length = 44) := by show _ = _; rw [hQ0.out]; exact packetL_len _
  have T0b : Hid (Byt T0) := by show Byt _; rw [hT0.out]; exact byt_labS _ _ _ _
  have F0b : Hid (Byt F0) := by show Byt _; rw [hF0.out]; exact byt_labS _ _ _ _
  have D0b : Hid (Byt D0) := by show Byt _; rw [hD0.out]; exact byt_labS _ _ _ _
  obtain ⟨T1, hT1⟩ := name_it (trafL psk hellos 1)
  obtain ⟨P1, hP1⟩ := name_it (helloL psk hellos 1)
  obtain ⟨F1, hF1⟩ := name_it (finL psk hellos 1)
  obtain ⟨D1, hD1⟩ := name_it (dataS psk hellos 1)
  obtain ⟨Q1, hQ1⟩ := name_it (dataL psk hellos 1)
  have hT1' : Hid (lab H (whoS 1 ++ hsS) n 32 = T1) := by show _ = _; rw [hT1.out, hH.out, hn.out]; rfl
  have hP1' : Hid (packetL T1 = P1) := by show _ = _; rw [hP1.out, hT1.out]; rfl
  have hF1' : Hid (lab T1 finS [] 32 = F1) := by show _ = _; rw [hF1.out, hT1.out]; rfl
  have hD1' : Hid (lab M (whoS 1 ++ apS) n 32 = D1) := by show _ = _; rw [hD1.out, hM.out, hn.out]; rfl
  have hQ1' : Hid (packetL D1 = Q1) := by show _ = _; rw [hQ1.out, hD1.out]; rfl
  have T1l : Hid (T1.length = 32) := by show _ = _; rw [hT1.out]; exact trafL_len _ _ _
  have P1l : Hid (P1.length = 44) := by show _ = _; rw [hP1.out]; exact packetL_len _
  have F1l : Hid (F1.length = 32) := by show _ = _; rw [hF1.out]; exact finL_len _ _ _
  have D1l : Hid (D1.length = 32) := by show _ = _; rw [hD1.out]; exact dataS_len _ _ _
  have Q1l : Hid (Q1.length = 44) := by show _ = _; rw [hQ1.out]; exact packetL_len _
  have T1b : Hid (Byt T1) := by show Byt _; rw [hT1.out]; exact byt_labS _ _ _ _
  have F1b : Hid (Byt F1) := by show Byt _; rw [hF1.out]; exact byt_labS _ _ _ _
  have D1b : Hid (Byt D1) := by show Byt _; rw [hD1.out]; exact byt_labS _ _ _ _
  rw [← hP0.out, ← hP1.out, ← hQ0.out, ← hQ1.out, ← hF0.out, ← hF1.out]
  clear hT0 hT1 hP0 hP1 hF0 hF1 hD0 hD1 hQ0 hQ1 hH hM
  have zl := zb_len 44
  replace zl := Lib.hid zl
  have hzz := fun w => zero_of zero64 w
  have hc26 := fun (b : Nat) (w : World) => slice_all arr26 arr26' el26 b 0 w
  have b1 := (Below.refl w.heap.size w).alloc (Nat.le_refl _) (.cells (setV (zb 44) (zb 44) (zb 44) (zb 44) (.slice none 0 0) (.slice none 0 0)) 64)
  have l1 := Blk.new w 64 (setV (zb 44) (zb 44) (zb 44) (zb 44) (.slice none 0 0) (.slice none 0 0))
  obtain ⟨w1, hw1⟩ : ∃ x, x = w.alloc (.cells (setV (zb 44) (zb 44) (zb 44) (zb 44) (.slice none 0 0) (.slice none 0 0)) 64) := ⟨_, rfl⟩
  rw [← hw1] at b1 l1
  have hs1 : w1.heap.size = w.heap.size + 1 := by rw [hw1]; simp
  have b2 := Lib.hid (b1.alloc b1.size (.cells (setV (zb 44) (zb 44) (zb 44) (zb 44) (.slice none 0 0) (.slice none 0 0)) 64))
  have l2 := Lib.hid (l1.alloc (.cells (setV (zb 44) (zb 44) (zb 44) (zb 44) (.slice none 0 0) (.slice none 0 0)) 64))
  have m2 := Lib.hid (Blk.new w1 64 (setV (zb 44) (zb 44) (zb 44) (zb 44) (.slice none 0 0) (.slice none 0 0)))
  obtain ⟨w2, hw2⟩ : ∃ x, x = w1.alloc (.cells (setV (zb 44) (zb 44) (zb 44) (zb 44) (.slice none 0 0) (.slice none 0 0)) 64) := ⟨_, rfl⟩
  rw [← hw2] at b2 l2 m2
  have u2 := Lib.hid (hu.below b2.out)
  have v2 := Lib.hid (hv.below b2.out)
  replace hb := Lib.hid hb
  replace hbh := Lib.hid hbh
  replace hw1 := Lib.hid hw1
  replace hw2 := Lib.hid hw2
  clear hu hv b1 l1
  go_enter Tryd.func38, Tryd.ntmps38
  go_wp2_with fail
  change Calls _ _ _ ((w.alloc (.cells (setV (zb 44) (zb 44) (zb 44) (zb 44) (.slice none 0 0) (.slice none 0 0)) 64)).alloc (.cells (setV (zb 44) (zb 44) (zb 44) (zb 44) (.slice none 0 0) (.slice none 0 0)) 64)) _
  rw [← hw1.out, ← hw2.out]
  refine (rsum_any _ hellos w2 v2.out hbh.out (by omega)).mono ?_
  rintro ee w3 ⟨rfl, d3⟩
  rw [← hn.out]
  obtain ⟨b9, hb9⟩ : ∃ b, b = w.heap.size + 1 := ⟨_, rfl⟩
  rw [hs1, ← hb9] at m2
  rw [← hb9]
  have b3 := Lib.hid (below_all b2.out d3)
  have l3 := Lib.hid (below_cell d3 l2.out)
  have m3 := Lib.hid (below_cell d3 m2.out)
  have u3 := Lib.hid (u2.out.below d3)
  have hlw : Hid (w.heap.size < b9) := by show _ < _; omega
  clear b2 l2 m2 u2 v2 d3 hw1 hw2 hs1 hb9
  have z8 : (Tryd.prog.info? 26).map (·.size) = some (bys n).size := by rw [bys_size, nl.out]; exact sz26
  replace z8 := Lib.hid z8
  have ho8 : Hid ((bys (zb 32)).size = (bys n).size) := by show _ = _; rw [bys_size, bys_size, nl.out]; rfl
  have ln_b6 := Lib.hid ((Blk.new w3 26 (bys (zb 32))).setRow (bys n))
  have bb8 := Lib.hid (below_setRow (g := w3.heap.size) ((Below.refl w3.heap.size w3).alloc (Nat.le_refl _) (.cells (bys (zb 32)) 26)) (Nat.le_refl _) (bys n))
  obtain ⟨w4, hw8⟩ : ∃ x, x = (w3.alloc (.cells (bys (zb 32)) 26)).setRow w3.heap.size (bys n) := ⟨_, rfl⟩
  rw [← hw8] at ln_b6 bb8
  have hlt_b6 := ln_b6.out.lt
  replace hlt_b6 := Lib.hid hlt_b6
  have b4 := Lib.hid (below_all b3.out bb8.out)
  have l4 := Lib.hid (below_cell bb8.out l3.out)
  have m4 := Lib.hid (below_cell bb8.out m3.out)
  have u4 := Lib.hid (u3.out.below bb8.out)
  have hl6 := m3.out.lt
  clear b3 l3 m3 u3
  replace hw8 := Lib.hid hw8
  go_wp2_with (refine wpList_store_row rfl 26 _ _ rfl _ _ rfl rfl 26 _ (Blk.new w3 26 (bys (zb 32))) z8.out ho8.out (bys_one _) ?_; change wpList _ _ _ _ _ ((w3.alloc (.cells (bys (zb 32)) 26)).setRow w3.heap.size (bys n)); rw [← hw8.out])
  obtain ⟨b6, hb8⟩ : ∃ b, b = w3.heap.size := ⟨_, rfl⟩
  rw [← hb8] at ln_b6 hl6 ⊢
  replace hl6 := Lib.hid hl6
  clear hb8 hw8 z8 ho8 bb8
  refine (rextract_any _ _ [] psk w4 (nums_nil _ _) u4.out byt_nil hb.out (by simp) hl).mono ?_
  rintro ee w5 ⟨rfl, d5⟩
  rw [← he.out]
  have b5 := Lib.hid (below_all b4.out d5)
  have l5 := Lib.hid (below_cell d5 l4.out)
  have m5 := Lib.hid (below_cell d5 m4.out)
  have x5 := Lib.hid (below_cell d5 ln_b6.out)
  clear b4 l4 m4 u4 d5 ln_b6 hlt_b6
  go_wp2_with fail
  refine (rnext_any e w5 eb.out el.out).mono ?_
  rintro ee w6 ⟨rfl, d6⟩
  rw [hH'.out]
  have b6' := Lib.hid (below_all b5.out d6)
  have l6 := Lib.hid (below_cell d6 l5.out)
  have m6 := Lib.hid (below_cell d6 m5.out)
  have x6 := Lib.hid (below_cell d6 x5.out)
  clear b5 l5 m5 x5 d6
  have z8 : (Tryd.prog.info? 26).map (·.size) = some (bys H).size := by rw [bys_size, Hl.out]; exact sz26
  replace z8 := Lib.hid z8
  have ho8 : Hid ((bys (zb 32)).size = (bys H).size) := by show _ = _; rw [bys_size, bys_size, Hl.out]; rfl
  have ln_b7 := Lib.hid ((Blk.new w6 26 (bys (zb 32))).setRow (bys H))
  have bb8 := Lib.hid (below_setRow (g := w6.heap.size) ((Below.refl w6.heap.size w6).alloc (Nat.le_refl _) (.cells (bys (zb 32)) 26)) (Nat.le_refl _) (bys H))
  obtain ⟨w7, hw8⟩ : ∃ x, x = (w6.alloc (.cells (bys (zb 32)) 26)).setRow w6.heap.size (bys H) := ⟨_, rfl⟩
  rw [← hw8] at ln_b7 bb8
  have hlt_b7 := ln_b7.out.lt
  replace hlt_b7 := Lib.hid hlt_b7
  have b7' := Lib.hid (below_all b6'.out bb8.out)
  have l7 := Lib.hid (below_cell bb8.out l6.out)
  have m7 := Lib.hid (below_cell bb8.out m6.out)
  have x7 := Lib.hid (below_cell bb8.out x6.out)
  have hl7 := m6.out.lt
  clear b6' l6 m6 x6
  have e1 := Lib.hid (load_at (P := Tryd.prog) ln_b7.out 32 5 arr26 (by rw [bys_size, Hl.out]; exact sz26))
  replace hw8 := Lib.hid hw8
  go_wp2_with (first | (refine wpList_store_row rfl 26 _ _ rfl _ _ rfl rfl 26 _ (Blk.new w6 26 (bys (zb 32))) z8.out ho8.out (bys_one _) ?_; change wpList _ _ _ _ _ ((w6.alloc (.cells (bys (zb 32)) 26)).setRow w6.heap.size (bys H)); rw [← hw8.out]) | refine wpList_load_is rfl 26 _ rfl rfl e1.out ?_)
  obtain ⟨b7, hb8⟩ : ∃ b, b = w6.heap.size := ⟨_, rfl⟩
  rw [← hb8] at ln_b7 hl7 ⊢
  replace hl7 := Lib.hid hl7
  clear e1
  clear hb8 hw8 z8 ho8 bb8
  refine (rnext_any H w7 Hb.out Hl.out).mono ?_
  rintro ee w8 ⟨rfl, d8⟩
  rw [hM'.out]
  have b8' := Lib.hid (below_all b7'.out d8)
  have l8 := Lib.hid (below_cell d8 l7.out)
  have m8 := Lib.hid (below_cell d8 m7.out)
  have x8 := Lib.hid (below_cell d8 x7.out)
  have y8 := Lib.hid (below_cell d8 ln_b7.out)
  clear b7' l7 m7 x7 d8 ln_b7 hlt_b7
  have z8 : (Tryd.prog.info? 26).map (·.size) = some (bys M).size := by rw [bys_size, Ml.out]; exact sz26
  replace z8 := Lib.hid z8
  have ho8 : Hid ((bys (zb 32)).size = (bys M).size) := by show _ = _; rw [bys_size, bys_size, Ml.out]; rfl
  have ln_b8 := Lib.hid ((Blk.new w8 26 (bys (zb 32))).setRow (bys M))
  have bb8 := Lib.hid (below_setRow (g := w8.heap.size) ((Below.refl w8.heap.size w8).alloc (Nat.le_refl _) (.cells (bys (zb 32)) 26)) (Nat.le_refl _) (bys M))
  obtain ⟨w10, hw8⟩ : ∃ x, x = (w8.alloc (.cells (bys (zb 32)) 26)).setRow w8.heap.size (bys M) := ⟨_, rfl⟩
  rw [← hw8] at ln_b8 bb8
  have hlt_b8 := ln_b8.out.lt
  replace hlt_b8 := Lib.hid hlt_b8
  have b10 := Lib.hid (below_all b8'.out bb8.out)
  have l10 := Lib.hid (below_cell bb8.out l8.out)
  have m10 := Lib.hid (below_cell bb8.out m8.out)
  have x10 := Lib.hid (below_cell bb8.out x8.out)
  have y10 := Lib.hid (below_cell bb8.out y8.out)
  have hl8 := m8.out.lt
  clear b8' l8 m8 x8 y8
  replace hw8 := Lib.hid hw8
  go_wp2_with (refine wpList_store_row rfl 26 _ _ rfl _ _ rfl rfl 26 _ (Blk.new w8 26 (bys (zb 32))) z8.out ho8.out (bys_one _) ?_; change wpList _ _ _ _ _ ((w8.alloc (.cells (bys (zb 32)) 26)).setRow w8.heap.size (bys M)); rw [← hw8.out])
  obtain ⟨b8, hb8⟩ : ∃ b, b = w8.heap.size := ⟨_, rfl⟩
  rw [← hb8] at ln_b8 hl8 ⊢
  replace hl8 := Lib.hid hl8
  clear hb8 hw8 z8 ho8 bb8
  have R0 : Hid (RAt w (setV (zb 44) (zb 44) (zb 44) (zb 44) (.slice none 0 0) (.slice none 0 0)) n H M b6 b7 b8 w10) := ⟨b10.out, l10.out, x10.out, y10.out, ln_b8.out⟩
  clear b10 l10 x10 y10 ln_b8 hlt_b8
  go_loopw [9, 10, 11] (fun i _ _ wr =>
    (i = .int .i64 0 ∧ Hid (RAt w (setV (zb 44) (zb 44) (zb 44) (zb 44) (.slice none 0 0) (.slice none 0 0)) n H M b6 b7 b8 wr ∧ Blk wr b9 64 (setV (zb 44) (zb 44) (zb 44) (zb 44) (.slice none 0 0) (.slice none 0 0)))) ∨
    (i = .int .i64 1 ∧ ∃ a p n' c, Hid (RAt w (setV (zb 44) (zb 44) (zb 44) (zb 44) (.slice none 0 0) (.slice none 0 0)) n H M b6 b7 b8 wr ∧ FarAt wr (b9 + 1) (.slice (some ⟨a, p, none⟩) n' c) F0 ∧ Blk wr b9 64 (setV P0 (zb 44) Q0 (zb 44) (.slice (some ⟨a, p, none⟩) n' c) (.slice none 0 0)))) ∨
    (i = .int .i64 2 ∧ ∃ a p n' c a' p' n'' c', Hid (RAt w (setV (zb 44) (zb 44) (zb 44) (zb 44) (.slice none 0 0) (.slice none 0 0)) n H M b6 b7 b8 wr ∧ FarAt wr (b9 + 1) (.slice (some ⟨a, p, none⟩) n' c) F0 ∧ FarAt wr (b9 + 1) (.slice (some ⟨a', p', none⟩) n'' c') F1 ∧ Blk wr b9 64 (setV P0 P1 Q0 Q1 (.slice (some ⟨a, p, none⟩) n' c) (.slice (some ⟨a', p', none⟩) n'' c'))))) (fun i _ _ _ => 2 - (intOf i).toNat)
  case atStart => exact .inl ⟨rfl, R0.out, m10.out⟩
  case round =>
    clear R0 m10
    rcases hrel with ⟨rfl, hI⟩ | ⟨rfl, fa, fp, fn, fc, hI⟩ | ⟨rfl, fa, fp, fn, fc, ga, gp, gn, gc, hI⟩
    · obtain ⟨R0, S0⟩ := hI.out
      clear hI
      have d1 := (Below.refl wr.heap.size wr).alloc (Nat.le_refl _) (.cells #[.string ⟨#[99]⟩, .string ⟨#[115]⟩] 9)
      have R1 := Lib.hid (R0.below d1)
      have S1 := Lib.hid (below_cell d1 S0)
      clear d1 R0 S0
      go_wp2_with fail
      change Code.wp _ _ _ _ (wr.alloc (.cells #[.string ⟨#[99]⟩, .string ⟨#[115]⟩] 9))
      generalize wr.alloc (.cells #[.string ⟨#[99]⟩, .string ⟨#[115]⟩] 9) = w11 at R1 S1 ⊢
      have hlt1 := Lib.hid S1.out.lt
      refine region_rel_lit (.step (.step (.step (.step (.step (.base _)))))) (fun i W v => match i with
        | 0 => v = (.slice (some ⟨b7, 0, none⟩) 32 32)
        | 1 => v = .string (whoS 0)
        | 2 => v = .string (whoS 0 ++ hsS)
        | 3 => v = (.slice (some ⟨b6, 0, none⟩) 32 32)
        | _ => FarAt W (b9 + 1) v T0) mixed (by kernel_rfl) (by kernel_rfl) ?_ ?_ ?_
      · rintro (_ | _ | _ | _ | i) W W' v h hb
        all_goals first | exact h | exact PartsAt.below h hb | exact NumsAt.below h hb | exact sl_below h hb | exact SlAt.below h hb | exact FarAt.below h hb | exact PtrAt.below h hb | exact blk_spec h hb | exact spec_below h hb
      · intro i oi hoi x w9 hb9 hd
        rcases i with _ | _ | _ | _ | _ | i
        · obtain rfl := Option.some.inj hoi
          simp only [fill, Act.put, List.setIfInBounds_toArray, List.set_cons_succ, List.set_cons_zero]
          go_wp2_with fail
          exact ⟨_, rfl, Below.refl _ _, rfl⟩
        · obtain rfl := Option.some.inj hoi
          simp only [fill, Act.put, List.setIfInBounds_toArray, List.set_cons_succ, List.set_cons_zero]
          go_wp2_with fail
          exact ⟨_, rfl, Below.refl _ _, rfl⟩
        · obtain rfl := Option.some.inj hoi
          have h1 : (x 1) = .string (whoS 0) := hd 1 (by kernel_rfl)
          simp only [fill, Act.put, List.setIfInBounds_toArray, List.set_cons_succ, List.set_cons_zero, h1]
          go_wp2_with fail
          exact ⟨_, rfl, Below.refl _ _, rfl⟩
        · obtain rfl := Option.some.inj hoi
          simp only [fill, Act.put, List.setIfInBounds_toArray, List.set_cons_succ, List.set_cons_zero]
          go_wp2_with fail
          exact ⟨_, rfl, Below.refl _ _, rfl⟩
        · obtain rfl := Option.some.inj hoi
          have h0 : (x 0) = (.slice (some ⟨b7, 0, none⟩) 32 32) := hd 0 (by kernel_rfl)
          have h2 : (x 2) = .string (whoS 0 ++ hsS) := hd 2 (by kernel_rfl)
          have h3 : (x 3) = (.slice (some ⟨b6, 0, none⟩) 32 32) := hd 3 (by kernel_rfl)
          simp only [fill, Act.put, List.setIfInBounds_toArray, List.set_cons_succ, List.set_cons_zero, h0, h2, h3]
          go_wp2_with fail
          refine (rlabO_any _ _ H n (whoS 0 ++ hsS) 32 _ w9 rfl (((R1.out.below hb9).2.2.2.1).nums 32 Hl.out (by omega)) (((R1.out.below hb9).2.2.1).nums 32 nl.out (by omega)) Hb.out nb.out (by rw [Hl.out]; omega) (who_hs 0) (by rw [nl.out]; omega) (by omega) (by omega)).mono ?_
          rintro ee w12 ⟨v12, rfl, nT, d12⟩
          obtain ⟨aT, lT, kT, rfl⟩ := slice_any nT.nums
          rw [hT0'.out] at nT
          go_wp2_with fail
          exact ⟨_, rfl, d12, nT.mono (Nat.le_trans hlt1.out hb9.size)⟩
        · cases hoi
      · intro x w9 hb9 hd
        have h4 : FarAt w9 (b9 + 1) (x 4) T0 := hd 4 (by decide)
        simp only [fill, Act.put, List.setIfInBounds_toArray, List.set_cons_succ, List.set_cons_zero]
        have TT2 := Lib.hid h4
        clear hd
        have R2 := Lib.hid (R1.out.below hb9)
        have S2 := Lib.hid (below_cell hb9 S1.out)
        clear R1 S1 hb9
        obtain ⟨⟨ta, tp, tn, tc, et, _⟩, _⟩ := TT2.out
        rw [et] at TT2
        simp only [et]
        clear et h4 hlt1
        generalize w9 = w12 at R2 S2 TT2 ⊢
        go_wp2_with fail
        refine (rpacket_any _ T0 w12 TT2.out.nums T0b.out (by rw [T0l.out]; omega)).mono ?_
        rintro ee w13 ⟨rfl, d13⟩
        rw [hP0'.out]
        have R3 := Lib.hid (R2.out.below d13)
        have S3 := Lib.hid (below_cell d13 S2.out)
        have TT3 := Lib.hid (TT2.out.below d13)
        clear R2 S2 TT2 d13
        have S4 := Lib.hid (set_w0 S3.out P0 (by rw [P0l.out, zl.out]))
        have R4 := Lib.hid (R3.out.cells hlw.out hl6.out hl7.out hl8.out 0 (P0.map (Value.int .u8)))
        have TT4 := Lib.hid (TT3.out.cells (Nat.lt_succ_self b9) 0 (P0.map (Value.int .u8)))
        have th : Hid (w13.there b9 0 (bys P0).size) := by show World.there _ _ _ _; rw [bys_size, P0l.out]; exact S3.out.there 0 44 (by rw [set_size zl.out zl.out zl.out zl.out]; omega)
        have z5 : Hid ((Tryd.prog.info? 61).map (·.size) = some (bys P0).size) := by show _ = _; rw [bys_size, P0l.out]; exact sz61
        obtain ⟨w14, hw⟩ : ∃ x, x = w13.setCells b9 0 (P0.map (Value.int .u8)) := ⟨_, rfl⟩
        rw [← hw] at R4 S4 TT4
        replace hw := Lib.hid hw
        clear R3 S3 TT3
        go_wp2_with (refine wpList_store_mid rfl 61 _ _ rfl b9 0 (bys P0) rfl rfl th.out z5.out (bys_one _) ?_; change wpList _ _ _ _ _ (w13.setCells b9 0 (P0.map (Value.int .u8))); rw [← hw.out])
        clear th z5 hw
        refine (rlabO_any _ _ T0 [] finS 32 _ w14 rfl TT4.out.nums (nums_nil _ _) T0b.out byt_nil (by rw [T0l.out]; omega) (by decide) (by simp) (by omega) (by omega)).mono ?_
        rintro ee w15 ⟨v15, rfl, nF, d15⟩
        rw [hF0'.out] at nF
        replace nF := nF.mono (show b9 + 1 ≤ w14.heap.size from S4.out.lt)
        obtain ⟨aF, pF, lF, kF, rfl⟩ := nF.form
        have FF5 := Lib.hid nF
        clear nF TT4
        have R5 := Lib.hid (R4.out.below d15)
        have S5 := Lib.hid (below_cell d15 S4.out)
        clear R4 S4 d15
        have cc : w15.cell? ⟨b9, 176, none⟩ = some (.slice none 0 0) := (S5.out.cell 176).trans (set_at0 P0l.out zl.out zl.out zl.out)
        have ff := S5.out.fr 176
        have S6 := Lib.hid (set_c0 S5.out P0l.out zl.out zl.out zl.out (.slice (some ⟨aF, pF, none⟩) lF kF))
        have FF6 := Lib.hid (FF5.out.cell (Nat.lt_succ_self b9) 176 (.slice (some ⟨aF, pF, none⟩) lF kF))
        have R6 := Lib.hid (R5.out.cell hlw.out hl6.out hl7.out hl8.out 176 (.slice (some ⟨aF, pF, none⟩) lF kF))
        clear FF5 R5 S5
        go_wp2_with fail
        clear cc ff
        generalize w15.setCell ⟨b9, 176, none⟩ (.slice (some ⟨aF, pF, none⟩) lF kF) = w16 at FF6 R6 S6 ⊢
        refine region_rel_lit (.step (.step (.step (.step (.step (.step (.step (.step (.step (.base _)))))))))) (fun i W v => match i with
          | 0 => v = .int .i64 0
          | 1 => v = (.slice (some ⟨b8, 0, none⟩) 32 32)
          | 2 => v = .string (whoS 0)
          | 3 => v = .string (whoS 0 ++ apS)
          | 4 => v = (.slice (some ⟨b6, 0, none⟩) 32 32)
          | 5 => ∃ a n k, v = Value.slice a n k ∧ NumsAt .u8 W v D0
          | 6 => v = .agg (bys Q0)
          | 7 => v = .pointer (some ⟨b9, 88, none⟩)
          | _ => v = .pointer (some ⟨b9, 88, none⟩)) mixed (by kernel_rfl) (by kernel_rfl) ?_ ?_ ?_
        · rintro (_ | _ | _ | _ | _ | _ | _ | _ | i) W W' v h hb
          all_goals first | exact h | exact PartsAt.below h hb | exact NumsAt.below h hb | exact sl_below h hb | exact SlAt.below h hb | exact FarAt.below h hb | exact PtrAt.below h hb | exact blk_spec h hb | exact spec_below h hb
        · intro i oi hoi x w9 hb9 hd
          rcases i with _ | _ | _ | _ | _ | _ | _ | _ | _ | i
          · obtain rfl := Option.some.inj hoi
            simp only [fill, Act.put, List.setIfInBounds_toArray, List.set_cons_succ, List.set_cons_zero]
            go_wp2_with fail
            exact ⟨_, rfl, Below.refl _ _, rfl⟩
          · obtain rfl := Option.some.inj hoi
            simp only [fill, Act.put, List.setIfInBounds_toArray, List.set_cons_succ, List.set_cons_zero]
            go_wp2_with fail
            exact ⟨_, rfl, Below.refl _ _, rfl⟩
          · obtain rfl := Option.some.inj hoi
            simp only [fill, Act.put, List.setIfInBounds_toArray, List.set_cons_succ, List.set_cons_zero]
            go_wp2_with fail
            exact ⟨_, rfl, Below.refl _ _, rfl⟩
          · obtain rfl := Option.some.inj hoi
            have h2 : (x 2) = .string (whoS 0) := hd 2 (by kernel_rfl)
            simp only [fill, Act.put, List.setIfInBounds_toArray, List.set_cons_succ, List.set_cons_zero, h2]
            go_wp2_with fail
            exact ⟨_, rfl, Below.refl _ _, rfl⟩
          · obtain rfl := Option.some.inj hoi
            simp only [fill, Act.put, List.setIfInBounds_toArray, List.set_cons_succ, List.set_cons_zero]
            go_wp2_with fail
            exact ⟨_, rfl, Below.refl _ _, rfl⟩
          · obtain rfl := Option.some.inj hoi
            have h1 : (x 1) = (.slice (some ⟨b8, 0, none⟩) 32 32) := hd 1 (by kernel_rfl)
            have h3 : (x 3) = .string (whoS 0 ++ apS) := hd 3 (by kernel_rfl)
            have h4 : (x 4) = (.slice (some ⟨b6, 0, none⟩) 32 32) := hd 4 (by kernel_rfl)
            simp only [fill, Act.put, List.setIfInBounds_toArray, List.set_cons_succ, List.set_cons_zero, h1, h3, h4]
            go_wp2_with fail
            refine (rlab_any _ _ M n (whoS 0 ++ apS) 32 _ w9 rfl (((R6.out.below hb9).2.2.2.2).nums 32 Ml.out (by omega)) (((R6.out.below hb9).2.2.1).nums 32 nl.out (by omega)) Mb.out nb.out (by rw [Ml.out]; omega) (who_ap 0)).mono ?_
            rintro ee w17 ⟨v17, rfl, nD, d17⟩
            obtain ⟨aD, lD, kD, rfl⟩ := slice_any nD
            rw [hD0'.out] at nD
            go_wp2_with fail
            exact ⟨_, rfl, d17, _, _, _, rfl, nD⟩
          · obtain rfl := Option.some.inj hoi
            have h5 : ∃ a n k, (x 5) = Value.slice a n k ∧ NumsAt .u8 w9 (x 5) D0 := hd 5 (by kernel_rfl)
            simp only [fill, Act.put, List.setIfInBounds_toArray, List.set_cons_succ, List.set_cons_zero]
            obtain ⟨a7, l7, k7, e7, hn7⟩ := h5
            rw [e7] at hn7
            simp only [e7]
            go_wp2_with fail
            refine (rpacket_any _ D0 w9 hn7 D0b.out (by rw [D0l.out]; omega)).mono ?_
            rintro ee w17 ⟨rfl, d17⟩
            go_wp2_with fail
            exact ⟨_, rfl, d17, by rw [hQ0'.out]⟩
          · obtain rfl := Option.some.inj hoi
            simp only [fill, Act.put, List.setIfInBounds_toArray, List.set_cons_succ, List.set_cons_zero]
            go_wp2_with fail
            exact ⟨_, rfl, Below.refl _ _, rfl⟩
          · obtain rfl := Option.some.inj hoi
            have h0 : (x 0) = .int .i64 0 := hd 0 (by kernel_rfl)
            have h7 : (x 7) = .pointer (some ⟨b9, 88, none⟩) := hd 7 (by kernel_rfl)
            simp only [fill, Act.put, List.setIfInBounds_toArray, List.set_cons_succ, List.set_cons_zero, h0, h7]
            go_wp2_with fail
            exact ⟨_, rfl, Below.refl _ _, rfl⟩
          · cases hoi
        · intro x w9 hb9 hd
          have h6 : (x 6) = .agg (bys Q0) := hd 6 (by decide)
          have h8 : (x 8) = .pointer (some ⟨b9, 88, none⟩) := hd 8 (by decide)
          simp only [fill, Act.put, List.setIfInBounds_toArray, List.set_cons_succ, List.set_cons_zero, h6, h8]
          clear hd
          have R7 := Lib.hid (R6.out.below hb9)
          have S7 := Lib.hid (below_cell hb9 S6.out)
          have FF7 := Lib.hid (FF6.out.below hb9)
          clear R6 S6 FF6 hb9
          generalize w9 = w17 at FF7 R7 S7 ⊢
          have S8 := Lib.hid (set_w2 S7.out P0l.out zl.out Q0 (by rw [Q0l.out, zl.out]))
          have R8 := Lib.hid (R7.out.cells hlw.out hl6.out hl7.out hl8.out 88 (Q0.map (Value.int .u8)))
          have FF8 := Lib.hid (FF7.out.cells (Nat.lt_succ_self b9) 88 (Q0.map (Value.int .u8)))
          have th : Hid (w17.there b9 88 (bys Q0).size) := by show World.there _ _ _ _; rw [bys_size, Q0l.out]; exact S7.out.there 88 44 (by rw [set_size P0l.out zl.out zl.out zl.out]; omega)
          have z5 : Hid ((Tryd.prog.info? 61).map (·.size) = some (bys Q0).size) := by show _ = _; rw [bys_size, Q0l.out]; exact sz61
          obtain ⟨w18, hw⟩ : ∃ x, x = w17.setCells b9 88 (Q0.map (Value.int .u8)) := ⟨_, rfl⟩
          rw [← hw] at R8 S8 FF8
          replace hw := Lib.hid hw
          clear R7 S7 FF7
          go_wp2_with (refine wpList_store_mid rfl 61 _ _ rfl b9 88 (bys Q0) rfl rfl th.out z5.out (bys_one _) ?_; change wpList _ _ _ _ _ (w17.setCells b9 88 (Q0.map (Value.int .u8))); rw [← hw.out])
          clear th z5 hw
          go_roundw
          case rel => exact .inr (.inl ⟨rfl, _, _, _, _, R8.out, FF8.out, S8.out⟩)
          case measure => simp [intOf]
    · obtain ⟨R0, cf0, S0⟩ := hI.out
      clear hI
      have d1 := (Below.refl wr.heap.size wr).alloc (Nat.le_refl _) (.cells #[.string ⟨#[99]⟩, .string ⟨#[115]⟩] 9)
      have R1 := Lib.hid (R0.below d1)
      have S1 := Lib.hid (below_cell d1 S0)
      have cf1 := Lib.hid (cf0.below d1)
      clear d1 R0 S0 cf0
      go_wp2_with fail
      change Code.wp _ _ _ _ (wr.alloc (.cells #[.string ⟨#[99]⟩, .string ⟨#[115]⟩] 9))
      generalize wr.alloc (.cells #[.string ⟨#[99]⟩, .string ⟨#[115]⟩] 9) = w11 at R1 S1 cf1 ⊢
      have hlt1 := Lib.hid S1.out.lt
      refine region_rel_lit (.step (.step (.step (.step (.step (.base _)))))) (fun i W v => match i with
        | 0 => v = (.slice (some ⟨b7, 0, none⟩) 32 32)
        | 1 => v = .string (whoS 1)
        | 2 => v = .string (whoS 1 ++ hsS)
        | 3 => v = (.slice (some ⟨b6, 0, none⟩) 32 32)
        | _ => FarAt W (b9 + 1) v T1) mixed (by kernel_rfl) (by kernel_rfl) ?_ ?_ ?_
      · rintro (_ | _ | _ | _ | i) W W' v h hb
        all_goals first | exact h | exact PartsAt.below h hb | exact NumsAt.below h hb | exact sl_below h hb | exact SlAt.below h hb | exact FarAt.below h hb | exact PtrAt.below h hb | exact blk_spec h hb | exact spec_below h hb
      · intro i oi hoi x w9 hb9 hd
        rcases i with _ | _ | _ | _ | _ | i
        · obtain rfl := Option.some.inj hoi
          simp only [fill, Act.put, List.setIfInBounds_toArray, List.set_cons_succ, List.set_cons_zero]
          go_wp2_with fail
          exact ⟨_, rfl, Below.refl _ _, rfl⟩
        · obtain rfl := Option.some.inj hoi
          simp only [fill, Act.put, List.setIfInBounds_toArray, List.set_cons_succ, List.set_cons_zero]
          go_wp2_with fail
          exact ⟨_, rfl, Below.refl _ _, rfl⟩
        · obtain rfl := Option.some.inj hoi
          have h1 : (x 1) = .string (whoS 1) := hd 1 (by kernel_rfl)
          simp only [fill, Act.put, List.setIfInBounds_toArray, List.set_cons_succ, List.set_cons_zero, h1]
          go_wp2_with fail
          exact ⟨_, rfl, Below.refl _ _, rfl⟩
        · obtain rfl := Option.some.inj hoi
          simp only [fill, Act.put, List.setIfInBounds_toArray, List.set_cons_succ, List.set_cons_zero]
          go_wp2_with fail
          exact ⟨_, rfl, Below.refl _ _, rfl⟩
        · obtain rfl := Option.some.inj hoi
          have h0 : (x 0) = (.slice (some ⟨b7, 0, none⟩) 32 32) := hd 0 (by kernel_rfl)
          have h2 : (x 2) = .string (whoS 1 ++ hsS) := hd 2 (by kernel_rfl)
          have h3 : (x 3) = (.slice (some ⟨b6, 0, none⟩) 32 32) := hd 3 (by kernel_rfl)
          simp only [fill, Act.put, List.setIfInBounds_toArray, List.set_cons_succ, List.set_cons_zero, h0, h2, h3]
          go_wp2_with fail
          refine (rlabO_any _ _ H n (whoS 1 ++ hsS) 32 _ w9 rfl (((R1.out.below hb9).2.2.2.1).nums 32 Hl.out (by omega)) (((R1.out.below hb9).2.2.1).nums 32 nl.out (by omega)) Hb.out nb.out (by rw [Hl.out]; omega) (who_hs 1) (by rw [nl.out]; omega) (by omega) (by omega)).mono ?_
          rintro ee w12 ⟨v12, rfl, nT, d12⟩
          obtain ⟨aT, lT, kT, rfl⟩ := slice_any nT.nums
          rw [hT1'.out] at nT
          go_wp2_with fail
          exact ⟨_, rfl, d12, nT.mono (Nat.le_trans hlt1.out hb9.size)⟩
        · cases hoi
      · intro x w9 hb9 hd
        have h4 : FarAt w9 (b9 + 1) (x 4) T1 := hd 4 (by decide)
        simp only [fill, Act.put, List.setIfInBounds_toArray, List.set_cons_succ, List.set_cons_zero]
        have TT2 := Lib.hid h4
        clear hd
        have R2 := Lib.hid (R1.out.below hb9)
        have S2 := Lib.hid (below_cell hb9 S1.out)
        have cf2 := Lib.hid (cf1.out.below hb9)
        clear R1 S1 cf1 hb9
        obtain ⟨⟨ta, tp, tn, tc, et, _⟩, _⟩ := TT2.out
        rw [et] at TT2
        simp only [et]
        clear et h4 hlt1
        generalize w9 = w12 at R2 S2 cf2 TT2 ⊢
        go_wp2_with fail
        refine (rpacket_any _ T1 w12 TT2.out.nums T1b.out (by rw [T1l.out]; omega)).mono ?_
        rintro ee w13 ⟨rfl, d13⟩
        rw [hP1'.out]
        have R3 := Lib.hid (R2.out.below d13)
        have S3 := Lib.hid (below_cell d13 S2.out)
        have cf3 := Lib.hid (cf2.out.below d13)
        have TT3 := Lib.hid (TT2.out.below d13)
        clear R2 S2 cf2 TT2 d13
        have S4 := Lib.hid (set_w1 S3.out P0l.out P1 (by rw [P1l.out, zl.out]))
        have R4 := Lib.hid (R3.out.cells hlw.out hl6.out hl7.out hl8.out 44 (P1.map (Value.int .u8)))
        have cf4 := Lib.hid (cf3.out.cells (Nat.lt_succ_self b9) 44 (P1.map (Value.int .u8)))
        have TT4 := Lib.hid (TT3.out.cells (Nat.lt_succ_self b9) 44 (P1.map (Value.int .u8)))
        have th : Hid (w13.there b9 44 (bys P1).size) := by show World.there _ _ _ _; rw [bys_size, P1l.out]; exact S3.out.there 44 44 (by rw [set_size P0l.out zl.out Q0l.out zl.out]; omega)
        have z5 : Hid ((Tryd.prog.info? 61).map (·.size) = some (bys P1).size) := by show _ = _; rw [bys_size, P1l.out]; exact sz61
        obtain ⟨w14, hw⟩ : ∃ x, x = w13.setCells b9 44 (P1.map (Value.int .u8)) := ⟨_, rfl⟩
        rw [← hw] at R4 S4 cf4 TT4
        replace hw := Lib.hid hw
        clear R3 S3 cf3 TT3
        go_wp2_with (refine wpList_store_mid rfl 61 _ _ rfl b9 44 (bys P1) rfl rfl th.out z5.out (bys_one _) ?_; change wpList _ _ _ _ _ (w13.setCells b9 44 (P1.map (Value.int .u8))); rw [← hw.out])
        clear th z5 hw
        refine (rlabO_any _ _ T1 [] finS 32 _ w14 rfl TT4.out.nums (nums_nil _ _) T1b.out byt_nil (by rw [T1l.out]; omega) (by decide) (by simp) (by omega) (by omega)).mono ?_
        rintro ee w15 ⟨v15, rfl, nF, d15⟩
        rw [hF1'.out] at nF
        replace nF := nF.mono (show b9 + 1 ≤ w14.heap.size from S4.out.lt)
        obtain ⟨aF, pF, lF, kF, rfl⟩ := nF.form
        have FF5 := Lib.hid nF
        clear nF TT4
        have R5 := Lib.hid (R4.out.below d15)
        have S5 := Lib.hid (below_cell d15 S4.out)
        have cf5 := Lib.hid (cf4.out.below d15)
        clear R4 S4 cf4 d15
        have cc : w15.cell? ⟨b9, 177, none⟩ = some (.slice none 0 0) := (S5.out.cell 177).trans (set_at1 P0l.out P1l.out Q0l.out zl.out)
        have ff := S5.out.fr 177
        have S6 := Lib.hid (set_c1 S5.out P0l.out P1l.out Q0l.out zl.out (.slice (some ⟨aF, pF, none⟩) lF kF))
        have FF6 := Lib.hid (FF5.out.cell (Nat.lt_succ_self b9) 177 (.slice (some ⟨aF, pF, none⟩) lF kF))
        have R6 := Lib.hid (R5.out.cell hlw.out hl6.out hl7.out hl8.out 177 (.slice (some ⟨aF, pF, none⟩) lF kF))
        have cf6 := Lib.hid (cf5.out.cell (Nat.lt_succ_self b9) 177 (.slice (some ⟨aF, pF, none⟩) lF kF))
        clear FF5 R5 S5 cf5
        go_wp2_with fail
        clear cc ff
        generalize w15.setCell ⟨b9, 177, none⟩ (.slice (some ⟨aF, pF, none⟩) lF kF) = w16 at FF6 R6 S6 cf6 ⊢
        refine region_rel_lit (.step (.step (.step (.step (.step (.step (.step (.step (.step (.base _)))))))))) (fun i W v => match i with
          | 0 => v = .int .i64 1
          | 1 => v = (.slice (some ⟨b8, 0, none⟩) 32 32)
          | 2 => v = .string (whoS 1)
          | 3 => v = .string (whoS 1 ++ apS)
          | 4 => v = (.slice (some ⟨b6, 0, none⟩) 32 32)
          | 5 => ∃ a n k, v = Value.slice a n k ∧ NumsAt .u8 W v D1
          | 6 => v = .agg (bys Q1)
          | 7 => v = .pointer (some ⟨b9, 88, none⟩)
          | _ => v = .pointer (some ⟨b9, 132, none⟩)) mixed (by kernel_rfl) (by kernel_rfl) ?_ ?_ ?_
        · rintro (_ | _ | _ | _ | _ | _ | _ | _ | i) W W' v h hb
          all_goals first | exact h | exact PartsAt.below h hb | exact NumsAt.below h hb | exact sl_below h hb | exact SlAt.below h hb | exact FarAt.below h hb | exact PtrAt.below h hb | exact blk_spec h hb | exact spec_below h hb
        · intro i oi hoi x w9 hb9 hd
          rcases i with _ | _ | _ | _ | _ | _ | _ | _ | _ | i
          · obtain rfl := Option.some.inj hoi
            simp only [fill, Act.put, List.setIfInBounds_toArray, List.set_cons_succ, List.set_cons_zero]
            go_wp2_with fail
            exact ⟨_, rfl, Below.refl _ _, rfl⟩
          · obtain rfl := Option.some.inj hoi
            simp only [fill, Act.put, List.setIfInBounds_toArray, List.set_cons_succ, List.set_cons_zero]
            go_wp2_with fail
            exact ⟨_, rfl, Below.refl _ _, rfl⟩
          · obtain rfl := Option.some.inj hoi
            simp only [fill, Act.put, List.setIfInBounds_toArray, List.set_cons_succ, List.set_cons_zero]
            go_wp2_with fail
            exact ⟨_, rfl, Below.refl _ _, rfl⟩
          · obtain rfl := Option.some.inj hoi
            have h2 : (x 2) = .string (whoS 1) := hd 2 (by kernel_rfl)
            simp only [fill, Act.put, List.setIfInBounds_toArray, List.set_cons_succ, List.set_cons_zero, h2]
            go_wp2_with fail
            exact ⟨_, rfl, Below.refl _ _, rfl⟩
          · obtain rfl := Option.some.inj hoi
            simp only [fill, Act.put, List.setIfInBounds_toArray, List.set_cons_succ, List.set_cons_zero]
            go_wp2_with fail
            exact ⟨_, rfl, Below.refl _ _, rfl⟩
          · obtain rfl := Option.some.inj hoi
            have h1 : (x 1) = (.slice (some ⟨b8, 0, none⟩) 32 32) := hd 1 (by kernel_rfl)
            have h3 : (x 3) = .string (whoS 1 ++ apS) := hd 3 (by kernel_rfl)
            have h4 : (x 4) = (.slice (some ⟨b6, 0, none⟩) 32 32) := hd 4 (by kernel_rfl)
            simp only [fill, Act.put, List.setIfInBounds_toArray, List.set_cons_succ, List.set_cons_zero, h1, h3, h4]
            go_wp2_with fail
            refine (rlab_any _ _ M n (whoS 1 ++ apS) 32 _ w9 rfl (((R6.out.below hb9).2.2.2.2).nums 32 Ml.out (by omega)) (((R6.out.below hb9).2.2.1).nums 32 nl.out (by omega)) Mb.out nb.out (by rw [Ml.out]; omega) (who_ap 1)).mono ?_
            rintro ee w17 ⟨v17, rfl, nD, d17⟩
            obtain ⟨aD, lD, kD, rfl⟩ := slice_any nD
            rw [hD1'.out] at nD
            go_wp2_with fail
            exact ⟨_, rfl, d17, _, _, _, rfl, nD⟩
          · obtain rfl := Option.some.inj hoi
            have h5 : ∃ a n k, (x 5) = Value.slice a n k ∧ NumsAt .u8 w9 (x 5) D1 := hd 5 (by kernel_rfl)
            simp only [fill, Act.put, List.setIfInBounds_toArray, List.set_cons_succ, List.set_cons_zero]
            obtain ⟨a7, l7, k7, e7, hn7⟩ := h5
            rw [e7] at hn7
            simp only [e7]
            go_wp2_with fail
            refine (rpacket_any _ D1 w9 hn7 D1b.out (by rw [D1l.out]; omega)).mono ?_
            rintro ee w17 ⟨rfl, d17⟩
            go_wp2_with fail
            exact ⟨_, rfl, d17, by rw [hQ1'.out]⟩
          · obtain rfl := Option.some.inj hoi
            simp only [fill, Act.put, List.setIfInBounds_toArray, List.set_cons_succ, List.set_cons_zero]
            go_wp2_with fail
            exact ⟨_, rfl, Below.refl _ _, rfl⟩
          · obtain rfl := Option.some.inj hoi
            have h0 : (x 0) = .int .i64 1 := hd 0 (by kernel_rfl)
            have h7 : (x 7) = .pointer (some ⟨b9, 88, none⟩) := hd 7 (by kernel_rfl)
            simp only [fill, Act.put, List.setIfInBounds_toArray, List.set_cons_succ, List.set_cons_zero, h0, h7]
            go_wp2_with fail
            exact ⟨_, rfl, Below.refl _ _, rfl⟩
          · cases hoi
        · intro x w9 hb9 hd
          have h6 : (x 6) = .agg (bys Q1) := hd 6 (by decide)
          have h8 : (x 8) = .pointer (some ⟨b9, 132, none⟩) := hd 8 (by decide)
          simp only [fill, Act.put, List.setIfInBounds_toArray, List.set_cons_succ, List.set_cons_zero, h6, h8]
          clear hd
          have R7 := Lib.hid (R6.out.below hb9)
          have S7 := Lib.hid (below_cell hb9 S6.out)
          have cf7 := Lib.hid (cf6.out.below hb9)
          have FF7 := Lib.hid (FF6.out.below hb9)
          clear R6 S6 cf6 FF6 hb9
          generalize w9 = w17 at FF7 R7 S7 cf7 ⊢
          have S8 := Lib.hid (set_w3 S7.out P0l.out P1l.out Q0l.out Q1 (by rw [Q1l.out, zl.out]))
          have R8 := Lib.hid (R7.out.cells hlw.out hl6.out hl7.out hl8.out 132 (Q1.map (Value.int .u8)))
          have cf8 := Lib.hid (cf7.out.cells (Nat.lt_succ_self b9) 132 (Q1.map (Value.int .u8)))
          have FF8 := Lib.hid (FF7.out.cells (Nat.lt_succ_self b9) 132 (Q1.map (Value.int .u8)))
          have th : Hid (w17.there b9 132 (bys Q1).size) := by show World.there _ _ _ _; rw [bys_size, Q1l.out]; exact S7.out.there 132 44 (by rw [set_size P0l.out P1l.out Q0l.out zl.out]; omega)
          have z5 : Hid ((Tryd.prog.info? 61).map (·.size) = some (bys Q1).size) := by show _ = _; rw [bys_size, Q1l.out]; exact sz61
          obtain ⟨w18, hw⟩ : ∃ x, x = w17.setCells b9 132 (Q1.map (Value.int .u8)) := ⟨_, rfl⟩
          rw [← hw] at R8 S8 cf8 FF8
          replace hw := Lib.hid hw
          clear R7 S7 cf7 FF7
          go_wp2_with (refine wpList_store_mid rfl 61 _ _ rfl b9 132 (bys Q1) rfl rfl th.out z5.out (bys_one _) ?_; change wpList _ _ _ _ _ (w17.setCells b9 132 (Q1.map (Value.int .u8))); rw [← hw.out])
          clear th z5 hw
          go_roundw
          case rel => exact .inr (.inr ⟨rfl, _, _, _, _, _, _, _, _, R8.out, cf8.out, FF8.out, S8.out⟩)
          case measure => simp [intOf]
    · obtain ⟨R0, cf0, cg0, S0⟩ := hI.out
      clear hI
      have lw := Lib.hid R0.2.1
      have zs : Hid ((Tryd.prog.info? 64).map (·.size) = some (setV P0 P1 Q0 Q1 (.slice (some ⟨fa, fp, none⟩) fn fc) (.slice (some ⟨ga, gp, none⟩) gn gc)).size) := by show _ = _; rw [set_size P0l.out P1l.out Q0l.out Q1l.out]; exact sz64
      have hos : Hid ((setV (zb 44) (zb 44) (zb 44) (zb 44) (.slice none 0 0) (.slice none 0 0)).size = (setV P0 P1 Q0 Q1 (.slice (some ⟨fa, fp, none⟩) fn fc) (.slice (some ⟨ga, gp, none⟩) gn gc)).size) := by show _ = _; rw [set_size P0l.out P1l.out Q0l.out Q1l.out, set_size zl.out zl.out zl.out zl.out]
      have ld := Lib.hid (whole_load S0 Tryd.underlying64 rfl zs.out)
      have lx := Lib.hid (lw.out.setRow (setV P0 P1 Q0 Q1 (.slice (some ⟨fa, fp, none⟩) fn fc) (.slice (some ⟨ga, gp, none⟩) gn gc)))
      have bx := Lib.hid (below_setRow R0.1 (Nat.le_refl _) (setV P0 P1 Q0 Q1 (.slice (some ⟨fa, fp, none⟩) fn fc) (.slice (some ⟨ga, gp, none⟩) gn gc)))
      have fx := Lib.hid ((cf0.keep (w' := wr.setRow w.heap.size (setV P0 P1 Q0 Q1 (.slice (some ⟨fa, fp, none⟩) fn fc) (.slice (some ⟨ga, gp, none⟩) gn gc))) (fun k hk => setRow_other wr w.heap.size k _ (by have := hlw.out; omega))).mono (show w.heap.size ≤ b9 + 1 by have := hlw.out; omega))
      have gx := Lib.hid ((cg0.keep (w' := wr.setRow w.heap.size (setV P0 P1 Q0 Q1 (.slice (some ⟨fa, fp, none⟩) fn fc) (.slice (some ⟨ga, gp, none⟩) gn gc))) (fun k hk => setRow_other wr w.heap.size k _ (by have := hlw.out; omega))).mono (show w.heap.size ≤ b9 + 1 by have := hlw.out; omega))
      have one : (setV P0 P1 Q0 Q1 (.slice (some ⟨fa, fp, none⟩) fn fc) (.slice (some ⟨ga, gp, none⟩) gn gc)).all (·.oneCell') = true := set_one
      replace one := Lib.hid one
      clear R0 cf0 cg0 S0
      go_wp2_with (first | refine wpList_load_is rfl 64 _ rfl rfl ld.out ?_ | refine wpList_store_row rfl 64 _ _ rfl _ _ rfl rfl 64 _ lw.out zs.out hos.out one.out ?_)
      replace lx := lx.out
      replace bx := bx.out
      replace fx := fx.out
      replace gx := gx.out
      generalize wr.setRow w.heap.size (setV P0 P1 Q0 Q1 (.slice (some ⟨fa, fp, none⟩) fn fc) (.slice (some ⟨ga, gp, none⟩) gn gc)) = w10 at lx bx fx gx ⊢
      exact bodyPost_ret (results_cell_row rfl _ _ _ 64 _ _ _ rfl lx Tryd.underlying64 rfl zs.out) rfl ⟨_, _, rfl, fx, gx, bx⟩
end Go.Proofs.YtikmfaeiecpncaaDoor
