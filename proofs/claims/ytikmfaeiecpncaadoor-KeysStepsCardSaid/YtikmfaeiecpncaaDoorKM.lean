/- What every program answers that is one (chapter 18). -/
import Derived.Test.YtikmfaeiecpncaaDoorKN
namespace Go.Proofs.YtikmfaeiecpncaaDoor
open Go.RowKit

theorem CutAt.form {w : World} {B : Nat} {v : Value} {xs : List Int} (h : CutAt w B v xs) (n : Nat) (hn : xs.length = n) : ∃ g, v = .slice (some ⟨g, 0, none⟩) n n := by
  obtain ⟨g, cur, e, _⟩ := h
  exact ⟨g, by rw [e, hn]⟩
set_option maxHeartbeats 3200000 in
set_option maxRecDepth 100000 in
theorem awake18_any (w : World) (hg : Gl w) : Calls Tryd.prog 36 #[] w fun e w' => e = .returned (.bool true) ∧ Below w.heap.size w w' := by
  have hzz := fun w => zero_of zero59 w
  have hzz2 := fun w => zero_of zero56 w
  have kc := conv_lit
  obtain ⟨P0, hP0⟩ := name_it (helloL [107] [104] 0)
  obtain ⟨P1, hP1⟩ := name_it (helloL [107] [104] 1)
  obtain ⟨D0, hD0⟩ := name_it (dataL [107] [104] 0)
  obtain ⟨D1, hD1⟩ := name_it (dataL [107] [104] 1)
  obtain ⟨A, hA⟩ := name_it (packetL (lab (mac [100] [107]) ⟨#[99, 108, 105, 101, 110, 116, 32, 105, 110]⟩ [] 32))
  obtain ⟨B, hB⟩ := name_it (packetL (lab (mac [100] [107]) ⟨#[115, 101, 114, 118, 101, 114, 32, 105, 110]⟩ [] 32))
  obtain ⟨fl, hfl⟩ := name_it (firstL [107] [100])
  have hfl' : Hid (fl = A ++ B) := by show _ = _; rw [hfl.out, hA.out, hB.out]; rfl
  obtain ⟨r3, hr3⟩ := name_it (resetL [97] [])
  have l0 : Hid (P0.length = 44) := by show _ = _; rw [hP0.out]; exact packetL_len _
  have l1 : Hid (P1.length = 44) := by show _ = _; rw [hP1.out]; exact packetL_len _
  have l2 : Hid (D0.length = 44) := by show _ = _; rw [hD0.out]; exact packetL_len _
  have l3 : Hid (D1.length = 44) := by show _ = _; rw [hD1.out]; exact packetL_len _
  have lA : Hid (A.length = 44) := by show _ = _; rw [hA.out]; exact packetL_len _
  have lB : Hid (B.length = 44) := by show _ = _; rw [hB.out]; exact packetL_len _
  have lfl : Hid (fl.length = 88) := by show _ = _; rw [hfl.out]; exact firstL_len _ _
  have lr : Hid (r3.length = 16) := by show _ = _; rw [hr3.out]; exact resetL_len _ _
  have hDD : Hid ((D0 == D1) = false) := by show _ = _; rw [hD0.out, hD1.out]; exact aw_data
  have hAB : Hid ((A == B) = false) := by show _ = _; rw [hA.out, hB.out]; exact aw_first
  have hr0 : Hid ((r3 == zb 16) = false) := by show _ = _; rw [hr3.out]; exact aw_reset
  have zl := zb_len 44
  replace zl := Lib.hid zl
  have n1 := (nums_lit w 5 (1, 2) [107] 1 rfl (by omega)).alloc (.cells (bys [104]) 5 (1, 2))
  have n2 := nums_lit (w.alloc (.cells (bys [107]) 5 (1, 2))) 5 (1, 2) [104] 1 rfl (by omega)
  have b1 := ((Below.refl w.heap.size w).alloc (Nat.le_refl _) (.cells (bys [107]) 5 (1, 2))).alloc (by simp) (.cells (bys [104]) 5 (1, 2))
  rw [show (w.alloc (.cells (bys [107]) 5 (1, 2))).heap.size = w.heap.size + 1 by simp] at n2
  obtain ⟨w1, hw1⟩ : ∃ x, x = (w.alloc (.cells (bys [107]) 5 (1, 2))).alloc (.cells (bys [104]) 5 (1, 2)) := ⟨_, rfl⟩
  rw [← hw1] at n1 n2 b1
  have g1' := Lib.hid (hg.below b1 hg.lt)
  replace n1 := Lib.hid n1
  replace n2 := Lib.hid n2
  replace b1 := Lib.hid b1
  replace hw1 := Lib.hid hw1
  clear hg
  go_enter Tryd.func36, Tryd.ntmps36
  go_wp2_with fail
  change Calls _ _ _ ((w.alloc (.cells (bys [107]) 5 (1, 2))).alloc (.cells (bys [104]) 5 (1, 2))) _
  rw [← hw1.out]
  refine (all_any _ _ [107] [104] w1 g1'.out n1.out n2.out (byt_of (by simp)) (byt_of (by simp)) (by simp) (by simp)).mono ?_
  rintro ee w2 ⟨f0, f1, rfl, c0, c1, d2⟩
  rw [← hP0.out, ← hP1.out, ← hD0.out, ← hD1.out]
  obtain ⟨g0, rfl⟩ := c0.form 32 (finL_len _ _ _)
  obtain ⟨g1, rfl⟩ := c1.form 32 (finL_len _ _ _)
  have b2 := Lib.hid (below_all b1.out d2)
  have g2 := Lib.hid (g1'.out.below d2 g1'.out.lt)
  clear c0 c1 d2 b1 g1' n1 n2 hw1
  have zs : Hid ((Tryd.prog.info? 59).map (·.size) = some (setV P0 P1 D0 D1 (.slice (some ⟨g0, 0, none⟩) 32 32) (.slice (some ⟨g1, 0, none⟩) 32 32)).size) := by show _ = _; rw [set_size l0.out l1.out l2.out l3.out]; exact sz59
  have hos : Hid ((setV (zb 44) (zb 44) (zb 44) (zb 44) (.slice none 0 0) (.slice none 0 0)).size = (setV P0 P1 D0 D1 (.slice (some ⟨g0, 0, none⟩) 32 32) (.slice (some ⟨g1, 0, none⟩) 32 32)).size) := by show _ = _; rw [set_size l0.out l1.out l2.out l3.out, set_size zl.out zl.out zl.out zl.out]
  have one : (setV P0 P1 D0 D1 (.slice (some ⟨g0, 0, none⟩) 32 32) (.slice (some ⟨g1, 0, none⟩) 32 32)).all (·.oneCell') = true := set_one
  replace one := Lib.hid one
  have s3 := Lib.hid ((Blk.new w2 59 (setV (zb 44) (zb 44) (zb 44) (zb 44) (.slice none 0 0) (.slice none 0 0))).setRow (setV P0 P1 D0 D1 (.slice (some ⟨g0, 0, none⟩) 32 32) (.slice (some ⟨g1, 0, none⟩) 32 32)))
  have d3 := below_setRow (g := w2.heap.size) ((Below.refl w2.heap.size w2).alloc (Nat.le_refl _) (.cells (setV (zb 44) (zb 44) (zb 44) (zb 44) (.slice none 0 0) (.slice none 0 0)) 59)) (Nat.le_refl _) (setV P0 P1 D0 D1 (.slice (some ⟨g0, 0, none⟩) 32 32) (.slice (some ⟨g1, 0, none⟩) 32 32))
  obtain ⟨w3, hw3⟩ : ∃ x, x = (w2.alloc (.cells (setV (zb 44) (zb 44) (zb 44) (zb 44) (.slice none 0 0) (.slice none 0 0)) 59)).setRow w2.heap.size (setV P0 P1 D0 D1 (.slice (some ⟨g0, 0, none⟩) 32 32) (.slice (some ⟨g1, 0, none⟩) 32 32)) := ⟨_, rfl⟩
  rw [← hw3] at s3 d3
  have b3 := Lib.hid (below_all b2.out d3)
  have g3 := Lib.hid (g2.out.below d3 g2.out.lt)
  have l59 := Lib.hid (Blk.new w2 59 (setV (zb 44) (zb 44) (zb 44) (zb 44) (.slice none 0 0) (.slice none 0 0)))
  have n3 := (nums_lit w3 5 (1, 2) [107] 1 rfl (by omega)).alloc (.cells (bys [100]) 5 (1, 2))
  have n4 := nums_lit (w3.alloc (.cells (bys [107]) 5 (1, 2))) 5 (1, 2) [100] 1 rfl (by omega)
  have d4 := ((Below.refl w3.heap.size w3).alloc (Nat.le_refl _) (.cells (bys [107]) 5 (1, 2))).alloc (by simp) (.cells (bys [100]) 5 (1, 2))
  rw [show (w3.alloc (.cells (bys [107]) 5 (1, 2))).heap.size = w3.heap.size + 1 by simp] at n4
  obtain ⟨w4, hw4⟩ : ∃ x, x = (w3.alloc (.cells (bys [107]) 5 (1, 2))).alloc (.cells (bys [100]) 5 (1, 2)) := ⟨_, rfl⟩
  rw [← hw4] at n3 n4 d4
  have b4 := Lib.hid (below_all b3.out d4)
  have g4 := Lib.hid (g3.out.below d4 g3.out.lt)
  have s4 := Lib.hid (below_cell d4 s3.out)
  replace hw3 := Lib.hid hw3
  replace hw4 := Lib.hid hw4
  replace n3 := Lib.hid n3
  replace n4 := Lib.hid n4
  clear d3 d4 b2 b3 g2 g3 s3
  go_wp2_with (refine wpList_store_row rfl 59 _ _ rfl _ _ rfl rfl 59 _ l59.out zs.out hos.out one.out ?_; change wpList _ _ _ _ _ ((w2.alloc (.cells (setV (zb 44) (zb 44) (zb 44) (zb 44) (.slice none 0 0) (.slice none 0 0)) 59)).setRow w2.heap.size (setV P0 P1 D0 D1 (.slice (some ⟨g0, 0, none⟩) 32 32) (.slice (some ⟨g1, 0, none⟩) 32 32))); rw [← hw3.out])
  change Calls _ _ _ ((w3.alloc (.cells (bys [107]) 5 (1, 2))).alloc (.cells (bys [100]) 5 (1, 2))) _
  rw [← hw4.out]
  refine (first_any _ _ [107] [100] w4 g4.out n3.out n4.out (byt_of (by simp)) (byt_of (by simp)) (by simp) (by simp)).mono ?_
  rintro ee w5 ⟨rfl, d5⟩
  rw [← hfl.out]
  have b5 := Lib.hid (below_all b4.out d5)
  have g5 := Lib.hid (g4.out.below d5 g4.out.lt)
  have s5 := Lib.hid (below_cell d5 s4.out)
  obtain ⟨b59, hb59⟩ : ∃ b, b = w2.heap.size := ⟨_, rfl⟩
  rw [← hb59] at s5 ⊢
  clear b4 g4 s4 d5 hw3 hw4 n3 n4 l59 zs hos one hb59
  have z8 : Hid ((Tryd.prog.info? 56).map (·.size) = some (bys fl).size) := by show _ = _; rw [bys_size, lfl.out]; exact sz56
  have ho8 : Hid ((bys (zb 88)).size = (bys fl).size) := by show _ = _; rw [bys_size, bys_size, lfl.out]; rfl
  have l56 := Lib.hid (Blk.new w5 56 (bys (zb 88)))
  have p6 := Lib.hid ((Blk.new w5 56 (bys (zb 88))).setRow (bys fl))
  have d6 := below_setRow (g := w5.heap.size) ((Below.refl w5.heap.size w5).alloc (Nat.le_refl _) (.cells (bys (zb 88)) 56)) (Nat.le_refl _) (bys fl)
  obtain ⟨w6, hw6⟩ : ∃ x, x = (w5.alloc (.cells (bys (zb 88)) 56)).setRow w5.heap.size (bys fl) := ⟨_, rfl⟩
  rw [← hw6] at p6 d6
  have b6 := Lib.hid (below_all b5.out d6)
  have g6 := Lib.hid (g5.out.below d6 g5.out.lt)
  have s6 := Lib.hid (below_cell d6 s5.out)
  replace hw6 := Lib.hid hw6
  clear d6 b5 g5 s5
  go_wp2_with (refine wpList_store_row rfl 56 _ _ rfl _ _ rfl rfl 56 _ l56.out z8.out ho8.out (bys_one _) ?_; change wpList _ _ _ _ _ ((w5.alloc (.cells (bys (zb 88)) 56)).setRow w5.heap.size (bys fl)); rw [← hw6.out])
  obtain ⟨b56, hb56⟩ : ∃ b, b = w5.heap.size := ⟨_, rfl⟩
  rw [← hb56] at p6 ⊢
  clear hb56 hw6 l56 z8 ho8 hzz hzz2 kc
  have u1 := guard55
  have u2 := guard52
  refine region_relS_lit (.step (.step (.step (.step (.step (.step (.step (.step (.step (.step (.step (.step (.step (.step (.step (.step (.step (.step (.step (.step (.step (.step (.step (.step (.step (.step (.step (.step (.step (.step (.step (.step (.step (.step (.step (.step (.step (.step (.step (.step (.step (.base _)))))))))))))))))))))))))))))))))))))))))) (fun i W v => match i with
    | 0 => v = .pointer (some ⟨b59, 176, none⟩)
    | 1 => v = .pointer (some ⟨b59, 176, none⟩)
    | 2 => v = .slice (some ⟨g0, 0, none⟩) 32 32
    | 3 => v = .int .i64 32
    | 4 => v = .bool true
    | 5 => v = .bool true
    | 6 => v = .pointer (some ⟨b59, 88, none⟩)
    | 7 => v = .pointer (some ⟨b59, 88, none⟩)
    | 8 => v = .agg (bys D0)
    | 9 => v = .pointer (some ⟨b59, 88, none⟩)
    | 10 => v = .pointer (some ⟨b59, 132, none⟩)
    | 11 => v = .agg (bys D1)
    | 12 => v = .bool true
    | 13 => v = .bool true
    | 14 => v = .bool true
    | 15 => v = .pointer (some ⟨b56, 0, none⟩)
    | 16 => v = .agg (bys A)
    | 17 => v = .pointer (some ⟨b56, 44, none⟩)
    | 18 => v = .agg (bys B)
    | 19 => v = .bool true
    | 20 => v = .bool true
    | 21 => v = .bool true
    | 22 => RowAt w6.heap.size W v [97]
    | 23 => RowAt w6.heap.size W v [97]
    | 24 => v = .agg (bys r3)
    | 25 => v = .agg (bys (zb 16))
    | 26 => v = .bool true
    | 27 => v = .bool true
    | 28 => v = .bool true
    | 29 => v = .pointer (some ⟨b59, 88, none⟩)
    | 30 => v = .pointer (some ⟨b59, 88, none⟩)
    | 31 => v = .agg (bys D0)
    | 32 => RowAt w6.heap.size W v [107]
    | 33 => RowAt w6.heap.size W v [107]
    | 34 => RowAt w6.heap.size W v [104]
    | 35 => RowAt w6.heap.size W v [104]
    | 36 => ∃ f0 f1, v = .agg (setV P0 P1 D0 D1 f0 f1)
    | 37 => v = .agg (bys (D0 ++ D1))
    | 38 => v = .agg (bys D0)
    | 39 => v = .bool true
    | _ => v = .bool true) mixed (by kernel_rfl) (by kernel_rfl) ?_ ?_ ?_
  · rintro (_ | _ | _ | _ | _ | _ | _ | _ | _ | _ | _ | _ | _ | _ | _ | _ | _ | _ | _ | _ | _ | _ | _ | _ | _ | _ | _ | _ | _ | _ | _ | _ | _ | _ | _ | _ | _ | _ | _ | _ | i) W W' v h hb
    all_goals first | exact h | exact NumsAt.soft h hb | exact sl_soft h hb | exact RowAt.soft h hb | exact spec_soft h hb
  · intro i oi hoi x w9 hb9 hd
    rcases i with _ | _ | _ | _ | _ | _ | _ | _ | _ | _ | _ | _ | _ | _ | _ | _ | _ | _ | _ | _ | _ | _ | _ | _ | _ | _ | _ | _ | _ | _ | _ | _ | _ | _ | _ | _ | _ | _ | _ | _ | _ | i
    · obtain rfl := Option.some.inj hoi
      simp only [fill, Act.put, List.setIfInBounds_toArray, List.set_cons_succ, List.set_cons_zero]
      go_wp2_with fail
      exact ⟨_, rfl, soft_of hb9.size (Below.refl _ _), rfl⟩
    · obtain rfl := Option.some.inj hoi
      have h0 : (x 0) = .pointer (some ⟨b59, 176, none⟩) := hd 0 (by kernel_rfl)
      simp only [fill, Act.put, List.setIfInBounds_toArray, List.set_cons_succ, List.set_cons_zero, h0]
      go_wp2_with fail
      exact ⟨_, rfl, soft_of hb9.size (Below.refl _ _), rfl⟩
    · obtain rfl := Option.some.inj hoi
      have h1 : (x 1) = .pointer (some ⟨b59, 176, none⟩) := hd 1 (by kernel_rfl)
      simp only [fill, Act.put, List.setIfInBounds_toArray, List.set_cons_succ, List.set_cons_zero, h1]
      have cc : w9.cell? ⟨b59, 176, none⟩ = some (.slice (some ⟨g0, 0, none⟩) 32 32) := ((below_cell hb9 s6.out).cell 176).trans (set_at0 l0.out l1.out l2.out l3.out)
      go_wp2_with fail
      exact ⟨_, rfl, soft_of hb9.size (Below.refl _ _), rfl⟩
    · obtain rfl := Option.some.inj hoi
      have h2 : (x 2) = .slice (some ⟨g0, 0, none⟩) 32 32 := hd 2 (by kernel_rfl)
      simp only [fill, Act.put, List.setIfInBounds_toArray, List.set_cons_succ, List.set_cons_zero, h2]
      go_wp2_with fail
      exact ⟨_, rfl, soft_of hb9.size (Below.refl _ _), rfl⟩
    · obtain rfl := Option.some.inj hoi
      have h3 : (x 3) = .int .i64 32 := hd 3 (by kernel_rfl)
      simp only [fill, Act.put, List.setIfInBounds_toArray, List.set_cons_succ, List.set_cons_zero, h3]
      go_wp2_with fail
      exact ⟨_, rfl, soft_of hb9.size (Below.refl _ _), rfl⟩
    · obtain rfl := Option.some.inj hoi
      have h4 : (x 4) = .bool true := hd 4 (by kernel_rfl)
      simp only [fill, Act.put, List.setIfInBounds_toArray, List.set_cons_succ, List.set_cons_zero, h4]
      go_wp2_with fail
      exact ⟨_, rfl, soft_of hb9.size (Below.refl _ _), rfl⟩
    · obtain rfl := Option.some.inj hoi
      have h5 : (x 5) = .bool true := hd 5 (by kernel_rfl)
      simp only [fill, Act.put, List.setIfInBounds_toArray, List.set_cons_succ, List.set_cons_zero, h5]
      go_wp2_with fail
      exact ⟨_, rfl, soft_of hb9.size (Below.refl _ _), rfl⟩
    · obtain rfl := Option.some.inj hoi
      have h5 : (x 5) = .bool true := hd 5 (by kernel_rfl)
      have h6 : (x 6) = .pointer (some ⟨b59, 88, none⟩) := hd 6 (by kernel_rfl)
      simp only [fill, Act.put, List.setIfInBounds_toArray, List.set_cons_succ, List.set_cons_zero, h5, h6]
      go_wp2_with fail
      exact ⟨_, rfl, soft_of hb9.size (Below.refl _ _), rfl⟩
    · obtain rfl := Option.some.inj hoi
      have h5 : (x 5) = .bool true := hd 5 (by kernel_rfl)
      have h7 : (x 7) = .pointer (some ⟨b59, 88, none⟩) := hd 7 (by kernel_rfl)
      simp only [fill, Act.put, List.setIfInBounds_toArray, List.set_cons_succ, List.set_cons_zero, h5, h7]
      have e1 := Lib.hid (mid_load D0 (set_p2 (below_cell hb9 s6.out) l0.out l1.out) Tryd.underlying55 rfl (by rw [l2.out]; exact sz55))
      go_wp2_with (refine wpList_load_isG (by kernel_rfl) 55 _ rfl rfl e1.out ?_)
      exact ⟨_, rfl, soft_of hb9.size (Below.refl _ _), rfl⟩
    · obtain rfl := Option.some.inj hoi
      have h5 : (x 5) = .bool true := hd 5 (by kernel_rfl)
      simp only [fill, Act.put, List.setIfInBounds_toArray, List.set_cons_succ, List.set_cons_zero, h5]
      go_wp2_with fail
      exact ⟨_, rfl, soft_of hb9.size (Below.refl _ _), rfl⟩
    · obtain rfl := Option.some.inj hoi
      have h5 : (x 5) = .bool true := hd 5 (by kernel_rfl)
      have h9 : (x 9) = .pointer (some ⟨b59, 88, none⟩) := hd 9 (by kernel_rfl)
      simp only [fill, Act.put, List.setIfInBounds_toArray, List.set_cons_succ, List.set_cons_zero, h5, h9]
      go_wp2_with fail
      exact ⟨_, rfl, soft_of hb9.size (Below.refl _ _), rfl⟩
    · obtain rfl := Option.some.inj hoi
      have h5 : (x 5) = .bool true := hd 5 (by kernel_rfl)
      have h10 : (x 10) = .pointer (some ⟨b59, 132, none⟩) := hd 10 (by kernel_rfl)
      simp only [fill, Act.put, List.setIfInBounds_toArray, List.set_cons_succ, List.set_cons_zero, h5, h10]
      have e1 := Lib.hid (mid_load D1 (set_p3 (below_cell hb9 s6.out) l0.out l1.out l2.out) Tryd.underlying55 rfl (by rw [l3.out]; exact sz55))
      go_wp2_with (refine wpList_load_isG (by kernel_rfl) 55 _ rfl rfl e1.out ?_)
      exact ⟨_, rfl, soft_of hb9.size (Below.refl _ _), rfl⟩
    · obtain rfl := Option.some.inj hoi
      have h5 : (x 5) = .bool true := hd 5 (by kernel_rfl)
      have h8 : (x 8) = .agg (bys D0) := hd 8 (by kernel_rfl)
      have h11 : (x 11) = .agg (bys D1) := hd 11 (by kernel_rfl)
      simp only [fill, Act.put, List.setIfInBounds_toArray, List.set_cons_succ, List.set_cons_zero, h5, h8, h11]
      have e1 := neq55 D0 D1 l2.out l3.out w9
      rw [hDD.out] at e1
      replace e1 := Lib.hid e1
      go_wp2_with (refine wpList_binG (by kernel_rfl) .neq 55 _ _ _ rfl rfl rfl (run_eqGuard_agg _ _ _ _ _ _ _ guard55) e1.out ?_)
      exact ⟨_, rfl, soft_of hb9.size (Below.refl _ _), rfl⟩
    · obtain rfl := Option.some.inj hoi
      have h5 : (x 5) = .bool true := hd 5 (by kernel_rfl)
      have h12 : (x 12) = .bool true := hd 12 (by kernel_rfl)
      simp only [fill, Act.put, List.setIfInBounds_toArray, List.set_cons_succ, List.set_cons_zero, h5, h12]
      go_wp2_with fail
      exact ⟨_, rfl, soft_of hb9.size (Below.refl _ _), rfl⟩
    · obtain rfl := Option.some.inj hoi
      have h13 : (x 13) = .bool true := hd 13 (by kernel_rfl)
      simp only [fill, Act.put, List.setIfInBounds_toArray, List.set_cons_succ, List.set_cons_zero, h13]
      go_wp2_with fail
      exact ⟨_, rfl, soft_of hb9.size (Below.refl _ _), rfl⟩
    · obtain rfl := Option.some.inj hoi
      have h14 : (x 14) = .bool true := hd 14 (by kernel_rfl)
      simp only [fill, Act.put, List.setIfInBounds_toArray, List.set_cons_succ, List.set_cons_zero, h14]
      go_wp2_with fail
      exact ⟨_, rfl, soft_of hb9.size (Below.refl _ _), rfl⟩
    · obtain rfl := Option.some.inj hoi
      have h14 : (x 14) = .bool true := hd 14 (by kernel_rfl)
      have h15 : (x 15) = .pointer (some ⟨b56, 0, none⟩) := hd 15 (by kernel_rfl)
      simp only [fill, Act.put, List.setIfInBounds_toArray, List.set_cons_succ, List.set_cons_zero, h14, h15]
      have e1 := Lib.hid (mid_load A (Blk.part (A := []) (B := A.map (Value.int .u8)) (C := B.map (Value.int .u8)) (by simpa [bys, hfl'.out] using below_cell hb9 p6.out) 0 rfl) Tryd.underlying55 rfl (by rw [lA.out]; exact sz55))
      go_wp2_with (refine wpList_load_isG (by kernel_rfl) 55 _ rfl rfl e1.out ?_)
      exact ⟨_, rfl, soft_of hb9.size (Below.refl _ _), rfl⟩
    · obtain rfl := Option.some.inj hoi
      have h14 : (x 14) = .bool true := hd 14 (by kernel_rfl)
      simp only [fill, Act.put, List.setIfInBounds_toArray, List.set_cons_succ, List.set_cons_zero, h14]
      go_wp2_with fail
      exact ⟨_, rfl, soft_of hb9.size (Below.refl _ _), rfl⟩
    · obtain rfl := Option.some.inj hoi
      have h14 : (x 14) = .bool true := hd 14 (by kernel_rfl)
      have h17 : (x 17) = .pointer (some ⟨b56, 44, none⟩) := hd 17 (by kernel_rfl)
      simp only [fill, Act.put, List.setIfInBounds_toArray, List.set_cons_succ, List.set_cons_zero, h14, h17]
      have e1 := Lib.hid (mid_load B (Blk.part (A := A.map (Value.int .u8)) (B := B.map (Value.int .u8)) (C := []) (by simpa [bys, hfl'.out] using below_cell hb9 p6.out) 44 (by simp [lA.out])) Tryd.underlying55 rfl (by rw [lB.out]; exact sz55))
      go_wp2_with (refine wpList_load_isG (by kernel_rfl) 55 _ rfl rfl e1.out ?_)
      exact ⟨_, rfl, soft_of hb9.size (Below.refl _ _), rfl⟩
    · obtain rfl := Option.some.inj hoi
      have h14 : (x 14) = .bool true := hd 14 (by kernel_rfl)
      have h16 : (x 16) = .agg (bys A) := hd 16 (by kernel_rfl)
      have h18 : (x 18) = .agg (bys B) := hd 18 (by kernel_rfl)
      simp only [fill, Act.put, List.setIfInBounds_toArray, List.set_cons_succ, List.set_cons_zero, h14, h16, h18]
      have e1 := neq55 A B lA.out lB.out w9
      rw [hAB.out] at e1
      replace e1 := Lib.hid e1
      go_wp2_with (refine wpList_binG (by kernel_rfl) .neq 55 _ _ _ rfl rfl rfl (run_eqGuard_agg _ _ _ _ _ _ _ guard55) e1.out ?_)
      exact ⟨_, rfl, soft_of hb9.size (Below.refl _ _), rfl⟩
    · obtain rfl := Option.some.inj hoi
      have h14 : (x 14) = .bool true := hd 14 (by kernel_rfl)
      have h19 : (x 19) = .bool true := hd 19 (by kernel_rfl)
      simp only [fill, Act.put, List.setIfInBounds_toArray, List.set_cons_succ, List.set_cons_zero, h14, h19]
      go_wp2_with fail
      exact ⟨_, rfl, soft_of hb9.size (Below.refl _ _), rfl⟩
    · obtain rfl := Option.some.inj hoi
      have h20 : (x 20) = .bool true := hd 20 (by kernel_rfl)
      simp only [fill, Act.put, List.setIfInBounds_toArray, List.set_cons_succ, List.set_cons_zero, h20]
      go_wp2_with fail
      exact ⟨_, rfl, soft_of hb9.size (Below.refl _ _), rfl⟩
    · obtain rfl := Option.some.inj hoi
      have h21 : (x 21) = .bool true := hd 21 (by kernel_rfl)
      simp only [fill, Act.put, List.setIfInBounds_toArray, List.set_cons_succ, List.set_cons_zero, h21]
      go_wp2_with fail
      exact ⟨_, rfl, soft_of hb9.size ((Below.refl _ _).alloc (Nat.le_refl _) _), w9.heap.size, (0, 0), rfl, hb9.size, heap_alloc_new w9 _⟩
    · obtain rfl := Option.some.inj hoi
      have h21 : (x 21) = .bool true := hd 21 (by kernel_rfl)
      have h22 : RowAt w6.heap.size w9 (x 22) [97] := hd 22 (by kernel_rfl)
      simp only [fill, Act.put, List.setIfInBounds_toArray, List.set_cons_succ, List.set_cons_zero, h21]
      have hv := h22
      obtain ⟨b8, fr8, e8, h8, h8b⟩ := hv
      obtain ⟨w10, ec, sc⟩ := conv_soft h22
      have hn := h22.soft sc
      rw [e8] at ec hn
      simp only [e8]
      simp only [List.length_cons, List.length_nil, Nat.zero_add] at ec hn
      go_wp2_with fail
      exact ⟨_, rfl, sc, hn⟩
    · obtain rfl := Option.some.inj hoi
      have h21 : (x 21) = .bool true := hd 21 (by kernel_rfl)
      have h23 : RowAt w6.heap.size w9 (x 23) [97] := hd 23 (by kernel_rfl)
      simp only [fill, Act.put, List.setIfInBounds_toArray, List.set_cons_succ, List.set_cons_zero, h21]
      obtain ⟨b7, fr7, e7, h7, h7b⟩ := h23
      have hn7 := (show RowAt w6.heap.size w9 (x 23) [97] from ⟨b7, fr7, e7, h7, h7b⟩).nums (by simp)
      rw [e7] at hn7
      simp only [List.length_cons, List.length_nil, Nat.zero_add] at hn7 e7
      simp only [e7]
      go_wp2_with fail
      refine (reset_any _ _ [97] [] w9 (g6.out.below hb9 g6.out.lt) hn7 (nums_nil _ _) (byt_of (by simp)) byt_nil (by simp) (by simp)).mono ?_
      rintro ee w10 ⟨rfl, hb10⟩
      go_wp2_with fail
      exact ⟨_, rfl, soft_of hb9.size hb10, by rw [hr3.out]⟩
    · obtain rfl := Option.some.inj hoi
      have h21 : (x 21) = .bool true := hd 21 (by kernel_rfl)
      simp only [fill, Act.put, List.setIfInBounds_toArray, List.set_cons_succ, List.set_cons_zero, h21]
      go_wp2_with fail
      exact ⟨_, rfl, soft_of hb9.size (Below.refl _ _), rfl⟩
    · obtain rfl := Option.some.inj hoi
      have h21 : (x 21) = .bool true := hd 21 (by kernel_rfl)
      have h24 : (x 24) = .agg (bys r3) := hd 24 (by kernel_rfl)
      have h25 : (x 25) = .agg (bys (zb 16)) := hd 25 (by kernel_rfl)
      simp only [fill, Act.put, List.setIfInBounds_toArray, List.set_cons_succ, List.set_cons_zero, h21, h24, h25]
      have e1 := equal_bys arr52 r3 (zb 16) lr.out (zb_len 16) w9
      rw [hr0.out] at e1
      go_wp2_with fail
      exact ⟨_, rfl, soft_of hb9.size (Below.refl _ _), rfl⟩
    · obtain rfl := Option.some.inj hoi
      have h21 : (x 21) = .bool true := hd 21 (by kernel_rfl)
      have h26 : (x 26) = .bool true := hd 26 (by kernel_rfl)
      simp only [fill, Act.put, List.setIfInBounds_toArray, List.set_cons_succ, List.set_cons_zero, h21, h26]
      go_wp2_with fail
      exact ⟨_, rfl, soft_of hb9.size (Below.refl _ _), rfl⟩
    · obtain rfl := Option.some.inj hoi
      have h27 : (x 27) = .bool true := hd 27 (by kernel_rfl)
      simp only [fill, Act.put, List.setIfInBounds_toArray, List.set_cons_succ, List.set_cons_zero, h27]
      go_wp2_with fail
      exact ⟨_, rfl, soft_of hb9.size (Below.refl _ _), rfl⟩
    · obtain rfl := Option.some.inj hoi
      have h28 : (x 28) = .bool true := hd 28 (by kernel_rfl)
      simp only [fill, Act.put, List.setIfInBounds_toArray, List.set_cons_succ, List.set_cons_zero, h28]
      go_wp2_with fail
      exact ⟨_, rfl, soft_of hb9.size (Below.refl _ _), rfl⟩
    · obtain rfl := Option.some.inj hoi
      have h28 : (x 28) = .bool true := hd 28 (by kernel_rfl)
      have h29 : (x 29) = .pointer (some ⟨b59, 88, none⟩) := hd 29 (by kernel_rfl)
      simp only [fill, Act.put, List.setIfInBounds_toArray, List.set_cons_succ, List.set_cons_zero, h28, h29]
      go_wp2_with fail
      exact ⟨_, rfl, soft_of hb9.size (Below.refl _ _), rfl⟩
    · obtain rfl := Option.some.inj hoi
      have h28 : (x 28) = .bool true := hd 28 (by kernel_rfl)
      have h30 : (x 30) = .pointer (some ⟨b59, 88, none⟩) := hd 30 (by kernel_rfl)
      simp only [fill, Act.put, List.setIfInBounds_toArray, List.set_cons_succ, List.set_cons_zero, h28, h30]
      have e1 := Lib.hid (mid_load D0 (set_p2 (below_cell hb9 s6.out) l0.out l1.out) Tryd.underlying55 rfl (by rw [l2.out]; exact sz55))
      go_wp2_with (refine wpList_load_isG (by kernel_rfl) 55 _ rfl rfl e1.out ?_)
      exact ⟨_, rfl, soft_of hb9.size (Below.refl _ _), rfl⟩
    · obtain rfl := Option.some.inj hoi
      have h28 : (x 28) = .bool true := hd 28 (by kernel_rfl)
      simp only [fill, Act.put, List.setIfInBounds_toArray, List.set_cons_succ, List.set_cons_zero, h28]
      go_wp2_with fail
      exact ⟨_, rfl, soft_of hb9.size ((Below.refl _ _).alloc (Nat.le_refl _) _), w9.heap.size, (0, 0), rfl, hb9.size, heap_alloc_new w9 _⟩
    · obtain rfl := Option.some.inj hoi
      have h28 : (x 28) = .bool true := hd 28 (by kernel_rfl)
      have h32 : RowAt w6.heap.size w9 (x 32) [107] := hd 32 (by kernel_rfl)
      simp only [fill, Act.put, List.setIfInBounds_toArray, List.set_cons_succ, List.set_cons_zero, h28]
      have hv := h32
      obtain ⟨b8, fr8, e8, h8, h8b⟩ := hv
      obtain ⟨w10, ec, sc⟩ := conv_soft h32
      have hn := h32.soft sc
      rw [e8] at ec hn
      simp only [e8]
      simp only [List.length_cons, List.length_nil, Nat.zero_add] at ec hn
      go_wp2_with fail
      exact ⟨_, rfl, sc, hn⟩
    · obtain rfl := Option.some.inj hoi
      have h28 : (x 28) = .bool true := hd 28 (by kernel_rfl)
      simp only [fill, Act.put, List.setIfInBounds_toArray, List.set_cons_succ, List.set_cons_zero, h28]
      go_wp2_with fail
      exact ⟨_, rfl, soft_of hb9.size ((Below.refl _ _).alloc (Nat.le_refl _) _), w9.heap.size, (0, 0), rfl, hb9.size, heap_alloc_new w9 _⟩
    · obtain rfl := Option.some.inj hoi
      have h28 : (x 28) = .bool true := hd 28 (by kernel_rfl)
      have h34 : RowAt w6.heap.size w9 (x 34) [104] := hd 34 (by kernel_rfl)
      simp only [fill, Act.put, List.setIfInBounds_toArray, List.set_cons_succ, List.set_cons_zero, h28]
      have hv := h34
      obtain ⟨b8, fr8, e8, h8, h8b⟩ := hv
      obtain ⟨w10, ec, sc⟩ := conv_soft h34
      have hn := h34.soft sc
      rw [e8] at ec hn
      simp only [e8]
      simp only [List.length_cons, List.length_nil, Nat.zero_add] at ec hn
      go_wp2_with fail
      exact ⟨_, rfl, sc, hn⟩
    · obtain rfl := Option.some.inj hoi
      have h28 : (x 28) = .bool true := hd 28 (by kernel_rfl)
      have h33 : RowAt w6.heap.size w9 (x 33) [107] := hd 33 (by kernel_rfl)
      have h35 : RowAt w6.heap.size w9 (x 35) [104] := hd 35 (by kernel_rfl)
      simp only [fill, Act.put, List.setIfInBounds_toArray, List.set_cons_succ, List.set_cons_zero, h28]
      obtain ⟨b70, fr70, e70, h70, h7b0⟩ := h33
      have hn70 := (show RowAt w6.heap.size w9 (x 33) [107] from ⟨b70, fr70, e70, h70, h7b0⟩).nums (by simp)
      rw [e70] at hn70
      simp only [List.length_cons, List.length_nil, Nat.zero_add] at hn70 e70
      obtain ⟨b71, fr71, e71, h71, h7b1⟩ := h35
      have hn71 := (show RowAt w6.heap.size w9 (x 35) [104] from ⟨b71, fr71, e71, h71, h7b1⟩).nums (by simp)
      rw [e71] at hn71
      simp only [List.length_cons, List.length_nil, Nat.zero_add] at hn71 e71
      simp only [e70, e71]
      go_wp2_with fail
      refine (rall_any _ _ [107] [104] w9 hn70 hn71 (byt_of (by simp)) (byt_of (by simp)) (by simp) (by simp)).mono ?_
      rintro ee w10 ⟨f0, f1, rfl, _, _, hb10⟩
      go_wp2_with fail
      exact ⟨_, rfl, soft_of hb9.size hb10, f0, f1, by rw [hP0.out, hP1.out, hD0.out, hD1.out]⟩
    · obtain rfl := Option.some.inj hoi
      have h28 : (x 28) = .bool true := hd 28 (by kernel_rfl)
      have h36 : ∃ f0 f1, (x 36) = .agg (setV P0 P1 D0 D1 f0 f1) := hd 36 (by kernel_rfl)
      simp only [fill, Act.put, List.setIfInBounds_toArray, List.set_cons_succ, List.set_cons_zero, h28]
      obtain ⟨f0, f1, e7⟩ := h36
      simp only [e7]
      have e1 := field64 P0 P1 D0 D1 f0 f1 l0.out l1.out l2.out l3.out w9
      go_wp2_with fail
      exact ⟨_, rfl, soft_of hb9.size (Below.refl _ _), rfl⟩
    · obtain rfl := Option.some.inj hoi
      have h28 : (x 28) = .bool true := hd 28 (by kernel_rfl)
      have h37 : (x 37) = .agg (bys (D0 ++ D1)) := hd 37 (by kernel_rfl)
      simp only [fill, Act.put, List.setIfInBounds_toArray, List.set_cons_succ, List.set_cons_zero, h28, h37]
      have e1 := index62 D0 D1 l2.out w9
      go_wp2_with fail
      exact ⟨_, rfl, soft_of hb9.size (Below.refl _ _), rfl⟩
    · obtain rfl := Option.some.inj hoi
      have h28 : (x 28) = .bool true := hd 28 (by kernel_rfl)
      have h31 : (x 31) = .agg (bys D0) := hd 31 (by kernel_rfl)
      have h38 : (x 38) = .agg (bys D0) := hd 38 (by kernel_rfl)
      simp only [fill, Act.put, List.setIfInBounds_toArray, List.set_cons_succ, List.set_cons_zero, h28, h31, h38]
      go_wp2_with fail
      refine (samek_any D0 w9 l2.out).mono ?_
      rintro ee w10 ⟨rfl, hb10⟩
      go_wp2_with fail
      exact ⟨_, rfl, soft_of hb9.size hb10, by rfl⟩
    · obtain rfl := Option.some.inj hoi
      have h28 : (x 28) = .bool true := hd 28 (by kernel_rfl)
      have h39 : (x 39) = .bool true := hd 39 (by kernel_rfl)
      simp only [fill, Act.put, List.setIfInBounds_toArray, List.set_cons_succ, List.set_cons_zero, h28, h39]
      go_wp2_with fail
      exact ⟨_, rfl, soft_of hb9.size (Below.refl _ _), rfl⟩
    · cases hoi
  · intro x w9 hb9 hd
    have h40 : (x 40) = .bool true := hd 40 (by decide)
    simp only [fill, Act.put, List.setIfInBounds_toArray, List.set_cons_succ, List.set_cons_zero, h40]
    go_wp2_with fail
    go_ret
    exact ⟨rfl, below_all b6.out hb9⟩
end Go.Proofs.YtikmfaeiecpncaaDoor
