/- What tells that a host saw all, what tells of a reset, and the document's. -/
import Derived.Test.YtikmfaeiecpncaaDoorKE
namespace Go.Proofs.YtikmfaeiecpncaaDoor
open Go.RowKit

/-- Onto a slice without room: it is made anew. -/
theorem run_append_full (w : World) (g off : Nat) (xs ys : List Int) (u : Value) (ty : TypeId) (h0 : 0 < xs.length) (hv : NumsAt .u8 w (.slice (some ⟨g, off, none⟩) xs.length xs.length) xs) (hu : NumsAt .u8 w u ys) (hlen : xs.length + ys.length ≤ 100000) :
    ∃ v' w', (Builtin.append_ #[22, 22] ty #[.slice (some ⟨g, off, none⟩) xs.length xs.length, u]).run Tryd.prog w = .ok v' w' ∧ NumsAt .u8 w' v' (xs ++ ys) ∧ Below w.heap.size w w' := by
  obtain ⟨i0, hi, hz0, hz1, hz2⟩ := info_parts info5
  have un := Tryd.underlying22
  obtain ⟨ad, cap, rfl, h1, h2, h3, hc⟩ := hu
  by_cases hy : ys = []
  · subst hy
    refine ⟨.slice (some ⟨g, off, none⟩) xs.length xs.length, w, ?_, by simpa using hv, Below.refl _ _⟩
    cases ad with
    | none => simp [Builtin.append_, run_underlying un, sizeOf, typeInfo, hi, Builtin.lenOf, Builtin.firstCells, storeCells]
    | some p => simp [Builtin.append_, run_underlying un, sizeOf, typeInfo, hi, Builtin.lenOf, Builtin.firstCells, loadCells, loadCellsFrom, storeCells]
  · have hy0 : 0 < ys.length := List.length_pos_iff.2 hy
    rcases hc with rfl | ⟨b, o, rfl, hcell⟩
    · simp at hy
    obtain ⟨_, _, he, _, _, _, hxc⟩ := hv
    rcases hxc with rfl | ⟨g', off', he', hxcell⟩
    · simp at h0
    obtain ⟨rfl, rfl⟩ : g = g' ∧ off = off' := by
      simp only [Value.slice.injEq] at he
      rw [← he.1] at he'
      simpa using he'
    have holds : ∀ j v, (xs.map (Value.int .u8))[j]? = some v → w.cell? ((⟨g, off, none⟩ : Addr).add j) = some v := by
      intro j v hv
      rw [List.getElem?_map] at hv
      obtain ⟨y, hy, rfl⟩ := Option.map_eq_some_iff.1 hv
      obtain ⟨hj, rfl⟩ := List.getElem?_eq_some_iff.1 hy
      rw [add_plain, hxcell j hj]
      simp [List.getD, List.getElem?_eq_getElem hj]
    have hnews : ∀ j v, (ys.map (Value.int .u8))[j]? = some v → w.cell? ((⟨b, o, none⟩ : Addr).add j) = some v := by
      intro j v hv
      rw [List.getElem?_map] at hv
      obtain ⟨y, hy, rfl⟩ := Option.map_eq_some_iff.1 hv
      obtain ⟨hj, rfl⟩ := List.getElem?_eq_some_iff.1 hy
      rw [add_plain, hcell j hj]
      simp [List.getD, List.getElem?_eq_getElem hj]
    have hr := run_append_grow (P := Tryd.prog) w 22 ty 5 i0 _ un hi hz0 ⟨g, off, none⟩ xs.length xs.length (xs.map (Value.int .u8)) (by simp [hz1]) holds ⟨b, o, none⟩ ys.length cap (ys.map (Value.int .u8)) (by simp [hz1]) hnews (by omega) (by omega)
      (growslice_fits (by omega) (by rw [hz2]; omega))
    refine ⟨_, _, hr, ?_, ?_⟩
    · have hge := grownCap_ge w (xs.length + ys.length) xs.length 5
      have hcm : grownCap w (xs.length + ys.length) xs.length 5 ≤ maxLen := grownCap_le_maxLen w _ _ 5 (by unfold maxLen; omega)
      refine ⟨_, _, by rw [List.length_append], by rw [List.length_append]; exact hge, by unfold maxLen at hcm; omega, (fun h => by cases h), .inr ⟨w.heap.size, 0, rfl, fun i hi => ?_⟩⟩
      have hbk := heap_alloc_new w.drew (.cells ((xs.map (Value.int .u8)).toArray ++ (ys.map (Value.int .u8)).toArray ++ Builtin.zeroCells (Value.int .u8 0).cells (grownCap w (xs.length + ys.length) xs.length 5 - (xs.length + ys.length))) 5)
      have hs : w.drew.heap.size = w.heap.size := rfl
      rw [hs] at hbk
      rw [World.cell?, hbk, Nat.zero_add]
      show ((xs.map (Value.int .u8)).toArray ++ (ys.map (Value.int .u8)).toArray ++ _)[i]? = _
      rw [Array.getElem?_append_left (by simp at hi ⊢; omega)]
      rw [show (xs.map (Value.int .u8)).toArray ++ (ys.map (Value.int .u8)).toArray = bys (xs ++ ys) by simp [bys]]
      exact bys_at _ i hi
    · exact (Below.refl w.heap.size w).trans ⟨rfl, rfl, rfl, by simp, fun k hk => Array.getElem?_push_lt hk |>.trans (Array.getElem?_eq_getElem hk).symm⟩
theorem wpList_append_full {w : World} {ops : Array Oper} {rest : List Oper} {o : Oper} {a : Act} {Q : Exit → Act → World → Prop} (hgd : o.guard = none) (s x : Operand)
    (ho : o.op = .call { callee := .builtin .append, args := #[s, x], argTypes := #[22, 22] }) (g off n : Nat) (xs ys : List Int) (u : Value) (hs : a.eval s = .slice (some ⟨g, off, none⟩) n n) (hx : a.eval x = u) (hn : xs.length = n) (h0 : 0 < n)
    (hv : NumsAt .u8 w (.slice (some ⟨g, off, none⟩) n n) xs) (hu : NumsAt .u8 w u ys) (hlen : n + ys.length ≤ 100000)
    (h : ∀ v' w', NumsAt .u8 w' v' (xs ++ ys) → Below w.heap.size w w' → wpList Tryd.prog ops Q rest (a.put o.dst v') w') : wpList Tryd.prog ops Q (o :: rest) a w := by
  subst hn
  refine wpList_plain hgd fun K hK => ?_
  obtain ⟨v', w', hr, h2, h3⟩ := run_append_full w g off xs ys u o.type h0 hv hu hlen
  unfold Oper.wp
  simp only [execOp, ho, resolve, invoke, builtin]
  simp [hs, hx, hr, Result.andThen]
  exact hK _ _ (h v' w' h2 h3)
set_option maxHeartbeats 1600000 in
set_option maxRecDepth 100000 in
theorem finish_any (u v : Value) (key text : List Int) (w : World) (hg : Gl w) (hu : NumsAt .u8 w u key) (hv : NumsAt .u8 w v text) (hb : Byt key) (hbt : Byt text) (hl : key.length ≤ 10000) (hlt : text.length ≤ 5000) :
    Calls Tryd.prog 45 #[u, v] w fun e w' => e = .returned (.agg (bys (mac key (sha text)))) ∧ Below w.heap.size w w' := by
  obtain ⟨a0, l0, k0, rfl⟩ := slice_any hu
  obtain ⟨a1, m1, k1, rfl⟩ := slice_any hv
  obtain ⟨n, hn⟩ := name_it (sha text)
  have hnl : Hid (n.length = 32) := by show _ = _; rw [hn.out]; exact sha_len _
  have hbn : Hid (Byt n) := by show Byt _; rw [hn.out]; exact byt_sha _
  rw [← hn.out]
  obtain ⟨r, hr⟩ := name_it (mac key n)
  have hrl : Hid (r.length = 32) := by show _ = _; rw [hr.out]; exact mac_len _ _
  rw [← hr.out]
  have zr : (Tryd.prog.info? 26).map (·.size) = some (bys r).size := by rw [bys_size, hrl.out]; exact sz26
  replace zr := Lib.hid zr
  have hor : Hid ((bys (zb 32)).size = (bys r).size) := by show _ = _; rw [bys_size, bys_size, hrl.out]; rfl
  have hc26 := fun (b : Nat) (w : World) => slice_all arr26 arr26' el26 b 0 w
  have b1 := (Below.refl w.heap.size w).alloc (Nat.le_refl _) (.cells (bys (zb 32)) 26)
  have l1 := Lib.hid (Blk.new w 26 (bys (zb 32)))
  obtain ⟨w1, hw1⟩ : ∃ x, x = w.alloc (.cells (bys (zb 32)) 26) := ⟨_, rfl⟩
  rw [← hw1] at b1 l1
  have hs1 : w1.heap.size = w.heap.size + 1 := by rw [hw1]; simp
  have u1 := Lib.hid (hu.below b1)
  have v1 := Lib.hid (hv.below b1)
  have g1 := Lib.hid (hg.below b1 hg.lt)
  replace b1 := Lib.hid b1
  replace hb := Lib.hid hb
  replace hbt := Lib.hid hbt
  replace hw1 := Lib.hid hw1
  clear hu hv hg
  go_enter Tryd.func45, Tryd.ntmps45
  go_wp2_with fail
  change Calls _ _ _ ((w.alloc (.cells (bys (zb 32)) 26)).alloc (.cells #[.slice a1 m1 k1] 22)) _
  rw [← hw1.out, ← hs1]
  have p1 := parts_one (Blk.new w1 22 #[.slice a1 m1 k1]) (v1.out.alloc _)
  have c1 := (Below.refl w1.heap.size w1).alloc (Nat.le_refl _) (.cells #[.slice a1 m1 k1] 22)
  refine (sum_any _ [text] text _ (by simp) p1 hbt.out (by omega) (g1.out.below c1 g1.out.lt)).mono ?_
  rintro ee w2 ⟨rfl, hb2'⟩
  have hb2 := below_all c1 hb2'
  clear p1 c1 hb2'
  rw [← hn.out]
  have b2 := Lib.hid (below_all b1.out hb2)
  have l2 := Lib.hid (below_cell hb2 l1.out)
  have u2 := Lib.hid (u1.out.below hb2)
  have g2 := Lib.hid (g1.out.below hb2 g1.out.lt)
  clear b1 l1 u1 v1 hb2 hs1 hw1
  clear g1
  have z8 : (Tryd.prog.info? 26).map (·.size) = some (bys n).size := by rw [bys_size, hnl.out]; exact sz26
  replace z8 := Lib.hid z8
  have ho8 : Hid ((bys (zb 32)).size = (bys n).size) := by show _ = _; rw [bys_size, bys_size, hnl.out]; rfl
  have ln_b5 := Lib.hid ((Blk.new w2 26 (bys (zb 32))).setRow (bys n))
  have bb8 := Lib.hid (below_setRow (g := w2.heap.size) ((Below.refl w2.heap.size w2).alloc (Nat.le_refl _) (.cells (bys (zb 32)) 26)) (Nat.le_refl _) (bys n))
  obtain ⟨w3, hw8⟩ : ∃ x, x = (w2.alloc (.cells (bys (zb 32)) 26)).setRow w2.heap.size (bys n) := ⟨_, rfl⟩
  rw [← hw8] at ln_b5 bb8
  have hlt_b5 := ln_b5.out.lt
  replace hlt_b5 := Lib.hid hlt_b5
  have b3 := Lib.hid (below_all b2.out bb8.out)
  have l3 := Lib.hid (below_cell bb8.out l2.out)
  have u3 := Lib.hid (u2.out.below bb8.out)
  have g3 := Lib.hid (g2.out.below bb8.out g2.out.lt)
  clear g2
  clear b2 l2 u2
  replace hw8 := Lib.hid hw8
  go_wp2_with (refine wpList_store_row rfl 26 _ _ rfl _ _ rfl rfl 26 _ (Blk.new w2 26 (bys (zb 32))) z8.out ho8.out (bys_one _) ?_; change wpList _ _ _ _ _ ((w2.alloc (.cells (bys (zb 32)) 26)).setRow w2.heap.size (bys n)); rw [← hw8.out])
  obtain ⟨b5, hb8⟩ : ∃ b, b = w2.heap.size := ⟨_, rfl⟩
  rw [← hb8] at ln_b5 ⊢
  clear hb8 hw8 z8 ho8 bb8
  have n5 := (ln_b5.out.nums 32 hnl.out (by omega)).alloc (.cells #[.slice (some ⟨b5, 0, none⟩) 32 32] 22)
  have p5 := parts_one (Blk.new w3 22 #[.slice (some ⟨b5, 0, none⟩) 32 32]) n5
  have c5 := (Below.refl w3.heap.size w3).alloc (Nat.le_refl _) (.cells #[.slice (some ⟨b5, 0, none⟩) 32 32] 22)
  refine (mac_any _ _ key n [n] _ (g3.out.below c5 g3.out.lt) (u3.out.alloc _) p5 (by simp) hb.out hbn.out hl (by rw [hnl.out]; omega) (by simp)).mono ?_
  rintro ee w9 ⟨rfl, hb9'⟩
  have hb9 := below_all c5 hb9'
  clear p5 c5 hb9' n5
  rw [← hr.out]
  have l6 := Lib.hid (below_cell hb9 l3.out)
  have l7 := Lib.hid (l6.out.setRow (bys r))
  have b7 := Lib.hid (below_setRow (below_all b3.out hb9) (Nat.le_refl _) (bys r))
  clear hb9
  go_wp2_with (refine wpList_store_row rfl 26 _ _ rfl _ _ rfl rfl 26 _ l6.out zr.out hor.out (bys_one _) ?_)
  replace l7 := l7.out
  replace b7 := b7.out
  generalize w9.setRow w.heap.size (bys r) = w10 at l7 b7 ⊢
  exact bodyPost_ret (results_cell_row rfl _ _ _ 26 _ _ _ rfl l7 arr26 rfl zr.out) rfl ⟨rfl, b7⟩
set_option maxHeartbeats 1600000 in
set_option maxRecDepth 100000 in
theorem rfinish_any (u v : Value) (key text : List Int) (w : World) (hu : NumsAt .u8 w u key) (hv : NumsAt .u8 w v text) (hb : Byt key) (hbt : Byt text) (hl : key.length ≤ 10000) (hlt : text.length ≤ 5000) :
    Calls Tryd.prog 46 #[u, v] w fun e w' => e = .returned (.agg (bys (mac key (sha text)))) ∧ Below w.heap.size w w' := by
  obtain ⟨a0, l0, k0, rfl⟩ := slice_any hu
  obtain ⟨a1, l1, k1, rfl⟩ := slice_any hv
  obtain ⟨n, hn⟩ := name_it (sha text)
  have hnl : Hid (n.length = 32) := by show _ = _; rw [hn.out]; exact sha_len _
  have hbn : Hid (Byt n) := by show Byt _; rw [hn.out]; exact byt_sha _
  rw [← hn.out]
  obtain ⟨r, hr⟩ := name_it (mac key n)
  have hrl : Hid (r.length = 32) := by show _ = _; rw [hr.out]; exact mac_len _ _
  rw [← hr.out]
  have zr : (Tryd.prog.info? 26).map (·.size) = some (bys r).size := by rw [bys_size, hrl.out]; exact sz26
  replace zr := Lib.hid zr
  have hor : Hid ((bys (zb 32)).size = (bys r).size) := by show _ = _; rw [bys_size, bys_size, hrl.out]; rfl
  have hc26 := fun (b : Nat) (w : World) => slice_all arr26 arr26' el26 b 0 w
  have b1 := (Below.refl w.heap.size w).alloc (Nat.le_refl _) (.cells (bys (zb 32)) 26)
  have l1 := Lib.hid (Blk.new w 26 (bys (zb 32)))
  obtain ⟨w1, hw1⟩ : ∃ x, x = w.alloc (.cells (bys (zb 32)) 26) := ⟨_, rfl⟩
  rw [← hw1] at b1 l1
  have hs1 : w1.heap.size = w.heap.size + 1 := by rw [hw1]; simp
  have u1 := Lib.hid (hu.below b1)
  have v1 := Lib.hid (hv.below b1)
  replace b1 := Lib.hid b1
  replace hb := Lib.hid hb
  replace hbt := Lib.hid hbt
  replace hw1 := Lib.hid hw1
  clear hu hv
  go_enter Tryd.func46, Tryd.ntmps46
  go_wp2_with fail
  change Calls _ _ _ (w.alloc (.cells (bys (zb 32)) 26)) _
  rw [← hw1.out]
  refine (rsum_any _ text _ v1.out hbt.out (by omega)).mono ?_
  rintro ee w2 ⟨rfl, hb2⟩
  rw [← hn.out]
  have b2 := Lib.hid (below_all b1.out hb2)
  have l2 := Lib.hid (below_cell hb2 l1.out)
  have u2 := Lib.hid (u1.out.below hb2)
  clear b1 l1 u1 v1 hb2 hs1 hw1
  have z8 : (Tryd.prog.info? 26).map (·.size) = some (bys n).size := by rw [bys_size, hnl.out]; exact sz26
  replace z8 := Lib.hid z8
  have ho8 : Hid ((bys (zb 32)).size = (bys n).size) := by show _ = _; rw [bys_size, bys_size, hnl.out]; rfl
  have ln_b5 := Lib.hid ((Blk.new w2 26 (bys (zb 32))).setRow (bys n))
  have bb8 := Lib.hid (below_setRow (g := w2.heap.size) ((Below.refl w2.heap.size w2).alloc (Nat.le_refl _) (.cells (bys (zb 32)) 26)) (Nat.le_refl _) (bys n))
  obtain ⟨w3, hw8⟩ : ∃ x, x = (w2.alloc (.cells (bys (zb 32)) 26)).setRow w2.heap.size (bys n) := ⟨_, rfl⟩
  rw [← hw8] at ln_b5 bb8
  have hlt_b5 := ln_b5.out.lt
  replace hlt_b5 := Lib.hid hlt_b5
  have b3 := Lib.hid (below_all b2.out bb8.out)
  have l3 := Lib.hid (below_cell bb8.out l2.out)
  have u3 := Lib.hid (u2.out.below bb8.out)
  clear b2 l2 u2
  replace hw8 := Lib.hid hw8
  go_wp2_with (refine wpList_store_row rfl 26 _ _ rfl _ _ rfl rfl 26 _ (Blk.new w2 26 (bys (zb 32))) z8.out ho8.out (bys_one _) ?_; change wpList _ _ _ _ _ ((w2.alloc (.cells (bys (zb 32)) 26)).setRow w2.heap.size (bys n)); rw [← hw8.out])
  obtain ⟨b5, hb8⟩ : ∃ b, b = w2.heap.size := ⟨_, rfl⟩
  rw [← hb8] at ln_b5 ⊢
  clear hb8 hw8 z8 ho8 bb8
  refine (rmac_any _ _ key n _ u3.out (ln_b5.out.nums 32 hnl.out (by omega)) hb.out hbn.out hl (by rw [hnl.out]; omega)).mono ?_
  rintro ee w9 ⟨rfl, hb9⟩
  rw [← hr.out]
  have l6 := Lib.hid (below_cell hb9 l3.out)
  have l7 := Lib.hid (l6.out.setRow (bys r))
  have b7 := Lib.hid (below_setRow (below_all b3.out hb9) (Nat.le_refl _) (bys r))
  clear hb9
  go_wp2_with (refine wpList_store_row rfl 26 _ _ rfl _ _ rfl rfl 26 _ l6.out zr.out hor.out (bys_one _) ?_)
  replace l7 := l7.out
  replace b7 := b7.out
  generalize w9.setRow w.heap.size (bys r) = w10 at l7 b7 ⊢
  exact bodyPost_ret (results_cell_row rfl _ _ _ 26 _ _ _ rfl l7 arr26 rfl zr.out) rfl ⟨rfl, b7⟩
end Go.Proofs.YtikmfaeiecpncaaDoor
