/- The reference's step. -/
import Derived.Test.YtikmfaeiecpncaaDoorE
import Derived.Test.YtikmfaeiecpncaaDoorT
namespace Go.Proofs.YtikmfaeiecpncaaDoor
open Go.RowKit

def schN (blk : List Int) (k : Nat) : Ws := if k ≤ 16 then schA blk k else schB blk (k - 16)
theorem schN_len (blk : List Int) (k : Nat) : (schN blk k).length = 64 := by unfold schN; split <;> first | exact schA_len _ _ | exact schB_len _ _
theorem schN_all (blk : List Int) : schN blk 64 = sched blk := rfl
theorem schN_low (blk : List Int) (k : Nat) (h : k < 16) : schN blk (k + 1) = (schN blk k).set k (part blk k 4) := by
  rw [schN, schN, if_pos (by omega), if_pos (by omega), schA]
theorem schN_high (blk : List Int) (k j : Nat) (h : 16 + j = k) : schN blk (k + 1) = (schN blk k).set k (nextW (schN blk k) j) := by
  subst h
  have e : schN blk (16 + j) = schB blk j := by
    unfold schN
    split
    · obtain rfl : j = 0 := by omega
      rfl
    · rw [show 16 + j - 16 = j by omega]
  rw [e, schN, if_neg (by omega), show 16 + j + 1 - 16 = j + 1 by omega, schB]
theorem part_or (blk : List Int) (k : Nat) : part blk k 4 = (byteW blk (4 * k) <<< 24) ||| (byteW blk (4 * k + 1) <<< 16) ||| (byteW blk (4 * k + 2) <<< 8) ||| byteW blk (4 * k + 3) := by
  have e : (0 : BitVec 32) <<< 8 = 0 := by decide
  simp only [part, BitVec.shiftLeft_or_distrib, ← BitVec.shiftLeft_add, Nat.add_zero, e, Nat.reduceAdd]
  rw [show (0 : BitVec 32) ||| byteW blk (4 * k) <<< 24 = byteW blk (4 * k) <<< 24 from BitVec.zero_or]
theorem add_comm (s t : St) : s.add t = t.add s := by simp only [St.add, BitVec.add_comm]
theorem byteW_V (blk : List Int) (i : Nat) (h : 0 ≤ blk.getD i 0 ∧ blk.getD i 0 ≤ 255) : V (byteW blk i) = blk.getD i 0 := V_byte _ h.1 h.2

set_option maxHeartbeats 3200000 in
set_option maxRecDepth 100000 in
theorem rstep_any (s : St) (blk : List Int) (u : Value) (bk : Nat) (w : World) (hx : blk.length = 64) (hb : ∀ i, 0 ≤ blk.getD i 0 ∧ blk.getD i 0 ≤ 255) (hu : NumsAt .u8 w u blk) (hK : Blk w bk 75 (wds Kc)) :
    Calls Tryd.prog 50 #[.agg (wds s.list), u, .pointer (some ⟨bk, 0, none⟩)] w fun e w' => e = .returned (.agg (wds (comp s blk).list)) ∧ Below w.heap.size w w' := by
  obtain ⟨r, hr⟩ := name_it (comp s blk)
  rw [← hr.out]
  have hkl := hK.lt
  have hK := Lib.hid hK
  obtain ⟨a, cap, rfl, hl, ub, uo, huc⟩ := hu.form
  have hue : ∀ i, i < 64 → ub < w.heap.size := fun i hi => cell_lt (huc.out i (by omega)).2
  have hul := hue 0 (by omega)
  obtain rfl : a = some ⟨ub, uo, none⟩ := (huc.out 0 (by omega)).1
  have hcc := Lib.hid (fun i (hi : i < 64) => (huc.out i (by omega)).2)
  clear huc
  rw [hx] at hl ⊢
  clear hu hue
  have hb := Lib.hid hb
  go_enter Tryd.func50, Tryd.ntmps50
  go_wp2_with fail
  go_loopw [8] (fun i wr => ∃ k : Nat, k ≤ 64 ∧ i = .int .i64 k ∧ Hid (Blk wr w.heap.size 32 (wds s.list)) ∧ Hid (Blk wr (w.heap.size + 1) 32 (wds (zeros 8))) ∧ Hid (Blk wr (w.heap.size + 2) 75 (wds (schN blk k))) ∧ Below w.heap.size w wr) (fun i _ => 64 - (intOf i).toNat)
  case atStart =>
    have l0 := ((Blk.new w 32 (wds s.list)).alloc (.cells (wds (zeros 8)) 32)).alloc (.cells (wds (zeros 64)) 75)
    have l1 := (Blk.new (w.alloc (.cells (wds s.list) 32)) 32 (wds (zeros 8))).alloc (.cells (wds (zeros 64)) 75)
    have l2 := Blk.new ((w.alloc (.cells (wds s.list) 32)).alloc (.cells (wds (zeros 8)) 32)) 75 (wds (zeros 64))
    rw [show (w.alloc (.cells (wds s.list) 32)).heap.size = w.heap.size + 1 by simp] at l1
    rw [show ((w.alloc (.cells (wds s.list) 32)).alloc (.cells (wds (zeros 8)) 32)).heap.size = w.heap.size + 2 by simp] at l2
    exact ⟨0, by omega, rfl, l0, l1, l2, (((Below.refl w.heap.size w).alloc (Nat.le_refl _) (.cells (wds s.list) 32)).alloc (by simp) (.cells (wds (zeros 8)) 32)).alloc (by simp; omega) (.cells (wds (zeros 64)) 75)⟩
  case round =>
    obtain ⟨k, hk64, rfl, l0, l1, l2, b1⟩ := hrel
    have hln := schN_len blk k
    by_cases hlt : k < 64
    · have hkI : (k : Int) < 64 := by omega
      obtain ⟨xs, hxs⟩ := name_it (schN blk k)
      rw [← hxs.out] at l2 hln
      have hln := Lib.hid hln
      have ff := l2.out.fr k
      have cw := l2.out.word k (by rw [hln.out]; exact hlt)
      obtain ⟨xo, hxo⟩ := name_it (xs.getD k 0)
      rw [← hxo.out] at cw
      by_cases hlo : k < 16
      · have hloI : (k : Int) < 16 := by omega
        obtain ⟨n0, hn0⟩ := name_it (4 * k)
        obtain ⟨n1, hn1⟩ := name_it (4 * k + 1)
        obtain ⟨n2, hn2⟩ := name_it (4 * k + 2)
        obtain ⟨n3, hn3⟩ := name_it (4 * k + 3)
        have i0 : IntKind.i64.wrap (4 * (k : Int)) = (n0 : Int) := by rw [IntWalk.i64_in _ ⟨by omega, by omega⟩, hn0.out]; omega
        have i1 : IntKind.i64.wrap ((n0 : Int) + 1) = (n1 : Int) := by rw [IntWalk.i64_in _ ⟨by omega, by have := hn0.out; omega⟩, hn1.out, hn0.out]; omega
        have i2 : IntKind.i64.wrap ((n0 : Int) + 2) = (n2 : Int) := by rw [IntWalk.i64_in _ ⟨by omega, by have := hn0.out; omega⟩, hn2.out, hn0.out]; omega
        have i3 : IntKind.i64.wrap ((n0 : Int) + 3) = (n3 : Int) := by rw [IntWalk.i64_in _ ⟨by omega, by have := hn0.out; omega⟩, hn3.out, hn0.out]; omega
        have g0 : (n0 : Int) < 64 := by rw [hn0.out]; omega
        have g1 : (n1 : Int) < 64 := by rw [hn1.out]; omega
        have g2 : (n2 : Int) < 64 := by rw [hn2.out]; omega
        have g3 : (n3 : Int) < 64 := by rw [hn3.out]; omega
        obtain ⟨x0, hx0⟩ := name_it (byteW blk n0)
        obtain ⟨x1, hx1⟩ := name_it (byteW blk n1)
        obtain ⟨x2, hx2⟩ := name_it (byteW blk n2)
        obtain ⟨x3, hx3⟩ := name_it (byteW blk n3)
        have c0 := (b1.cell (p := ⟨ub, uo + n0, none⟩) hul).trans (hcc.out n0 (by omega))
        have c1 := (b1.cell (p := ⟨ub, uo + n1, none⟩) hul).trans (hcc.out n1 (by omega))
        have c2 := (b1.cell (p := ⟨ub, uo + n2, none⟩) hul).trans (hcc.out n2 (by omega))
        have c3 := (b1.cell (p := ⟨ub, uo + n3, none⟩) hul).trans (hcc.out n3 (by omega))
        have y0 := hb.out n0
        have y1 := hb.out n1
        have y2 := hb.out n2
        have y3 := hb.out n3
        rw [← byteW_V _ _ (hb.out n0), ← hx0.out] at c0 y0
        rw [← byteW_V _ _ (hb.out n1), ← hx1.out] at c1 y1
        rw [← byteW_V _ _ (hb.out n2), ← hx2.out] at c2 y2
        rw [← byteW_V _ _ (hb.out n3), ← hx3.out] at c3 y3
        have v0 : IntKind.u32.wrap (V x0) = V x0 := wrap_V _
        have v1 : IntKind.u32.wrap (V x1) = V x1 := wrap_V _
        have v2 : IntKind.u32.wrap (V x2) = V x2 := wrap_V _
        have v3 : IntKind.u32.wrap (V x3) = V x3 := wrap_V _
        have s0 : V x0 * (16777216 : Int) % (4294967296 : Int) = V (x0 <<< 24) := by rw [← V_shl, IntKind.wrap_u32']; rfl
        have s1 : V x1 * (65536 : Int) % (4294967296 : Int) = V (x1 <<< 16) := by rw [← V_shl, IntKind.wrap_u32']; rfl
        have s2 : V x2 * (256 : Int) % (4294967296 : Int) = V (x2 <<< 8) := by rw [← V_shl, IntKind.wrap_u32']; rfl
        have o1 : bits .or .u32 (V x0 * 16777216 % 4294967296) (V x1 * 65536 % 4294967296) = V (x0 <<< 24 ||| x1 <<< 16) := by rw [s0, s1]; exact V_or _ _
        have o2 : bits .or .u32 (V (x0 <<< 24 ||| x1 <<< 16)) (V x2 * 256 % 4294967296) = V (x0 <<< 24 ||| x1 <<< 16 ||| x2 <<< 8) := by rw [s2]; exact V_or _ _
        have o3 : bits .or .u32 (V (x0 <<< 24 ||| x1 <<< 16 ||| x2 <<< 8)) (V x3) = V (part blk k 4) := by
          rw [part_or, V_or, hx0.out, hx1.out, hx2.out, hx3.out, hn0.out, hn1.out, hn2.out, hn3.out]
        have b1 := Lib.hid b1
        clear y0 y1 y2 y3 s0 s1 s2
        go_wp2_with fail
        refine peel_quiet_lit (.step (.step (.step (.step (.step (.step (.step (.step (.step (.step (.step (.step (.step (.step (.step (.step (.step (.step (.step (.step (.step (.step (.step (.step (.step (.step (.step (.step (.step (.step (.step (.step (.step (.step (.step (.base _)))))))))))))))))))))))))))))))))))) mixed (by kernel_rfl) (by kernel_rfl) ?_
        repeat (go_big_quiet_step (fail))
        refine wpQuiet_nil ?_
        rintro _ ⟨nq, rfl⟩
        have l0 := Lib.hid (show Blk (wr.drewN nq) w.heap.size 32 (wds s.list) from l0.out)
        have l1 := Lib.hid (show Blk (wr.drewN nq) (w.heap.size + 1) 32 (wds (zeros 8)) from l1.out)
        have l2 := Lib.hid (show Blk (wr.drewN nq) (w.heap.size + 2) 75 (wds xs) from l2.out)
        have b1 := below_drewN b1.out nq
        generalize wr.drewN nq = w4 at l0 l1 l2 b1 ⊢
        clear c0 c1 c2 c3 o1 o2 o3 ff cw
        have ff := l2.out.fr k
        have cw := l2.out.word k (by rw [hln.out]; exact hlt)
        go_wp2
        have l2' := l2.out.setWord k (part blk k 4)
        rw [show xs.set k (part blk k 4) = schN blk (k + 1) by rw [hxs.out, schN_low blk k hlo]] at l2'
        go_roundw
        case rel => exact ⟨k + 1, by omega, by go_num, l0.out.setOther _ (by omega), l1.out.setOther _ (by omega), l2', b1.setCell (p := ⟨w.heap.size + 2, k, none⟩) (by show _ ≤ w.heap.size + 2; omega) _⟩
        case measure => simp [intOf]; omega
      · have hhiI : ¬ (k : Int) < 16 := by omega
        obtain ⟨j, hj⟩ : ∃ j, 16 + j = k := ⟨k - 16, by omega⟩
        obtain ⟨n0, hn0⟩ := name_it j
        obtain ⟨n1, hn1⟩ := name_it (j + 1)
        obtain ⟨n9, hn9⟩ := name_it (j + 9)
        obtain ⟨n14, hn14⟩ := name_it (j + 14)
        have i15 : IntKind.i64.wrap ((k : Int) - 15) = (n1 : Int) := by rw [IntWalk.i64_in _ ⟨by omega, by omega⟩, hn1.out]; omega
        have i2 : IntKind.i64.wrap ((k : Int) - 2) = (n14 : Int) := by rw [IntWalk.i64_in _ ⟨by omega, by omega⟩, hn14.out]; omega
        have i16 : IntKind.i64.wrap ((k : Int) - 16) = (n0 : Int) := by rw [IntWalk.i64_in _ ⟨by omega, by omega⟩, hn0.out]; omega
        have i7 : IntKind.i64.wrap ((k : Int) - 7) = (n9 : Int) := by rw [IntWalk.i64_in _ ⟨by omega, by omega⟩, hn9.out]; omega
        have g0 : (n0 : Int) < 64 := by rw [hn0.out]; omega
        have g1 : (n1 : Int) < 64 := by rw [hn1.out]; omega
        have g9 : (n9 : Int) < 64 := by rw [hn9.out]; omega
        have g14 : (n14 : Int) < 64 := by rw [hn14.out]; omega
        obtain ⟨x0, hx0⟩ := name_it (xs.getD n0 0)
        obtain ⟨x1, hx1⟩ := name_it (xs.getD n1 0)
        obtain ⟨x9, hx9⟩ := name_it (xs.getD n9 0)
        obtain ⟨x14, hx14⟩ := name_it (xs.getD n14 0)
        have c1 := l2.out.word n1 (by rw [hln.out]; omega)
        have c14 := l2.out.word n14 (by rw [hln.out]; omega)
        rw [← hx1.out] at c1
        rw [← hx14.out] at c14
        have b1 := Lib.hid b1
        clear ff cw
        go_wp2_with fail
        go_quiet (fail)
        have l0 := Lib.hid (show Blk (wr.drewN nq) w.heap.size 32 (wds s.list) from l0.out)
        have l1 := Lib.hid (show Blk (wr.drewN nq) (w.heap.size + 1) 32 (wds (zeros 8)) from l1.out)
        have l2 := Lib.hid (show Blk (wr.drewN nq) (w.heap.size + 2) 75 (wds xs) from l2.out)
        have b1 := Lib.hid (below_drewN b1.out nq)
        generalize wr.drewN nq = w4 at l0 l1 l2 b1 ⊢
        clear c1 c14
        have c0 := l2.out.word n0 (by rw [hln.out]; omega)
        have c9 := l2.out.word n9 (by rw [hln.out]; omega)
        rw [← hx0.out] at c0
        rw [← hx9.out] at c9
        have e0 : V x1 / (8 : Int) = V (x1 >>> 3) := V_shr x1 3
        have e1 : bits .xor .u32 (V (rotI x1 7)) (V (rotI x1 18)) = V (rot x1 7 ^^^ rot x1 18) := V_xor _ _
        have e2 : bits .xor .u32 (V (rot x1 7 ^^^ rot x1 18)) (V (x1 >>> 3)) = V (sg0 x1) := V_xor _ _
        have f0 : V x14 / (1024 : Int) = V (x14 >>> 10) := V_shr x14 10
        have f1 : bits .xor .u32 (V (rotI x14 17)) (V (rotI x14 19)) = V (rot x14 17 ^^^ rot x14 19) := V_xor _ _
        have f2 : bits .xor .u32 (V (rot x14 17 ^^^ rot x14 19)) (V (x14 >>> 10)) = V (sg1 x14) := V_xor _ _
        have a1 : IntKind.u32.wrap (V x0 + V (sg0 x1)) = V (x0 + sg0 x1) := V_add _ _
        have a2 : IntKind.u32.wrap (V (x0 + sg0 x1) + V x9) = V (x0 + sg0 x1 + x9) := V_add _ _
        have a3 : IntKind.u32.wrap (V (x0 + sg0 x1 + x9) + V (sg1 x14)) = V (nextW xs j) := by
          rw [V_add, nextW, hx0.out, hx1.out, hx9.out, hx14.out, hn0.out, hn1.out, hn9.out, hn14.out]
        obtain ⟨y, hy⟩ := name_it (nextW xs j)
        rw [← hy.out] at a3
        go_wp2_with fail
        refine peel_quiet_lit (.step (.step (.step (.step (.step (.step (.step (.step (.step (.step (.step (.step (.step (.step (.step (.step (.step (.step (.step (.step (.step (.step (.step (.step (.step (.step (.step (.step (.step (.base _)))))))))))))))))))))))))))))) mixed (by kernel_rfl) (by kernel_rfl) ?_
        repeat (go_big_quiet_step ((go_at_call 57; exact Calls.quiet_of (trn _ _ _ (by decide) (by decide)))))
        refine wpQuiet_nil ?_
        rintro _ ⟨nq, rfl⟩
        have l0 := Lib.hid (show Blk (w4.drewN nq) w.heap.size 32 (wds s.list) from l0.out)
        have l1 := Lib.hid (show Blk (w4.drewN nq) (w.heap.size + 1) 32 (wds (zeros 8)) from l1.out)
        have l2 := Lib.hid (show Blk (w4.drewN nq) (w.heap.size + 2) 75 (wds xs) from l2.out)
        have b1 := below_drewN b1.out nq
        generalize w4.drewN nq = w6 at l0 l1 l2 b1 ⊢
        clear c0 c9 e0 e1 e2 f0 f1 f2 a1 a2 a3
        have ff := l2.out.fr k
        have cw := l2.out.word k (by rw [hln.out]; exact hlt)
        go_wp2
        have l2' := l2.out.setWord k y
        rw [show xs.set k y = schN blk (k + 1) by rw [hy.out, hxs.out, schN_high blk k j hj]] at l2'
        go_roundw
        case rel => exact ⟨k + 1, by omega, by go_num, l0.out.setOther _ (by omega), l1.out.setOther _ (by omega), l2', b1.setCell (p := ⟨w.heap.size + 2, k, none⟩) (by show _ ≤ w.heap.size + 2; omega) _⟩
        case measure => simp [intOf]; omega
    · obtain rfl : k = 64 := by omega
      rw [schN_all] at l2
      have hln := hln
      clear hln
      have z8 : (Tryd.prog.info? 32).map (·.size) = some (wds s.list).size := by rw [wds_size]; exact sz32
      have z8 := Lib.hid z8
      have hsz := l2.out.lt
      have ln := Lib.hid (Blk.new wr 32 (wds (zeros 8)))
      have ho8 : Hid ((wds (zeros 8)).size = (wds s.list).size) := by show _ = _; rw [wds_size, wds_size]; rfl
      have ls := Lib.hid (ln.out.setRow (wds s.list))
      have l0' := Lib.hid ((l0.out.alloc (.cells (wds (zeros 8)) 32)).rowOther (b' := wr.heap.size) (wds s.list) (by omega))
      have l1' := Lib.hid ((l1.out.alloc (.cells (wds (zeros 8)) 32)).rowOther (b' := wr.heap.size) (wds s.list) (by omega))
      have l2' := Lib.hid ((l2.out.alloc (.cells (wds (zeros 8)) 32)).rowOther (b' := wr.heap.size) (wds s.list) (by omega))
      have b2 := Lib.hid (below_setRow (g := wr.heap.size) (b1.alloc (by omega) (.cells (wds (zeros 8)) 32)) (by omega) (wds s.list))
      go_wp2_with (first
        | refine wpList_load_row rfl 32 _ rfl _ rfl 32 _ _ _ l0.out arr32 rfl z8.out ?_
        | refine wpList_store_row rfl 32 _ _ rfl _ _ rfl rfl 32 _ ln.out z8.out ho8.out (wds_one _) ?_)
      have b2 := b2.out
      have hb11 : w.heap.size + 2 < wr.heap.size := hsz
      clear l0 l1 l2 b1 ln hsz z8 ho8
      obtain ⟨b6, hb6⟩ : ∃ b, b = wr.heap.size := ⟨_, rfl⟩
      rw [← hb6] at ls l0' l1' l2' b2 hb11 ⊢
      have ls : Hid (Blk ((wr.alloc (.cells (wds (zeros 8)) 32)).setRow b6 (wds s.list)) b6 32 (wds (rnds Kc (sched blk) s 0).list)) := ls
      change Code.wp _ _ _ _ ((wr.alloc (.cells (wds (zeros 8)) 32)).setRow b6 (wds s.list))
      generalize (wr.alloc (.cells (wds (zeros 8)) 32)).setRow b6 (wds s.list) = w2 at *
      clear hb6
      go_wp2_with fail
      go_loopw [12] (fun i wr => ∃ k : Nat, k ≤ 64 ∧ i = .int .i64 k ∧ Hid (Blk wr w.heap.size 32 (wds s.list)) ∧ Hid (Blk wr (w.heap.size + 1) 32 (wds (zeros 8))) ∧ Hid (Blk wr (w.heap.size + 2) 75 (wds (sched blk))) ∧ Hid (Blk wr b6 32 (wds (rnds Kc (sched blk) s k).list)) ∧ Below w.heap.size w wr) (fun i _ => 64 - (intOf i).toNat)
      case atStart => exact ⟨0, by omega, rfl, l0', l1', l2', ls, b2⟩
      case round =>
        clear l0' l1' l2' ls b2
        obtain ⟨k, hk, rfl, l0, l2, l5, l6, b1⟩ := hrel
        by_cases hlt : k < 64
        · obtain ⟨st, hst⟩ := name_it (rnds Kc (sched blk) s k)
          rw [← hst.out] at l6
          obtain ⟨xa, xb, xc, xd, xe, xf, xg, xh⟩ := st
          have c4 : wr.cell? ⟨b6, 4, none⟩ = some (.int .u32 (V xe)) := l6.out.word 4 (show 4 < 8 by decide)
          have b1 := Lib.hid b1
          have hkI : (k : Int) < 64 := by omega
          go_wp2_with fail
          have c5 : wr.cell? ⟨b6, 5, none⟩ = some (.int .u32 (V xf)) := l6.out.word 5 (show 5 < 8 by decide)
          have c6 : wr.cell? ⟨b6, 6, none⟩ = some (.int .u32 (V xg)) := l6.out.word 6 (show 6 < 8 by decide)
          have c7 : wr.cell? ⟨b6, 7, none⟩ = some (.int .u32 (V xh)) := l6.out.word 7 (show 7 < 8 by decide)
          have gk := ((hK.out.below b1.out hkl).word k hlt)
          have gw := l5.out.word k (by rw [sched, schB_len]; exact hlt)
          obtain ⟨kk, hkk⟩ := name_it (Kc.getD k 0)
          obtain ⟨ww, hww⟩ := name_it ((sched blk).getD k 0)
          rw [← hkk.out] at gk
          rw [← hww.out] at gw
          obtain ⟨t, ht⟩ := name_it (xh + bs1 xe + cho xe xf xg + kk + ww)
          have d1 : bits .xor .u32 (V (rotI xe 6)) (V (rotI xe 11)) = V (rot xe 6 ^^^ rot xe 11) := V_xor _ _
          have d2 : bits .xor .u32 (V (rot xe 6 ^^^ rot xe 11)) (V (rotI xe 25)) = V (bs1 xe) := V_xor _ _
          have d3 : bits .and .u32 (V xe) (V xf) = V (xe &&& xf) := V_and _ _
          have d4 : bits .xor .u32 (if IntKind.u32.signed = true then -1 else IntKind.u32.max) (V xe) = V (~~~xe) := V_not _
          have d5 : bits .and .u32 (V (~~~xe)) (V xg) = V (~~~xe &&& xg) := V_and _ _
          have d6 : bits .xor .u32 (V (xe &&& xf)) (V (~~~xe &&& xg)) = V (cho xe xf xg) := V_xor _ _
          have e1 : IntKind.u32.wrap (V xh + V (bs1 xe)) = V (xh + bs1 xe) := V_add _ _
          have e2 : IntKind.u32.wrap (V (xh + bs1 xe) + V (cho xe xf xg)) = V (xh + bs1 xe + cho xe xf xg) := V_add _ _
          have e3 : IntKind.u32.wrap (V (xh + bs1 xe + cho xe xf xg) + V kk) = V (xh + bs1 xe + cho xe xf xg + kk) := V_add _ _
          have e4 : IntKind.u32.wrap (V (xh + bs1 xe + cho xe xf xg + kk) + V ww) = V t := by rw [ht.out]; exact V_add _ _
          go_quiet ((go_at_call 57; exact Calls.quiet_of (trn _ _ _ (by decide) (by decide))))
          have l0 := Lib.hid (show Blk (wr.drewN nq) w.heap.size 32 (wds s.list) from l0.out)
          have l2 := Lib.hid (show Blk (wr.drewN nq) (w.heap.size + 1) 32 (wds (zeros 8)) from l2.out)
          have l5 := Lib.hid (show Blk (wr.drewN nq) (w.heap.size + 2) 75 (wds (sched blk)) from l5.out)
          have l6 := Lib.hid (show Blk (wr.drewN nq) b6 32 (wds (St.mk xa xb xc xd xe xf xg xh).list) from l6.out)
          have b1 := Lib.hid (below_drewN b1.out nq)
          generalize wr.drewN nq = w4 at l0 l2 l5 l6 b1 ⊢
          clear c4 c5 c6 c7 gk gw d1 d2 d3 d4 d5 d6 e1 e2 e3 e4
          have c0 : w4.cell? ⟨b6, 0, none⟩ = some (.int .u32 (V xa)) := l6.out.word 0 (show 0 < 8 by decide)
          go_wp2_with fail
          have c1 : w4.cell? ⟨b6, 1, none⟩ = some (.int .u32 (V xb)) := l6.out.word 1 (show 1 < 8 by decide)
          have c2 : w4.cell? ⟨b6, 2, none⟩ = some (.int .u32 (V xc)) := l6.out.word 2 (show 2 < 8 by decide)
          obtain ⟨um, hum⟩ := name_it (bs0 xa + maj xa xb xc)
          have d1 : bits .xor .u32 (V (rotI xa 2)) (V (rotI xa 13)) = V (rot xa 2 ^^^ rot xa 13) := V_xor _ _
          have d2 : bits .xor .u32 (V (rot xa 2 ^^^ rot xa 13)) (V (rotI xa 22)) = V (bs0 xa) := V_xor _ _
          have e1 : bits .and .u32 (V xa) (V xb) = V (xa &&& xb) := V_and _ _
          have e2 : bits .and .u32 (V xa) (V xc) = V (xa &&& xc) := V_and _ _
          have e3 : bits .and .u32 (V xb) (V xc) = V (xb &&& xc) := V_and _ _
          have e4 : bits .xor .u32 (V (xa &&& xb)) (V (xa &&& xc)) = V ((xa &&& xb) ^^^ (xa &&& xc)) := V_xor _ _
          have e5 : bits .xor .u32 (V ((xa &&& xb) ^^^ (xa &&& xc))) (V (xb &&& xc)) = V (maj xa xb xc) := V_xor _ _
          have e6 : IntKind.u32.wrap (V (bs0 xa) + V (maj xa xb xc)) = V um := by rw [hum.out]; exact V_add _ _
          go_quiet ((go_at_call 57; exact Calls.quiet_of (trn _ _ _ (by decide) (by decide))))
          have l0 := Lib.hid (show Blk (w4.drewN nq) w.heap.size 32 (wds s.list) from l0.out)
          have l2 := Lib.hid (show Blk (w4.drewN nq) (w.heap.size + 1) 32 (wds (zeros 8)) from l2.out)
          have l5 := Lib.hid (show Blk (w4.drewN nq) (w.heap.size + 2) 75 (wds (sched blk)) from l5.out)
          have l6 := Lib.hid (show Blk (w4.drewN nq) b6 32 (wds (St.mk xa xb xc xd xe xf xg xh).list) from l6.out)
          have b1 := Lib.hid (below_drewN b1.out nq)
          generalize w4.drewN nq = w8 at l0 l2 l5 l6 b1 ⊢
          clear c0 c1 c2 d1 d2 e1 e2 e3 e4 e5 e6
          have c0 : w8.cell? ⟨b6, 0, none⟩ = some (.int .u32 (V xa)) := l6.out.word 0 (show 0 < 8 by decide)
          have c1 : w8.cell? ⟨b6, 1, none⟩ = some (.int .u32 (V xb)) := l6.out.word 1 (show 1 < 8 by decide)
          have c2 : w8.cell? ⟨b6, 2, none⟩ = some (.int .u32 (V xc)) := l6.out.word 2 (show 2 < 8 by decide)
          have c3 : w8.cell? ⟨b6, 3, none⟩ = some (.int .u32 (V xd)) := l6.out.word 3 (show 3 < 8 by decide)
          have c4 : w8.cell? ⟨b6, 4, none⟩ = some (.int .u32 (V xe)) := l6.out.word 4 (show 4 < 8 by decide)
          have c5 : w8.cell? ⟨b6, 5, none⟩ = some (.int .u32 (V xf)) := l6.out.word 5 (show 5 < 8 by decide)
          have c6 : w8.cell? ⟨b6, 6, none⟩ = some (.int .u32 (V xg)) := l6.out.word 6 (show 6 < 8 by decide)
          have e7 : IntKind.u32.wrap (V t + V um) = V (t + um) := V_add _ _
          have e8 : IntKind.u32.wrap (V xd + V t) = V (xd + t) := V_add _ _
          have b1 := b1.out
          go_wp2_with (refine wpList_store_row rfl 32 _ _ rfl b6 (wds (St.mk (t + um) xa xb xc (xd + t) xe xf xg).list) rfl rfl 32 _ l6.out sz32 rfl (wds_one _) ?_)
          have l6' := l6.out.setRow (wds (St.mk (t + um) xa xb xc (xd + t) xe xf xg).list)
          rw [show St.mk (t + um) xa xb xc (xd + t) xe xf xg = rnds Kc (sched blk) s (k + 1) by
            rw [rnds, ← hst.out, ← hkk.out, ← hww.out, ht.out, hum.out, ← BitVec.add_assoc]; rfl] at l6' ⊢
          go_roundw
          case rel => exact ⟨k + 1, by omega, by go_num, l0.out.rowOther _ (by omega), l2.out.rowOther _ (by omega), l5.out.rowOther _ (by omega), l6', below_setRow b1 (by omega) _⟩
          case measure => simp [intOf]; omega
        · obtain rfl : k = 64 := by omega
          clear l5
          obtain ⟨st, hst⟩ := name_it (rnds Kc (sched blk) s 64)
          rw [← hst.out] at l6
          go_wp2_with fail
          go_loopw [17] (fun i wr => ∃ k : Nat, k ≤ 8 ∧ i = .int .i64 k ∧ Hid (Blk wr b6 32 (wds (addN st.list s.list k))) ∧ Hid (Blk wr (w.heap.size + 1) 32 (wds (zeros 8))) ∧ Hid (Blk wr w.heap.size 32 (wds s.list)) ∧ Below w.heap.size w wr) (fun i _ => 8 - (intOf i).toNat)
          case atStart => exact ⟨0, by omega, rfl, l6, l2, l0, b1⟩
          case round =>
            obtain ⟨k, hk, rfl, l6, l2, l0, b1⟩ := hrel
            have hln : (addN st.list s.list k).length = 8 := addN_len _ _ _
            by_cases hlt : k < 8
            · have hk8 : (k : Int) < 8 := by omega
              obtain ⟨x, hx'⟩ := name_it ((addN st.list s.list k).getD k 0)
              obtain ⟨y, hy⟩ := name_it (s.list.getD k 0)
              have c6 := l6.out.word k (by omega)
              have f6 := l6.out.fr k
              have c0 := l0.out.word k hlt
              rw [← hx'.out] at c6
              rw [← hy.out] at c0
              have e1 : IntKind.u32.wrap (V x + V y) = V (x + y) := V_add _ _
              have b1 := Lib.hid b1
              go_wp2
              go_region
              go_wp2
              have b1 := b1.out
              have l6' := l6.out.setWord k (x + y)
              rw [show (addN st.list s.list k).set k (x + y) = addN st.list s.list (k + 1) by rw [addN, hx'.out, hy.out]] at l6'
              have bb := b1.setCell (p := ⟨b6, k, none⟩) (by show _ ≤ b6; omega) (.int .u32 (V (x + y)))
              have l2' := l2.out.setOther (b' := b6) (o := k) (.int .u32 (V (x + y))) (by omega)
              have l0' := l0.out.setOther (b' := b6) (o := k) (.int .u32 (V (x + y))) (by omega)
              go_roundw
              case rel => exact ⟨k + 1, by omega, by go_num, l6', l2', l0', bb.drew⟩
              case measure => simp [intOf]; omega
            · obtain rfl : k = 8 := by omega
              rw [addN_all] at l6
              have hout : st.add s = r := by rw [hst.out, hr.out, add_comm]; rfl
              rw [hout] at l6
              have z8 : (Tryd.prog.info? 32).map (·.size) = some (wds r.list).size := by rw [wds_size]; exact sz32
              have z8 := Lib.hid z8
              have ho8 : Hid ((wds (zeros 8)).size = (wds r.list).size) := by show _ = _; rw [wds_size, wds_size]; rfl
              have l3 := Lib.hid (l2.out.setRow (wds r.list))
              have b3 := Lib.hid (below_setRow b1 (show w.heap.size ≤ w.heap.size + 1 by omega) (wds r.list))
              go_wp2_with (first
                | refine wpList_load_row rfl 32 _ rfl _ rfl 32 _ _ _ l6.out arr32 rfl z8.out ?_
                | refine wpList_store_row rfl 32 _ _ rfl _ _ rfl rfl 32 _ l2.out z8.out ho8.out (wds_one _) ?_)
              have l3 := l3.out
              have b3 := b3.out
              generalize wr.setRow (w.heap.size + 1) (wds r.list) = w9 at l3 b3 ⊢
              exact bodyPost_ret (results_cell_row rfl _ _ _ 32 _ _ _ rfl l3 arr32 rfl z8.out) rfl ⟨rfl, b3⟩
end Go.Proofs.YtikmfaeiecpncaaDoor
