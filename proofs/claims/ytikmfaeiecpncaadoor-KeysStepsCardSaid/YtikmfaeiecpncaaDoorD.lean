/- The schedule of a block. -/
import Derived.Test.YtikmfaeiecpncaaDoorS
import Derived.BigRegion
namespace Go.Proofs.YtikmfaeiecpncaaDoor
open Go.RowKit

theorem quiet_left {P : Program} {f : FuncId} {args : Array Value} {w : World} {n : Nat} {v : Value}
    (h : Calls P f args (w.drewN n) fun e w' => e = .returned v ∧ w.drewN n = w') : Calls P f args (w.drewN n) fun e w'' => e = .returned v ∧ ∃ m, w'' = w.drewN m :=
  h.mono fun _ _ ⟨he, hm⟩ => ⟨he, n, hm.symm⟩

def rotI (x : BitVec 32) (m : Int) : BitVec 32 := rot x m.toNat
theorem rgt (x : BitVec 32) (m : Int) (w : World) (h1 : 1 ≤ m) (h2 : m ≤ 31) :
    Calls Tryd.prog 52 #[.int .u32 (V x), .int .i64 m] w fun e w' => e = .returned (.int .u32 (V (rotI x m))) ∧ w = w' := by
  have := right_any x m.toNat w (by omega) (by omega)
  rwa [Int.toNat_of_nonneg (by omega)] at this
theorem trn (x : BitVec 32) (m : Int) (w : World) (h1 : 1 ≤ m) (h2 : m ≤ 31) :
    Calls Tryd.prog 57 #[.int .u32 (V x), .int .i64 m] w fun e w' => e = .returned (.int .u32 (V (rotI x m))) ∧ ∃ n, w' = w.drewN n := by
  have := turn_any x m.toNat w (by omega) (by omega)
  rwa [Int.toNat_of_nonneg (by omega)] at this
theorem getD_set_self (xs : Ws) (k : Nat) (v : BitVec 32) (h : k < xs.length) : (xs.set k v).getD k 0 = v := by
  simp only [List.getD, List.getElem?_set_self h, Option.getD_some]
theorem size5 (w : World) : (sizeOf 5).run Tryd.prog w = .ok 1 w := by
  obtain ⟨i0, hi, _, hz1, _⟩ := info_parts info5
  simp [sizeOf, typeInfo, hi, hz1]
theorem add_plain (b o n : Nat) : (Addr.add ⟨b, o, none⟩ n) = ⟨b, o + n, none⟩ := by
  unfold Addr.add
  split
  · rename_i h0; subst h0; rfl
  · rfl
theorem slice33 (b k : Nat) (w : World) (hk : k < 16) :
    (Instr.sliceAt 33 (.pointer (some ⟨b, 0, none⟩)) (some (.int .i64 (4 * (k : Int)))) (some (.int .i64 (4 * (k : Int) + 4))) none).run Tryd.prog w = .ok (.slice (some ⟨b, 4 * k, none⟩) 4 (64 - 4 * k)) w := by
  have e1 : (4 * (k : Int)).toNat = 4 * k := by omega
  have e2 : (4 * (k : Int) + 4).toNat = 4 * k + 4 := by omega
  have e3 : 4 * k + 4 - 4 * k = 4 := by omega
  rw [run_sliceAt_array_lh w 33 ⟨b, 0, none⟩ (by rw [len33, el33]; exact arr33) .i64 .i64 _ _ (by omega) (by omega) (by rw [len33]; omega), el33, size5, len33]
  simp only [Result.andThen, slicedAt, e1, e2, e3, Nat.mul_one, add_plain, Nat.zero_add]
  rw [if_neg (by omega)]

set_option maxHeartbeats 800000 in
theorem sched_any (blk : List Int) (w : World) (hx : blk.length = 64) (hb : ∀ i, 0 ≤ blk.getD i 0 ∧ blk.getD i 0 ≤ 255) :
    Calls Tryd.prog 51 #[.agg (bys blk)] w fun e w' => e = .returned (.agg (wds (sched blk))) ∧ Below w.heap.size w w' := by
  go_enter Tryd.func51, Tryd.ntmps51
  go_wp2_with fail
  go_loopw [9] (fun i wr => ∃ k : Nat, k ≤ 16 ∧ i = .int .i64 k ∧ Hid (Blk wr w.heap.size 33 (bys blk)) ∧ Hid (Blk wr (w.heap.size + 1) 75 (wds (schA blk k))) ∧ Below w.heap.size w wr) (fun i _ => 16 - (intOf i).toNat)
  case atStart =>
    have h1 := (Blk.new w 33 (bys blk)).alloc (.cells (wds (schA blk 0)) 75)
    have h2 := Blk.new (w.alloc (.cells (bys blk) 33)) 75 (wds (schA blk 0))
    rw [show (w.alloc (.cells (bys blk) 33)).heap.size = w.heap.size + 1 by simp] at h2
    exact ⟨0, by omega, rfl, h1, h2, ((Below.refl _ _).alloc (Nat.le_refl _) _).alloc (by simp) _⟩
  case round =>
    obtain ⟨k, hk, rfl, l1, l2, b1⟩ := hrel
    by_cases hlt : k < 16
    · have hsl := slice33 w.heap.size k wr hlt
      go_wp2_with fail
      go_loopw [19] (fun i wr => ∃ j : Nat, j ≤ 4 ∧ i = .int .i64 j ∧ Hid (Blk wr w.heap.size 33 (bys blk)) ∧ Hid (Blk wr (w.heap.size + 1) 75 (wds ((schA blk k).set k (part blk k j)))) ∧ Below w.heap.size w wr) (fun i _ => 4 - (intOf i).toNat)
      case atStart =>
        refine ⟨0, by omega, rfl, l1, ?_, b1⟩
        show Blk _ _ _ _
        rw [part, schA_set0 blk k (by omega)]
        exact l2.out
      case round =>
        obtain ⟨j, hj, rfl, l3, l4, b3⟩ := hrel
        clear l1 l2 b1 hsl
        by_cases hlt2 : j < 4
        · obtain ⟨x, hx⟩ := name_it (blk.getD (4 * k + j) 0)
          obtain ⟨p, hp⟩ := name_it (part blk k j)
          obtain ⟨x0, x1⟩ := hb (4 * k + j)
          rw [← hx.out] at x0 x1
          have c1 := l3.out.byte (4 * k + j) (by omega)
          have c2 := l4.out.word k (by simp [schA_len]; omega)
          have f2 := l4.out.fr k
          rw [← hx.out] at c1
          rw [getD_set_self _ _ _ (by rw [schA_len]; omega), ← hp.out] at c2
          have eo : bits .or .u32 (V p * 256 % 4294967296) x = V (part blk k (j + 1)) := by
            rw [part, ← hp.out, byteW, ← hx.out, ← V_or, V_byte x x0 x1, ← V_shl, IntKind.wrap_u32']; rfl
          have eo := Lib.hid eo
          have hb3 := b3.setCell (p := ⟨w.heap.size + 1, k, none⟩) (by show _ ≤ w.heap.size + 1; omega) (.int .u32 (V (part blk k (j + 1))))
          go_wp2_with fail
          have l5 := l3.out.setOther (b' := w.heap.size + 1) (o := k) (.int .u32 (V (part blk k (j + 1)))) (by omega)
          have l6 := l4.out.setWord k (part blk k (j + 1))
          rw [List.set_set] at l6
          go_roundw
          case rel => exact ⟨j + 1, by omega, by go_num, l5, l6, hb3⟩
          case measure => simp [intOf]; omega
        · obtain rfl : j = 4 := by omega
          go_wp2_with fail
          go_roundw
          case rel => exact ⟨k + 1, by omega, by go_num, l3, l4, b3⟩
          case measure => simp [intOf]; omega
    · obtain rfl : k = 16 := by omega
      go_wp2_with fail
      go_loopw [6] (fun i wr => ∃ k : Nat, k ≤ 48 ∧ i = .int .i64 ((16 + k : Nat) : Int) ∧ Hid (Blk wr (w.heap.size + 1) 75 (wds (schB blk k))) ∧ Below w.heap.size w wr) (fun i _ => 64 - (intOf i).toNat)
      case atStart => exact ⟨0, by omega, rfl, l2, b1⟩
      case round =>
        obtain ⟨k, hk, rfl, l3, b3⟩ := hrel
        clear l1 l2 b1
        have hln := schB_len blk k
        by_cases hlt : k < 48
        · obtain ⟨n1, hn1⟩ := name_it (k + 1)
          obtain ⟨n9, hn9⟩ := name_it (k + 9)
          obtain ⟨n14, hn14⟩ := name_it (k + 14)
          obtain ⟨x0, hx0⟩ := name_it ((schB blk k).getD k 0)
          obtain ⟨x1, hx1⟩ := name_it ((schB blk k).getD n1 0)
          obtain ⟨x9, hx9⟩ := name_it ((schB blk k).getD n9 0)
          obtain ⟨x14, hx14⟩ := name_it ((schB blk k).getD n14 0)
          have b0 : (k : Int) < 64 := by omega
          have b1 : (n1 : Int) < 64 := by rw [hn1.out]; omega
          have b9 : (n9 : Int) < 64 := by rw [hn9.out]; omega
          have b14 : (n14 : Int) < 64 := by rw [hn14.out]; omega
          have c1 := l3.out.word n1 (by omega)
          rw [← hx1.out] at c1
          have i15 : IntKind.i64.wrap (16 + (k : Int) - 15) = (n1 : Int) := by rw [IntWalk.i64_in _ ⟨by omega, by omega⟩, hn1.out]; omega
          have i2 : IntKind.i64.wrap (16 + (k : Int) - 2) = (n14 : Int) := by rw [IntWalk.i64_in _ ⟨by omega, by omega⟩, hn14.out]; omega
          have i16 : IntKind.i64.wrap (16 + (k : Int) - 16) = (k : Int) := by rw [IntWalk.i64_in _ ⟨by omega, by omega⟩]; omega
          have i7 : IntKind.i64.wrap (16 + (k : Int) - 7) = (n9 : Int) := by rw [IntWalk.i64_in _ ⟨by omega, by omega⟩, hn9.out]; omega
          have e0 : V x1 / (8 : Int) = V (x1 >>> 3) := V_shr x1 3
          have e1 : bits .xor .u32 (V (rotI x1 7)) (V (rotI x1 18)) = V (rot x1 7 ^^^ rot x1 18) := V_xor _ _
          have e2 : bits .xor .u32 (V (rot x1 7 ^^^ rot x1 18)) (V (x1 >>> 3)) = V (sg0 x1) := V_xor _ _
          go_wp2_with fail
          go_quiet ((go_at_call 52; exact quiet_left (rgt _ _ _ (by decide) (by decide))))
          go_wp2
          have l4 := Lib.hid (show Blk (wr.drewN nq) (w.heap.size + 1) 75 (wds (schB blk k)) from l3.out)
          have b4 := below_drewN b3 nq
          generalize wr.drewN nq = w4 at l4 b4 ⊢
          clear l3 b3 c1
          have c14 := l4.out.word n14 (by omega)
          rw [← hx14.out] at c14
          have f0 : V x14 / (1024 : Int) = V (x14 >>> 10) := V_shr x14 10
          have f1 : bits .xor .u32 (V (rotI x14 17)) (V (rotI x14 19)) = V (rot x14 17 ^^^ rot x14 19) := V_xor _ _
          have f2 : bits .xor .u32 (V (rot x14 17 ^^^ rot x14 19)) (V (x14 >>> 10)) = V (sg1 x14) := V_xor _ _
          go_wp2
          go_quiet ((go_at_call 52; exact quiet_left (rgt _ _ _ (by decide) (by decide))))
          go_wp2
          have l5 := Lib.hid (show Blk (w4.drewN nq) (w.heap.size + 1) 75 (wds (schB blk k)) from l4.out)
          have b5 := below_drewN b4 nq
          generalize w4.drewN nq = w5 at l5 b5 ⊢
          clear l4 b4 c14
          have c0 := l5.out.word k (by omega)
          have c9 := l5.out.word n9 (by omega)
          rw [← hx0.out] at c0
          rw [← hx9.out] at c9
          have a1 : IntKind.u32.wrap (V x0 + V (sg0 x1)) = V (x0 + sg0 x1) := V_add _ _
          have a2 : IntKind.u32.wrap (V (x0 + sg0 x1) + V x9) = V (x0 + sg0 x1 + x9) := V_add _ _
          have a3 : IntKind.u32.wrap (V (x0 + sg0 x1 + x9) + V (sg1 x14)) = V (nextW (schB blk k) k) := by
            rw [V_add, nextW, ← hx0.out, ← hn1.out, ← hn9.out, ← hn14.out, ← hx1.out, ← hx9.out, ← hx14.out]
          have a3 := Lib.hid a3
          have ff := l5.out.fr (16 + k)
          have cw := l5.out.word (16 + k) (by omega)
          go_wp2
          go_region
          go_wp2
          have l6 := (l5.out.setWord (16 + k) (nextW (schB blk k) k))
          have b6 := b5.setCell (p := ⟨w.heap.size + 1, 16 + k, none⟩) (by show _ ≤ w.heap.size + 1; omega) (.int .u32 (V (nextW (schB blk k) k)))
          go_roundw
          case rel => exact ⟨k + 1, by omega, by go_num, l6, b6.drew⟩
          case measure => simp [intOf]; omega
        · obtain rfl : k = 48 := by omega
          have hsz : (Tryd.prog.info? 75).map (·.size) = some (wds (schB blk 48)).size := by rw [wds_size, hln]; exact sz75
          have hsz := Lib.hid hsz
          go_wp2_with (first
            | refine wpList_load_row rfl 75 _ rfl _ rfl 75 _ _ _ l3.out arr75 rfl hsz.out ?_
            | refine wpList_store_row rfl 75 _ _ rfl _ _ rfl rfl 75 _ l3.out hsz.out rfl (wds_one _) ?_)
          rw [setRow_self _ _ _ _ _ l3.out]
          exact bodyPost_ret (results_cell_row rfl _ _ _ 75 _ _ _ rfl l3.out arr75 rfl hsz.out) rfl ⟨rfl, b3⟩
end Go.Proofs.YtikmfaeiecpncaaDoor
