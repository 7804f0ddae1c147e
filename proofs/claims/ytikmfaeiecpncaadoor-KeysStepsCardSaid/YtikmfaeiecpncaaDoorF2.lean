/- The reference's step of a block by value; its constants. -/
import Derived.Test.YtikmfaeiecpncaaDoorF
import Derived.Test.YtikmfaeiecpncaaDoorF1
namespace Go.Proofs.YtikmfaeiecpncaaDoor
open Go.RowKit

set_option maxHeartbeats 400000 in
theorem refStep_any (s : St) (blk : List Int) (w : World) (hx : blk.length = 64) (hb : ∀ i, 0 ≤ blk.getD i 0 ∧ blk.getD i 0 ≤ 255) :
    Calls Tryd.prog 21 #[.agg (wds s.list), .agg (bys blk)] w fun e w' => e = .returned (.agg (wds (comp s blk).list)) ∧ Below w.heap.size w w' := by
  obtain ⟨r, hr⟩ := name_it (comp s blk)
  rw [← hr.out]
  have l0 := Blk.new w 32 (wds s.list)
  have l1 := Blk.new (w.alloc (.cells (wds s.list) 32)) 33 (bys blk)
  have l2 := Blk.new ((w.alloc (.cells (wds s.list) 32)).alloc (.cells (bys blk) 33)) 32 (wds (zeros 8))
  go_enter Tryd.func21, Tryd.ntmps21
  go_wp2_with fail
  refine (consts_any _).mono ?_
  rintro e w1 ⟨rfl, hb1⟩
  have z8 : (Tryd.prog.info? 75).map (·.size) = some (wds Kc).size := by rw [wds_size]; exact sz75
  have z8 := Lib.hid z8
  have hs : Hid ((wds (zeros 64)).size = (wds Kc).size) := by show _ = _; rw [wds_size, wds_size]; rfl
  have l0 := (l0.alloc (.cells (bys blk) 33)).alloc (.cells (wds (zeros 8)) 32)
  have l1 := l1.alloc (.cells (wds (zeros 8)) 32)
  have b0 := (((Below.refl w.heap.size w).alloc (Nat.le_refl _) (.cells (wds s.list) 32)).alloc (by simp) (.cells (bys blk) 33)).alloc (by simp; omega) (.cells (wds (zeros 8)) 32)
  rw [show (w.alloc (.cells (wds s.list) 32)).heap.size = w.heap.size + 1 by simp] at l1
  rw [show ((w.alloc (.cells (wds s.list) 32)).alloc (.cells (bys blk) 33)).heap.size = w.heap.size + 1 + 1 by simp] at l2
  change Below (((w.alloc (.cells (wds s.list) 32)).alloc (.cells (bys blk) 33)).alloc (.cells (wds (zeros 8)) 32)).heap.size (((w.alloc (.cells (wds s.list) 32)).alloc (.cells (bys blk) 33)).alloc (.cells (wds (zeros 8)) 32)) w1 at hb1
  have hz : (((w.alloc (.cells (wds s.list) 32)).alloc (.cells (bys blk) 33)).alloc (.cells (wds (zeros 8)) 32)).heap.size = w.heap.size + 3 := by simp
  generalize ((w.alloc (.cells (wds s.list) 32)).alloc (.cells (bys blk) 33)).alloc (.cells (wds (zeros 8)) 32) = w0 at l0 l1 l2 b0 hb1 hz
  have b1 := b0.trans (hb1.mono (by omega))
  have l0 := l0.below hb1 l0.lt
  have l1 := l1.below hb1 l1.lt
  have l2 := l2.below hb1 l2.lt
  have hsz := l2.lt
  have ln := Blk.new w1 75 (wds (zeros 64))
  have ls := ln.setRow (wds Kc)
  have l0 := (l0.alloc (.cells (wds (zeros 64)) 75)).rowOther (b' := w1.heap.size) (wds Kc) (by omega)
  have l1 := (l1.alloc (.cells (wds (zeros 64)) 75)).rowOther (b' := w1.heap.size) (wds Kc) (by omega)
  have l2 := (l2.alloc (.cells (wds (zeros 64)) 75)).rowOther (b' := w1.heap.size) (wds Kc) (by omega)
  have b1 := below_setRow (g := w1.heap.size) (b1.alloc (by omega) (.cells (wds (zeros 64)) 75)) (by omega) (wds Kc)
  have b1 := Lib.hid b1
  have l0 := Lib.hid l0
  have l1 := Lib.hid l1
  have l2 := Lib.hid l2
  have ls := Lib.hid ls
  have ln := Lib.hid ln
  clear hb1 hz b0
  go_wp2_with (refine wpList_store_row rfl 75 _ _ rfl w1.heap.size (wds Kc) rfl rfl 75 _ ln.out z8.out hs.out (wds_one _) ?_)
  obtain ⟨b5, hb5⟩ : ∃ b, b = w1.heap.size := ⟨_, rfl⟩
  rw [← hb5] at ls l0 l1 l2 b1 hsz ⊢
  change Code.wp _ _ _ _ ((w1.alloc (.cells (wds (zeros 64)) 75)).setRow b5 (wds Kc))
  generalize (w1.alloc (.cells (wds (zeros 64)) 75)).setRow b5 (wds Kc) = w2 at ls l0 l1 l2 b1 ⊢
  clear hb5 ln
  refine region_rel_lit (.step (.step (.step (.base _)))) (fun i _ v => match i with
    | 0 => v = .agg (wds s.list)
    | 1 => v = .slice (some ⟨w.heap.size + 1, 0, none⟩) 64 64
    | _ => v = .agg (wds r.list)) mixed (by kernel_rfl) (by kernel_rfl) ?_ ?_ ?_
  · rintro (_ | _ | i) w w' v h _ <;> exact h
  · intro i oi hoi x w3 hb3 hd
    rcases i with _ | _ | _ | i
    · obtain rfl := Option.some.inj hoi
      simp only [fill, Act.put, List.setIfInBounds_toArray, List.set_cons_succ, List.set_cons_zero]
      go_wp2_with (refine wpList_load_row rfl 32 _ rfl _ rfl 32 _ _ _ (l0.out.below hb3 l0.out.lt) arr32 rfl (by rw [wds_size]; exact sz32) ?_)
      exact ⟨_, rfl, Below.refl _ _, rfl⟩
    · obtain rfl := Option.some.inj hoi
      simp only [fill, Act.put, List.setIfInBounds_toArray, List.set_cons_succ, List.set_cons_zero]
      have e1 := slice_all arr33 len33 el33 (w.heap.size + 1) 0 w3
      go_wp2_with fail
      exact ⟨_, rfl, Below.refl _ _, rfl⟩
    · obtain rfl := Option.some.inj hoi
      have h0 : x 0 = .agg (wds s.list) := hd 0 (by kernel_rfl)
      have h1 : x 1 = .slice (some ⟨w.heap.size + 1, 0, none⟩) 64 64 := hd 1 (by kernel_rfl)
      simp only [fill, Act.put, List.setIfInBounds_toArray, List.set_cons_succ, List.set_cons_zero, h0, h1]
      go_wp2_with fail
      refine (rstep_any s blk _ b5 w3 hx hb ((l1.out.below hb3 l1.out.lt).nums 64 hx (by omega)) (ls.out.below hb3 ls.out.lt)).mono ?_
      rintro e w4 ⟨rfl, hb4⟩
      go_wp2_with fail
      exact ⟨_, rfl, hb4, by rw [hr.out]⟩
    · cases hoi
  · intro x w3 hb3 hd
    have h2 : x 2 = .agg (wds r.list) := hd 2 (by decide)
    have z8 : (Tryd.prog.info? 32).map (·.size) = some (wds r.list).size := by rw [wds_size]; exact sz32
    have z8 := Lib.hid z8
    have ho8 : Hid ((wds (zeros 8)).size = (wds r.list).size) := by show _ = _; rw [wds_size, wds_size]; rfl
    have l2 := l2.out.below hb3 l2.out.lt
    have l3 := Lib.hid (l2.setRow (wds r.list))
    have b3 := Lib.hid (below_setRow (b1.out.trans (hb3.mono (by have := b1.out.size; omega))) (show w.heap.size ≤ w.heap.size + 1 + 1 by omega) (wds r.list))
    simp only [fill, Act.put, List.setIfInBounds_toArray, List.set_cons_succ, List.set_cons_zero, h2]
    go_wp2_with (refine wpList_store_row rfl 32 _ _ rfl _ _ rfl rfl 32 _ l2 z8.out ho8.out (wds_one _) ?_)
    have l3 := l3.out
    have b3 := b3.out
    generalize w3.setRow (w.heap.size + 1 + 1) (wds r.list) = w9 at l3 b3 ⊢
    exact bodyPost_ret (results_cell_row rfl _ _ _ 32 _ _ _ rfl l3 arr32 rfl z8.out) rfl ⟨rfl, b3⟩
end Go.Proofs.YtikmfaeiecpncaaDoor
