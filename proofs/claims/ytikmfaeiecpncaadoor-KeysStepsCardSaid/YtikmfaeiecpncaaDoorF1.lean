/- The reference's constants; an array of bytes sliced whole. -/
import Derived.Test.YtikmfaeiecpncaaDoorE
namespace Go.Proofs.YtikmfaeiecpncaaDoor
open Go.RowKit

theorem start_any (w : World) : Calls Tryd.prog 24 #[] w fun e w' => e = .returned (.agg (wds H0.list)) ∧ Below w.heap.size w w' := by
  have ln := Blk.new w 32 (wds (zeros 8))
  have b1 := (Below.refl w.heap.size w).alloc (Nat.le_refl _) (.cells (wds (zeros 8)) 32)
  have z8 : (Tryd.prog.info? 32).map (·.size) = some (wds H0.list).size := by rw [wds_size]; exact sz32
  go_enter Tryd.func24, Tryd.ntmps24
  go_wp2_with (refine wpList_store_row rfl 32 _ _ rfl w.heap.size (wds H0.list) rfl rfl 32 _ ln z8 rfl (wds_one _) ?_)
  exact bodyPost_ret (results_cell_row rfl _ _ _ 32 _ _ _ rfl (ln.setRow (wds H0.list)) arr32 rfl z8) rfl ⟨rfl, below_setRow b1 (Nat.le_refl _) _⟩
set_option maxRecDepth 100000 in
set_option maxHeartbeats 1000000 in
theorem consts_any (w : World) : Calls Tryd.prog 49 #[] w fun e w' => e = .returned (.agg (wds Kc)) ∧ Below w.heap.size w w' := by
  have z8 : (Tryd.prog.info? 75).map (·.size) = some (wds Kc).size := by rw [wds_size]; exact sz75
  obtain ⟨K, hK⟩ : ∃ K, K = wds Kc := ⟨_, rfl⟩
  have h1 : K.all (·.oneCell') = true := by rw [hK]; exact wds_one _
  have hs : (wds (zeros 64)).size = K.size := by rw [hK, wds_size, wds_size]; rfl
  rw [← hK] at z8 ⊢
  have hK := Lib.hid hK
  have ln := Blk.new w 75 (wds (zeros 64))
  have b1 := (Below.refl w.heap.size w).alloc (Nat.le_refl _) (.cells (wds (zeros 64)) 75)
  go_enter Tryd.func49, Tryd.ntmps49
  go_wp2_with (refine wpList_store_row rfl 75 _ _ rfl w.heap.size K rfl (by rw [hK.out]; kernel_rfl) 75 _ ln z8 hs h1 ?_)
  exact bodyPost_ret (results_cell_row rfl _ _ _ 75 _ _ _ rfl (ln.setRow K) arr75 rfl z8) rfl ⟨rfl, below_setRow b1 (Nat.le_refl _) _⟩
theorem Blk.nums {w : World} {b : Nat} {ty : TypeId} {xs : List Int} (h : Blk w b ty (bys xs)) (n : Nat) (hn : xs.length = n) (hm : n ≤ 1000000) : NumsAt .u8 w (.slice (some ⟨b, 0, none⟩) n n) xs := by
  subst hn
  exact ⟨_, _, rfl, Nat.le_refl _, by omega, fun h => (by cases h), .inr ⟨b, 0, rfl, fun i hi => by rw [Nat.zero_add]; exact h.byte i hi⟩⟩
theorem slice_all {t : TypeId} {n : Nat} (hu : Tryd.prog.underlying t = some (.array n 5)) (hl : Tryd.prog.arrayLen t = n) (he : Tryd.prog.elem t = 5) (b o : Nat) (w : World) :
    (Instr.sliceAt t (.pointer (some ⟨b, o, none⟩)) none none none).run Tryd.prog w = .ok (.slice (some ⟨b, o, none⟩) n n) w := by
  rw [run_sliceAt_array_all w t ⟨b, o, none⟩ (by rw [hl, he]; exact hu), he, size5, hl]
  simp [Result.andThen, slicedAt, add_plain]
end Go.Proofs.YtikmfaeiecpncaaDoor
