/- The contract of 'awake': it returns true. -/
import Derived.Test.YtneclkneglgfdaaC
namespace Go.Proofs.Ytneclkneglgfdaa
open Go.RowKit Go.Maps

theorem sl8 : slotsL 0 [] 0 8 = [0, 4, 8] := by decide
theorem sl8' : slotsL 1 [] 0 8 = [2, 6] := by decide

set_option maxHeartbeats 1000000 in
theorem awake_any (w : World) : Calls Try.prog 8 #[] w fun e w' => e = .returned (.bool true) ∧ Below w.heap.size w w' := by
  go_enter Try.func8, Try.ntmps8
  go_wp2_with fail
  refine (new_lad 0 _).mono ?_
  rintro e w1 ⟨rfl, l1, b1, s1⟩
  go_wp2_with fail
  refine (slot_any _ _ 0 1 [] _ l1 (by omega) (by omega)).mono ?_
  rintro e w2 ⟨rfl, b2⟩
  have l2 := l1.below b2 (by omega) (by omega)
  have b2' := b1.trans (b2.mono (by omega))
  have s2 := b2.size
  clear l1 b1 b2
  rw [show slotB 0 [] 1 = false by decide]
  go_wp2_with fail
  refine (slot_any _ _ 0 4 [] _ l2 (by omega) (by omega)).mono ?_
  rintro e w3 ⟨rfl, b3⟩
  have l3 := l2.below b3 (by omega) (by omega)
  have b3' := b2'.trans (b3.mono (by omega))
  have s3 := b3.size
  clear l2 b2' b3
  rw [show slotB 0 [] 4 = true by decide]
  go_wp2_with fail
  refine (ask_any _ _ 0 1 [] _ l3 (by simp) (by omega) (by omega)).mono ?_
  rintro e w4 ⟨rfl, l4, g4⟩
  have b4 := b3'.grown g4 (by omega) (fun j hj => by cases hj; exact Nat.le_refl _)
  have s4 := g4.size
  clear l3 b3' g4
  go_wp2_with fail
  refine (slot_any _ _ 0 1 _ _ l4 (by omega) (by omega)).mono ?_
  rintro e w5 ⟨rfl, b5⟩
  have l5 := l4.below b5 (by omega) (by omega)
  have b5' := b4.trans (b5.mono (by omega))
  have s5 := b5.size
  clear l4 b4 b5
  rw [show slotB 0 ([] ++ [1]) 1 = true by decide]
  go_wp2_with fail
  refine (busy_any _ _ 0 24 _ _ l5 (by omega) (by omega)).mono ?_
  rintro e w6 ⟨rfl, b6⟩
  have l6 := l5.below b6 (by omega) (by omega)
  have b6' := b5'.trans (b6.mono (by omega))
  have s6 := b6.size
  clear l5 b5' b6
  rw [show busyB ([] ++ [1]) 24 = true by decide]
  go_wp2_with fail
  refine (busy_any _ _ 0 25 _ _ l6 (by omega) (by omega)).mono ?_
  rintro e w7 ⟨rfl, b7⟩
  have b7' := b6'.trans (b7.mono (by omega))
  have s7 := b7.size
  clear l6 b6' b7
  rw [show busyB ([] ++ [1]) 25 = false by decide]
  go_wp2_with fail
  refine (slots_any 0 0 8 _ [] _ (nums_nil _ _) (by simp) (fun x hx => by cases hx) (by omega) (by omega) (by omega) (by omega)).mono ?_
  rintro e w8 ⟨v, rfl, o8, b8⟩
  have b8' := b7'.trans (b8.mono (by omega))
  have s8 := b8.size
  rw [sl8] at o8
  clear b7' b8
  go_wp2_with fail
  refine (same_is _ _ _ [0, 4, 8] true _ (o8.alloc _).nums (nums_made _ _ w8 [0, 4, 8] (by decide)) (by decide)).mono ?_
  rintro e w9 ⟨rfl, b9⟩
  have s9 := b9.size
  simp at s9
  have b9' := (b8'.alloc (by omega) _).trans (b9.mono (by simp; omega))
  clear o8 b8' b9
  go_wp2_with fail
  refine (slots_any 1 0 8 _ [] _ (nums_nil _ _) (by simp) (fun x hx => by cases hx) (by omega) (by omega) (by omega) (by omega)).mono ?_
  rintro e w10 ⟨v, rfl, o10, b10⟩
  have b10' := b9'.trans (b10.mono (by omega))
  have s10 := b10.size
  rw [sl8'] at o10
  clear b9' b10
  go_wp2_with fail
  refine (same_is _ _ _ [2, 6] true _ (o10.alloc _).nums (nums_made _ _ w10 [2, 6] (by decide)) (by decide)).mono ?_
  rintro e w11 ⟨rfl, b11⟩
  have b11' := (b10'.alloc (by omega) _).trans (b11.mono (by simp; omega))
  clear o10 b10' b11
  go_wp2
  go_ret
  exact ⟨rfl, b11'⟩

end Go.Proofs.Ytneclkneglgfdaa
