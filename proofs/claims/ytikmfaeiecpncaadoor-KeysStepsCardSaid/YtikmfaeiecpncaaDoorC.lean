/- What stands behind a text: the program's, the reference's. -/
import Derived.Test.YtikmfaeiecpncaaDoorB
namespace Go.Proofs.YtikmfaeiecpncaaDoor
open Go.RowKit

/-- How many zeros. -/
def padZ (n : Nat) : Nat := (119 - n % 64) % 64
/-- The k-th of the eight bytes that tell the length. -/
def lenB (n k : Nat) : Int := ((8 * n / 2 ^ (56 - 8 * k) % 256 : Nat) : Int)
def padM (n k : Nat) : List Int := 128 :: (List.replicate (padZ n) 0 ++ (List.range k).map (lenB n))
def padL (n : Nat) : List Int := padM n 8
theorem padM_zero (n : Nat) : padM n 0 = 128 :: List.replicate (padZ n) 0 := by simp [padM]
theorem padM_succ (n k : Nat) : padM n (k + 1) = padM n k ++ [lenB n k] := by simp [padM, List.range_succ]
theorem padM_len (n k : Nat) : (padM n k).length = 1 + padZ n + k := by simp [padM]; omega
theorem zeros_succ (k : Nat) : (128 :: List.replicate (k + 1) 0 : List Int) = (128 :: List.replicate k 0) ++ [0] := by simp [List.replicate_succ']
theorem padZ_lt (n : Nat) : padZ n < 64 := Nat.mod_lt _ (by omega)
theorem padZ_end (n : Nat) : (n + (padZ n + 1) + 8) % 64 = 0 := by unfold padZ; omega
theorem padZ_not (n k : Nat) (h : k < padZ n) : (n + (k + 1) + 8) % 64 ≠ 0 := by unfold padZ at h; omega
theorem own_lit (k : IntKind) (e : TypeId) (w : World) (base : Nat) (hb : base ≤ w.heap.size) (x : Int) : OwnNums k e (w.alloc (.cells #[.int k x] e)) base (.slice (some ⟨w.heap.size, 0, none⟩) 1 1) [x] :=
  World.ownsRow_lit w #[.int k x] 1 hb (by unfold maxLen; omega) (by simp)
theorem OwnNums.form {k : IntKind} {e : TypeId} {w : World} {base : Nat} {v : Value} {xs : List Int} (h : OwnNums k e w base v xs) : ∃ ad cap, v = .slice ad xs.length cap ∧ xs.length ≤ 9223372036854775807 := by
  obtain ⟨ad, cap, h1, h2, _⟩ := h.nums.form
  exact ⟨ad, cap, h1, h2⟩

set_option maxHeartbeats 800000 in
theorem pad_any (n : Nat) (w : World) (hn : n ≤ 2199023255552) :
    Calls Tryd.prog 22 #[.int .i64 n] w fun e w' => ∃ v, e = .returned v ∧ OwnNums .u8 5 w' w.heap.size v (padL n) ∧ Below w.heap.size w w' := by
  obtain ⟨i0, hi, hz0, hz1, hz2⟩ := info_parts info5
  have en : IntKind.u64.wrap (n : Int) = n := by rw [IntKind.wrap_u64]; omega
  have hz := padZ_lt n
  go_enter Tryd.func22, Tryd.ntmps22
  go_wp2_with fail
  go_loopw [3] (fun v wr => ∃ k : Nat, k ≤ padZ n ∧ (∃ ad cap, v = .slice ad (k + 1) cap) ∧ Hid (OwnNums .u8 5 wr w.heap.size v (128 :: List.replicate k 0)) ∧ Below w.heap.size w wr) (fun v _ => match v with | .slice _ l _ => 100 - l | _ => 0)
  case atStart => exact ⟨0, by omega, ⟨_, _, rfl⟩, own_lit .u8 5 w _ (Nat.le_refl _) 128, (Below.refl _ _).alloc (Nat.le_refl _) _⟩
  case round =>
    obtain ⟨k, hk, ⟨ad, cap, rfl⟩, hown, hbel⟩ := hrel
    have el : IntKind.u64.wrap ((k + 1 : Nat) : Int) = k + 1 := by rw [IntKind.wrap_u64]; omega
    have hsz := hbel.size
    by_cases hlt : k < padZ n
    · have et : (((n : Int) + ((k : Int) + 1) + 8) % 64 != 0) = true := by
        have := padZ_not n k hlt
        rw [bne_iff_ne]; omega
      go_wp2_with (at_builtin; refine wpList_append_nums rfl _ _ 22 rfl .u8 w.heap.size 5 i0 1 Tryd.underlying22 hi hz0 hz1 hz2 _ _ _ [0] rfl (hown.out.alloc _) rfl (own_lit .u8 5 wr wr.heap.size (Nat.le_refl _) 0).nums (by simp; omega) (by simp; omega) (by simp; omega) ?_; intro v3 w3 hown3 hgr3)
      obtain ⟨ad3, cap3, hv3, _⟩ := hown3.form
      have hb3 := (hbel.alloc (by omega) _).grown hgr3 (by simp; omega) (fun j hj => hown.out.lt j hj)
      rw [← zeros_succ] at hown3 hv3
      simp only [List.length_cons, List.length_replicate] at hv3
      subst hv3
      have hown3 := Lib.hid hown3
      clear hgr3
      go_roundw
      case rel => exact ⟨k + 1, by omega, ⟨_, _, rfl⟩, hown3, hb3⟩
      case measure => simp; omega
    · obtain rfl : k = padZ n := by omega
      have et : (((n : Int) + ((padZ n : Int) + 1) + 8) % 64 != 0) = false := by
        have := padZ_end n
        simp; omega
      rw [← padM_zero] at hown
      go_wp2_with fail
      go_loopw [20, 3] (fun i v wr => ∃ j : Nat, j ≤ 8 ∧ i = .int .i64 j ∧ Hid (OwnNums .u8 5 wr w.heap.size v (padM n j)) ∧ Below w.heap.size w wr) (fun i _ _ => 8 - (intOf i).toNat)
      case atStart => exact ⟨0, by omega, rfl, hown, hbel⟩
      case round =>
        obtain ⟨j, hj, rfl, hown2, hbel2⟩ := hrel
        clear hown hbel
        have hsz2 := hbel2.size
        have hpl := padM_len n j
        by_cases hlt2 : j < 8
        · have e8 : IntKind.u64.wrap (8 * (n : Int)) = 8 * n := by rw [IntKind.wrap_u64]; omega
          have eb : (8 * (n : Int) / 2 ^ (56 - 8 * j) % 256) = lenB n j := by simp [lenB]
          go_wp2_with (at_builtin; refine wpList_append_nums rfl _ _ 22 rfl .u8 w.heap.size 5 i0 1 Tryd.underlying22 hi hz0 hz1 hz2 _ _ _ [lenB n j] rfl (hown2.out.alloc _) rfl (own_lit .u8 5 wr wr.heap.size (Nat.le_refl _) (lenB n j)).nums (by simp; omega) (by simp; omega) (by simp; omega) ?_; intro v3 w3 hown3 hgr3)
          have hb3 := (hbel2.alloc (by omega) _).grown hgr3 (by simp; omega) (fun j hj => hown2.out.lt j hj)
          rw [← padM_succ] at hown3
          have hown3 := Lib.hid hown3
          clear hgr3
          go_roundw
          case rel => exact ⟨j + 1, by omega, by go_num, hown3, hb3⟩
          case measure => simp [intOf]; omega
        · obtain rfl : j = 8 := by omega
          go_wp2_with fail
          go_ret
          exact ⟨_, rfl, hown2.out, hbel2⟩
theorem ref_test (n k : Nat) : ((n : Int) % 64 + ((k : Int) + 1) + 8) % 64 = (((n + (k + 1) + 8) % 64 : Nat) : Int) := by
  omega

set_option maxHeartbeats 800000 in
theorem refPad_any (n : Nat) (w : World) (hn : n ≤ 2199023255552) :
    Calls Tryd.prog 23 #[.int .i64 n] w fun e w' => ∃ v, e = .returned v ∧ OwnNums .u8 5 w' w.heap.size v (padL n) ∧ Below w.heap.size w w' := by
  obtain ⟨i0, hi, hz0, hz1, hz2⟩ := info_parts info5
  have en : IntKind.u64.wrap (n : Int) = n := by rw [IntKind.wrap_u64]; omega
  have hz := padZ_lt n
  go_enter Tryd.func23, Tryd.ntmps23
  go_wp2_with fail
  go_loopw [3] (fun v wr => ∃ k : Nat, k ≤ padZ n ∧ (∃ ad cap, v = .slice ad (k + 1) cap) ∧ Hid (OwnNums .u8 5 wr w.heap.size v (128 :: List.replicate k 0)) ∧ Below w.heap.size w wr) (fun v _ => match v with | .slice _ l _ => 100 - l | _ => 0)
  case atStart => exact ⟨0, by omega, ⟨_, _, rfl⟩, own_lit .u8 5 w _ (Nat.le_refl _) 128, (Below.refl _ _).alloc (Nat.le_refl _) _⟩
  case round =>
    obtain ⟨k, hk, ⟨ad, cap, rfl⟩, hown, hbel⟩ := hrel
    have el : IntKind.u64.wrap ((k + 1 : Nat) : Int) = k + 1 := by rw [IntKind.wrap_u64]; omega
    have hsz := hbel.size
    by_cases hlt : k < padZ n
    · have et : (((n : Int) % 64 + ((k : Int) + 1) + 8) % 64 != 0) = true := by
        have := padZ_not n k hlt
        rw [bne_iff_ne, ref_test]; omega
      go_wp2_with (at_builtin; refine wpList_append_nums rfl _ _ 22 rfl .u8 w.heap.size 5 i0 1 Tryd.underlying22 hi hz0 hz1 hz2 _ _ _ [0] rfl (hown.out.alloc _) rfl (own_lit .u8 5 wr wr.heap.size (Nat.le_refl _) 0).nums (by simp; omega) (by simp; omega) (by simp; omega) ?_; intro v3 w3 hown3 hgr3)
      obtain ⟨ad3, cap3, hv3, _⟩ := hown3.form
      have hb3 := (hbel.alloc (by omega) _).grown hgr3 (by simp; omega) (fun j hj => hown.out.lt j hj)
      rw [← zeros_succ] at hown3 hv3
      simp only [List.length_cons, List.length_replicate] at hv3
      subst hv3
      have hown3 := Lib.hid hown3
      clear hgr3
      go_roundw
      case rel => exact ⟨k + 1, by omega, ⟨_, _, rfl⟩, hown3, hb3⟩
      case measure => simp; omega
    · obtain rfl : k = padZ n := by omega
      have et : (((n : Int) % 64 + ((padZ n : Int) + 1) + 8) % 64 != 0) = false := by
        have := padZ_end n
        rw [bne_eq_false_iff_eq, ref_test]; omega
      rw [← padM_zero] at hown
      have e8 : IntKind.u64.wrap ((n : Int) * 8) = n * 8 := by rw [IntKind.wrap_u64]; omega
      go_wp2_with fail
      go_loopw [5, 3] (fun i v wr => ∃ j : Nat, j ≤ 8 ∧ i = .int .i64 (7 - j) ∧ Hid (OwnNums .u8 5 wr w.heap.size v (padM n j)) ∧ Below w.heap.size w wr) (fun i _ _ => (intOf i + 1).toNat)
      case atStart => exact ⟨0, by omega, rfl, hown, hbel⟩
      case round =>
        obtain ⟨j, hj, rfl, hown2, hbel2⟩ := hrel
        clear hown hbel
        have hsz2 := hbel2.size
        have hpl := padM_len n j
        by_cases hlt2 : j < 8
        · have eb : ((n : Int) * 8 / 2 ^ (8 * (7 - j)) % 256) = lenB n j := by rw [Int.mul_comm, show 8 * (7 - j) = 56 - 8 * j by omega]; simp [lenB]
          go_wp2_with (at_builtin; refine wpList_append_nums rfl _ _ 22 rfl .u8 w.heap.size 5 i0 1 Tryd.underlying22 hi hz0 hz1 hz2 _ _ _ [lenB n j] rfl (hown2.out.alloc _) rfl (own_lit .u8 5 wr wr.heap.size (Nat.le_refl _) (lenB n j)).nums (by simp; omega) (by simp; omega) (by simp; omega) ?_; intro v3 w3 hown3 hgr3)
          have hb3 := (hbel2.alloc (by omega) _).grown hgr3 (by simp; omega) (fun j hj => hown2.out.lt j hj)
          rw [← padM_succ] at hown3
          have hown3 := Lib.hid hown3
          clear hgr3
          go_roundw
          case rel => exact ⟨j + 1, by omega, by go_num, hown3, hb3⟩
          case measure => simp [intOf]; omega
        · obtain rfl : j = 8 := by omega
          go_wp2_with fail
          go_ret
          exact ⟨_, rfl, hown2.out, hbel2⟩
theorem pad_neg (n : Int) (w : World) (hn : n < 0) : Calls Tryd.prog 22 #[.int .i64 n] w fun e w' => e = .returned (.slice none 0 0) ∧ w = w' := by
  go_enter Tryd.func22, Tryd.ntmps22
  go_wp2
  go_ret
  exact ⟨rfl, rfl⟩
theorem refPad_neg (n : Int) (w : World) (hn : n < 0) : Calls Tryd.prog 23 #[.int .i64 n] w fun e w' => e = .returned (.slice none 0 0) ∧ w = w' := by
  go_enter Tryd.func23, Tryd.ntmps23
  go_wp2
  go_ret
  exact ⟨rfl, rfl⟩

end Go.Proofs.YtikmfaeiecpncaaDoor
