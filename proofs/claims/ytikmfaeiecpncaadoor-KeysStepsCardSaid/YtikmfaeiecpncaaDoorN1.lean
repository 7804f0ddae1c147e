/- The digest of bytes, however they are parted: the statement's walk. -/
import Derived.Test.YtikmfaeiecpncaaDoorJ
import Derived.Test.YtikmfaeiecpncaaDoorM
namespace Go.Proofs.YtikmfaeiecpncaaDoor
open Go.RowKit

theorem slice_any {v : Value} {xs : List Int} {k : IntKind} {w : World} (h : NumsAt k w v xs) : ∃ a n cap, v = .slice a n cap := by
  obtain ⟨a, cap, hv, _⟩ := h; exact ⟨a, _, cap, hv⟩
theorem sl_below {W W' : World} {v : Value} {xs : List Int} (h : ∃ a n k, v = Value.slice a n k ∧ NumsAt .u8 W v xs) (hb : Below W.heap.size W W') : ∃ a n k, v = Value.slice a n k ∧ NumsAt .u8 W' v xs := by
  obtain ⟨a, n, k, h1, h2⟩ := h; exact ⟨a, n, k, h1, h2.below hb⟩
theorem spec_below {w w' : World} {p : Prop} (h : p) (_ : Below w.heap.size w w') : p := h
set_option maxHeartbeats 1600000 in
set_option maxRecDepth 100000 in
theorem tells_any (u : Value) (xs : List Int) (c0 : Int) (w : World) (hg : Gl w) (hu : NumsAt .u8 w u xs) (hb : Byt xs) :
    Calls Tryd.prog 3 #[u, .int .i64 c0] w fun e w' => e = .returned (.bool true) ∧ Below w.heap.size w w' := by
  obtain ⟨a0, k0, rfl, _⟩ := slice_form hu
  have hln := hu.len
  replace hu := Lib.hid hu
  by_cases hbig : 300 < xs.length
  · have q1 : decide ((300 : Int) < xs.length) = true := by simp; omega
    go_enter Tryd.func3, Tryd.ntmps3
    go_wp2_with fail
    refine (awake_any w hg).mono ?_
    rintro e w1 ⟨rfl, hb1⟩
    go_wp2_with fail
    go_ret
    exact ⟨rfl, hb1⟩
  · have q1 : decide ((300 : Int) < xs.length) = false := by simp; omega
    have q2 : (xs.length : Int) ≤ 300 := by omega
    obtain ⟨cI, hc, hc0, hc1⟩ := low_name c0 (xs.length + 1) (by omega)
    obtain ⟨c, rfl⟩ := Int.eq_ofNat_of_zero_le hc0
    have hcl : c ≤ xs.length := by omega
    replace hg := Lib.hid hg
    replace hb := Lib.hid hb
    clear hbig
    go_enter Tryd.func3, Tryd.ntmps3
    go_wp2_with fail
    refine (low_r c0 (xs.length + 1) c w hc (by omega) (by omega)).mono ?_
    rintro e w1 ⟨rfl, rfl⟩
    go_wp2_with fail
    refine (copied_any _ xs w hu.out (by omega)).mono ?_
    rintro e w1 ⟨v1, rfl, hown, hb1⟩
    have n1 := Lib.hid hown.nums
    have n0 := Lib.hid (hu.out.below hb1)
    have g1 := Lib.hid (hg.out.below hb1 hg.out.lt)
    replace hb1 := Lib.hid hb1
    obtain ⟨a1, k1, rfl, _⟩ := slice_form n1.out
    obtain ⟨va, ca, ca'⟩ := cut_h n1.out (c : Int) (by omega) (by omega)
    obtain ⟨vb, cb, cb'⟩ := cut_l n1.out (c : Int) (by omega) (by omega)
    rw [Int.toNat_natCast] at ca' cb'
    obtain ⟨aa, la, ka, rfl⟩ := slice_any (ca' _ n1.out)
    obtain ⟨ab, lb, kb, rfl⟩ := slice_any (cb' _ n1.out)
    replace ca' := Lib.hid ca'
    replace cb' := Lib.hid cb'
    obtain ⟨r, hr⟩ := name_it (sha xs)
    have hrl : Hid (r.length = 32) := by show _ = _; rw [hr.out]; exact sha_len _
    have hm26 := guard26
    have hsame : (xs == xs) = true := by simp
    have hf1 : ([xs.take c, xs.drop c, []] : List (List Int)).flatten = xs := by simp
    have hf2 : ([xs.take c, [], xs.drop c] : List (List Int)).flatten = xs := by simp
    replace hf1 := Lib.hid hf1
    replace hf2 := Lib.hid hf2
    clear hown
    go_wp2_with fail
    refine region_rel_lit (.step (.step (.step (.step (.step (.step (.step (.step (.step (.step (.step (.step (.step (.step (.step (.step (.base _))))))))))))))))) (fun i W v => match i with
      | 0 => v = (.slice a1 xs.length k1)
      | 1 => v = .int .i64 (c : Int)
      | 2 => v = (.slice aa la ka)
      | 3 => v = (.slice a1 xs.length k1)
      | 4 => v = .int .i64 (c : Int)
      | 5 => v = (.slice ab lb kb)
      | 6 => PartsAt W v [xs.take c, xs.drop c, []]
      | 7 => v = .agg (bys r)
      | 8 => v = (.slice a0 xs.length k0)
      | 9 => v = .agg (bys r)
      | 10 => v = .bool true
      | 11 => v = .bool true
      | 12 => v = (.slice a1 xs.length k1)
      | 13 => v = (.slice a0 xs.length k0)
      | 14 => v = .bool true
      | _ => v = .bool true) mixed (by kernel_rfl) (by kernel_rfl) ?_ ?_ ?_
    · rintro (_ | _ | _ | _ | _ | _ | _ | _ | _ | _ | _ | _ | _ | _ | _ | i) W W' v h hb
      all_goals first | exact h | exact PartsAt.below h hb | exact NumsAt.below h hb | exact sl_below h hb | exact spec_below h hb
    · intro i oi hoi x w5 hb5 hd
      rcases i with _ | _ | _ | _ | _ | _ | _ | _ | _ | _ | _ | _ | _ | _ | _ | _ | i
      · obtain rfl := Option.some.inj hoi
        simp only [fill, Act.put, List.setIfInBounds_toArray, List.set_cons_succ, List.set_cons_zero]
        go_wp2_with fail
        exact ⟨_, rfl, Below.refl _ _, rfl⟩
      · obtain rfl := Option.some.inj hoi
        simp only [fill, Act.put, List.setIfInBounds_toArray, List.set_cons_succ, List.set_cons_zero]
        go_wp2_with fail
        exact ⟨_, rfl, Below.refl _ _, rfl⟩
      · obtain rfl := Option.some.inj hoi
        have h0 : (x 0) = (.slice a1 xs.length k1) := hd 0 (by kernel_rfl)
        have h1 : (x 1) = .int .i64 (c : Int) := hd 1 (by kernel_rfl)
        simp only [fill, Act.put, List.setIfInBounds_toArray, List.set_cons_succ, List.set_cons_zero, h0, h1]
        go_wp2_with fail
        exact ⟨_, rfl, Below.refl _ _, rfl⟩
      · obtain rfl := Option.some.inj hoi
        simp only [fill, Act.put, List.setIfInBounds_toArray, List.set_cons_succ, List.set_cons_zero]
        go_wp2_with fail
        exact ⟨_, rfl, Below.refl _ _, rfl⟩
      · obtain rfl := Option.some.inj hoi
        simp only [fill, Act.put, List.setIfInBounds_toArray, List.set_cons_succ, List.set_cons_zero]
        go_wp2_with fail
        exact ⟨_, rfl, Below.refl _ _, rfl⟩
      · obtain rfl := Option.some.inj hoi
        have h3 : (x 3) = (.slice a1 xs.length k1) := hd 3 (by kernel_rfl)
        have h4 : (x 4) = .int .i64 (c : Int) := hd 4 (by kernel_rfl)
        simp only [fill, Act.put, List.setIfInBounds_toArray, List.set_cons_succ, List.set_cons_zero, h3, h4]
        go_wp2_with fail
        exact ⟨_, rfl, Below.refl _ _, rfl⟩
      · obtain rfl := Option.some.inj hoi
        have h2 : (x 2) = (.slice aa la ka) := hd 2 (by kernel_rfl)
        have h5 : (x 5) = (.slice ab lb kb) := hd 5 (by kernel_rfl)
        simp only [fill, Act.put, List.setIfInBounds_toArray, List.set_cons_succ, List.set_cons_zero, h2, h5]
        go_wp2_with fail
        have hp : PartsAt (w5.alloc (.cells #[.slice aa la ka, .slice ab lb kb, .slice none 0 0] 22)) (.slice (some ⟨w5.heap.size, 0, none⟩) 3 3) [xs.take c, xs.drop c, []] := parts_three (Blk.new w5 22 #[.slice aa la ka, .slice ab lb kb, .slice none 0 0]) ((ca'.out _ (n1.out.below hb5)).alloc _) ((cb'.out _ (n1.out.below hb5)).alloc _) (nums_nil _ _)
        exact ⟨_, rfl, (Below.refl _ _).alloc (Nat.le_refl _) _, hp⟩
      · obtain rfl := Option.some.inj hoi
        have h6 : PartsAt w5 (x 6) [xs.take c, xs.drop c, []] := hd 6 (by kernel_rfl)
        simp only [fill, Act.put, List.setIfInBounds_toArray, List.set_cons_succ, List.set_cons_zero]
        go_wp2_with fail
        refine (sum_any _ _ xs w5 hf1.out h6 hb.out (by omega) (g1.out.below hb5 g1.out.lt)).mono ?_
        rintro e w6 ⟨rfl, hb6⟩
        go_wp2_with fail
        exact ⟨_, rfl, hb6, by rw [hr.out]⟩
      · obtain rfl := Option.some.inj hoi
        simp only [fill, Act.put, List.setIfInBounds_toArray, List.set_cons_succ, List.set_cons_zero]
        go_wp2_with fail
        exact ⟨_, rfl, Below.refl _ _, rfl⟩
      · obtain rfl := Option.some.inj hoi
        have h8 : (x 8) = (.slice a0 xs.length k0) := hd 8 (by kernel_rfl)
        simp only [fill, Act.put, List.setIfInBounds_toArray, List.set_cons_succ, List.set_cons_zero, h8]
        go_wp2_with fail
        refine (rsum_any _ xs w5 (n0.out.below hb5) hb.out (by omega)).mono ?_
        rintro e w6 ⟨rfl, hb6⟩
        go_wp2_with fail
        exact ⟨_, rfl, hb6, by rw [hr.out]⟩
      · obtain rfl := Option.some.inj hoi
        have h7 : (x 7) = .agg (bys r) := hd 7 (by kernel_rfl)
        have h9 : (x 9) = .agg (bys r) := hd 9 (by kernel_rfl)
        simp only [fill, Act.put, List.setIfInBounds_toArray, List.set_cons_succ, List.set_cons_zero, h7, h9]
        have e1 := equal_self arr26 r hrl.out w5
        go_wp2_with fail
        exact ⟨_, rfl, Below.refl _ _, rfl⟩
      · obtain rfl := Option.some.inj hoi
        have h10 : (x 10) = .bool true := hd 10 (by kernel_rfl)
        simp only [fill, Act.put, List.setIfInBounds_toArray, List.set_cons_succ, List.set_cons_zero, h10]
        go_wp2_with fail
        exact ⟨_, rfl, Below.refl _ _, rfl⟩
      · obtain rfl := Option.some.inj hoi
        have h11 : (x 11) = .bool true := hd 11 (by kernel_rfl)
        simp only [fill, Act.put, List.setIfInBounds_toArray, List.set_cons_succ, List.set_cons_zero, h11]
        go_wp2_with fail
        exact ⟨_, rfl, Below.refl _ _, rfl⟩
      · obtain rfl := Option.some.inj hoi
        have h11 : (x 11) = .bool true := hd 11 (by kernel_rfl)
        simp only [fill, Act.put, List.setIfInBounds_toArray, List.set_cons_succ, List.set_cons_zero, h11]
        go_wp2_with fail
        exact ⟨_, rfl, Below.refl _ _, rfl⟩
      · obtain rfl := Option.some.inj hoi
        have h11 : (x 11) = .bool true := hd 11 (by kernel_rfl)
        have h12 : (x 12) = (.slice a1 xs.length k1) := hd 12 (by kernel_rfl)
        have h13 : (x 13) = (.slice a0 xs.length k0) := hd 13 (by kernel_rfl)
        simp only [fill, Act.put, List.setIfInBounds_toArray, List.set_cons_succ, List.set_cons_zero, h11, h12, h13]
        go_wp2_with fail
        refine (same_is _ _ xs xs true w5 (n1.out.below hb5) (n0.out.below hb5) hsame).mono ?_
        rintro e w6 ⟨rfl, hb6⟩
        go_wp2_with fail
        exact ⟨_, rfl, hb6, rfl⟩
      · obtain rfl := Option.some.inj hoi
        have h11 : (x 11) = .bool true := hd 11 (by kernel_rfl)
        have h14 : (x 14) = .bool true := hd 14 (by kernel_rfl)
        simp only [fill, Act.put, List.setIfInBounds_toArray, List.set_cons_succ, List.set_cons_zero, h11, h14]
        go_wp2_with fail
        exact ⟨_, rfl, Below.refl _ _, rfl⟩
      · cases hoi
    · intro x w5 hb5 hd
      have h15 : (x 15) = .bool true := hd 15 (by decide)
      simp only [fill, Act.put, List.setIfInBounds_toArray, List.set_cons_succ, List.set_cons_zero, h15]
      have hb5 := Lib.hid hb5
      have g5 := Lib.hid (g1.out.below hb5.out g1.out.lt)
      have n5 := Lib.hid (n1.out.below hb5.out)
      have b5 := Lib.hid (below_all hb1.out hb5.out)
      go_wp2_with fail
      refine region_rel_lit (.step (.step (.step (.step (.step (.step (.step (.step (.step (.step (.step (.step (.step (.step (.step (.step (.step (.step (.base _))))))))))))))))))) (fun i W v => match i with
        | 0 => v = .bool true
        | 1 => v = .bool true
        | 2 => v = (.slice a1 xs.length k1)
        | 3 => PartsAt W v [xs]
        | 4 => v = .agg (bys r)
        | 5 => v = (.slice a1 xs.length k1)
        | 6 => v = .int .i64 (c : Int)
        | 7 => v = (.slice aa la ka)
        | 8 => v = (.slice a1 xs.length k1)
        | 9 => v = .int .i64 (c : Int)
        | 10 => v = (.slice ab lb kb)
        | 11 => PartsAt W v [xs.take c, [], xs.drop c]
        | 12 => v = .agg (bys r)
        | 13 => v = .bool true
        | 14 => v = .bool true
        | 15 => v = .bool true
        | 16 => v = .bool true
        | _ => v = .bool true) mixed (by kernel_rfl) (by kernel_rfl) ?_ ?_ ?_
      · rintro (_ | _ | _ | _ | _ | _ | _ | _ | _ | _ | _ | _ | _ | _ | _ | _ | _ | i) W W' v h hb
        all_goals first | exact h | exact PartsAt.below h hb | exact NumsAt.below h hb | exact sl_below h hb | exact spec_below h hb
      · intro i oi hoi x w7 hb7 hd
        rcases i with _ | _ | _ | _ | _ | _ | _ | _ | _ | _ | _ | _ | _ | _ | _ | _ | _ | _ | i
        · obtain rfl := Option.some.inj hoi
          simp only [fill, Act.put, List.setIfInBounds_toArray, List.set_cons_succ, List.set_cons_zero]
          go_wp2_with fail
          exact ⟨_, rfl, Below.refl _ _, rfl⟩
        · obtain rfl := Option.some.inj hoi
          have h0 : (x 0) = .bool true := hd 0 (by kernel_rfl)
          simp only [fill, Act.put, List.setIfInBounds_toArray, List.set_cons_succ, List.set_cons_zero, h0]
          go_wp2_with fail
          exact ⟨_, rfl, Below.refl _ _, rfl⟩
        · obtain rfl := Option.some.inj hoi
          have h1 : (x 1) = .bool true := hd 1 (by kernel_rfl)
          simp only [fill, Act.put, List.setIfInBounds_toArray, List.set_cons_succ, List.set_cons_zero, h1]
          go_wp2_with fail
          exact ⟨_, rfl, Below.refl _ _, rfl⟩
        · obtain rfl := Option.some.inj hoi
          have h1 : (x 1) = .bool true := hd 1 (by kernel_rfl)
          have h2 : (x 2) = (.slice a1 xs.length k1) := hd 2 (by kernel_rfl)
          simp only [fill, Act.put, List.setIfInBounds_toArray, List.set_cons_succ, List.set_cons_zero, h1, h2]
          go_wp2_with fail
          have hp : PartsAt (w7.alloc (.cells #[.slice a1 xs.length k1] 22)) (.slice (some ⟨w7.heap.size, 0, none⟩) 1 1) [xs] := parts_one (Blk.new w7 22 #[.slice a1 xs.length k1]) ((n5.out.below hb7).alloc _)
          exact ⟨_, rfl, (Below.refl _ _).alloc (Nat.le_refl _) _, hp⟩
        · obtain rfl := Option.some.inj hoi
          have h1 : (x 1) = .bool true := hd 1 (by kernel_rfl)
          have h3 : PartsAt w7 (x 3) [xs] := hd 3 (by kernel_rfl)
          simp only [fill, Act.put, List.setIfInBounds_toArray, List.set_cons_succ, List.set_cons_zero, h1]
          go_wp2_with fail
          refine (sum_any _ _ xs w7 (by simp) h3 hb.out (by omega) (g5.out.below hb7 g5.out.lt)).mono ?_
          rintro e w6 ⟨rfl, hb6⟩
          go_wp2_with fail
          exact ⟨_, rfl, hb6, by rw [hr.out]⟩
        · obtain rfl := Option.some.inj hoi
          have h1 : (x 1) = .bool true := hd 1 (by kernel_rfl)
          simp only [fill, Act.put, List.setIfInBounds_toArray, List.set_cons_succ, List.set_cons_zero, h1]
          go_wp2_with fail
          exact ⟨_, rfl, Below.refl _ _, rfl⟩
        · obtain rfl := Option.some.inj hoi
          have h1 : (x 1) = .bool true := hd 1 (by kernel_rfl)
          simp only [fill, Act.put, List.setIfInBounds_toArray, List.set_cons_succ, List.set_cons_zero, h1]
          go_wp2_with fail
          exact ⟨_, rfl, Below.refl _ _, rfl⟩
        · obtain rfl := Option.some.inj hoi
          have h1 : (x 1) = .bool true := hd 1 (by kernel_rfl)
          have h5 : (x 5) = (.slice a1 xs.length k1) := hd 5 (by kernel_rfl)
          have h6 : (x 6) = .int .i64 (c : Int) := hd 6 (by kernel_rfl)
          simp only [fill, Act.put, List.setIfInBounds_toArray, List.set_cons_succ, List.set_cons_zero, h1, h5, h6]
          go_wp2_with fail
          exact ⟨_, rfl, Below.refl _ _, rfl⟩
        · obtain rfl := Option.some.inj hoi
          have h1 : (x 1) = .bool true := hd 1 (by kernel_rfl)
          simp only [fill, Act.put, List.setIfInBounds_toArray, List.set_cons_succ, List.set_cons_zero, h1]
          go_wp2_with fail
          exact ⟨_, rfl, Below.refl _ _, rfl⟩
        · obtain rfl := Option.some.inj hoi
          have h1 : (x 1) = .bool true := hd 1 (by kernel_rfl)
          simp only [fill, Act.put, List.setIfInBounds_toArray, List.set_cons_succ, List.set_cons_zero, h1]
          go_wp2_with fail
          exact ⟨_, rfl, Below.refl _ _, rfl⟩
        · obtain rfl := Option.some.inj hoi
          have h1 : (x 1) = .bool true := hd 1 (by kernel_rfl)
          have h8 : (x 8) = (.slice a1 xs.length k1) := hd 8 (by kernel_rfl)
          have h9 : (x 9) = .int .i64 (c : Int) := hd 9 (by kernel_rfl)
          simp only [fill, Act.put, List.setIfInBounds_toArray, List.set_cons_succ, List.set_cons_zero, h1, h8, h9]
          go_wp2_with fail
          exact ⟨_, rfl, Below.refl _ _, rfl⟩
        · obtain rfl := Option.some.inj hoi
          have h1 : (x 1) = .bool true := hd 1 (by kernel_rfl)
          have h7 : (x 7) = (.slice aa la ka) := hd 7 (by kernel_rfl)
          have h10 : (x 10) = (.slice ab lb kb) := hd 10 (by kernel_rfl)
          simp only [fill, Act.put, List.setIfInBounds_toArray, List.set_cons_succ, List.set_cons_zero, h1, h7, h10]
          go_wp2_with fail
          have hp : PartsAt (w7.alloc (.cells #[.slice aa la ka, .slice none 0 0, .slice ab lb kb] 22)) (.slice (some ⟨w7.heap.size, 0, none⟩) 3 3) [xs.take c, [], xs.drop c] := parts_three (Blk.new w7 22 #[.slice aa la ka, .slice none 0 0, .slice ab lb kb]) ((ca'.out _ (n5.out.below hb7)).alloc _) (nums_nil _ _) ((cb'.out _ (n5.out.below hb7)).alloc _)
          exact ⟨_, rfl, (Below.refl _ _).alloc (Nat.le_refl _) _, hp⟩
        · obtain rfl := Option.some.inj hoi
          have h1 : (x 1) = .bool true := hd 1 (by kernel_rfl)
          have h11 : PartsAt w7 (x 11) [xs.take c, [], xs.drop c] := hd 11 (by kernel_rfl)
          simp only [fill, Act.put, List.setIfInBounds_toArray, List.set_cons_succ, List.set_cons_zero, h1]
          go_wp2_with fail
          refine (sum_any _ _ xs w7 hf2.out h11 hb.out (by omega) (g5.out.below hb7 g5.out.lt)).mono ?_
          rintro e w6 ⟨rfl, hb6⟩
          go_wp2_with fail
          exact ⟨_, rfl, hb6, by rw [hr.out]⟩
        · obtain rfl := Option.some.inj hoi
          have h1 : (x 1) = .bool true := hd 1 (by kernel_rfl)
          have h4 : (x 4) = .agg (bys r) := hd 4 (by kernel_rfl)
          have h12 : (x 12) = .agg (bys r) := hd 12 (by kernel_rfl)
          simp only [fill, Act.put, List.setIfInBounds_toArray, List.set_cons_succ, List.set_cons_zero, h1, h4, h12]
          have e1 := equal_self arr26 r hrl.out w7
          go_wp2_with fail
          exact ⟨_, rfl, Below.refl _ _, rfl⟩
        · obtain rfl := Option.some.inj hoi
          have h1 : (x 1) = .bool true := hd 1 (by kernel_rfl)
          have h13 : (x 13) = .bool true := hd 13 (by kernel_rfl)
          simp only [fill, Act.put, List.setIfInBounds_toArray, List.set_cons_succ, List.set_cons_zero, h1, h13]
          go_wp2_with fail
          exact ⟨_, rfl, Below.refl _ _, rfl⟩
        · obtain rfl := Option.some.inj hoi
          have h14 : (x 14) = .bool true := hd 14 (by kernel_rfl)
          simp only [fill, Act.put, List.setIfInBounds_toArray, List.set_cons_succ, List.set_cons_zero, h14]
          go_wp2_with fail
          exact ⟨_, rfl, Below.refl _ _, rfl⟩
        · obtain rfl := Option.some.inj hoi
          have h15 : (x 15) = .bool true := hd 15 (by kernel_rfl)
          simp only [fill, Act.put, List.setIfInBounds_toArray, List.set_cons_succ, List.set_cons_zero, h15]
          go_wp2_with fail
          refine (awake_any w7 (g5.out.below hb7 g5.out.lt)).mono ?_
          rintro e w6 ⟨rfl, hb6⟩
          go_wp2_with fail
          exact ⟨_, rfl, hb6, rfl⟩
        · obtain rfl := Option.some.inj hoi
          have h15 : (x 15) = .bool true := hd 15 (by kernel_rfl)
          have h16 : (x 16) = .bool true := hd 16 (by kernel_rfl)
          simp only [fill, Act.put, List.setIfInBounds_toArray, List.set_cons_succ, List.set_cons_zero, h15, h16]
          go_wp2_with fail
          exact ⟨_, rfl, Below.refl _ _, rfl⟩
        · cases hoi
      · intro x w7 hb7 hd
        have h17 : (x 17) = .bool true := hd 17 (by decide)
        simp only [fill, Act.put, List.setIfInBounds_toArray, List.set_cons_succ, List.set_cons_zero, h17]
        go_wp2_with fail
        go_ret
        exact ⟨rfl, below_all b5.out hb7⟩
end Go.Proofs.YtikmfaeiecpncaaDoor
