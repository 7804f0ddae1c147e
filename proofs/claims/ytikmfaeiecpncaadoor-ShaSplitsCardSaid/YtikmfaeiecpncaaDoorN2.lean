/- The digest of a text however it is cut: the statement's walk. -/
import Derived.Test.YtikmfaeiecpncaaDoorO
import Derived.Test.YtikmfaeiecpncaaDoorN1
namespace Go.Proofs.YtikmfaeiecpncaaDoor
open Go.RowKit

theorem take_more (xs : List Int) (m r : Nat) : xs.take m ++ (xs.take (m + r)).drop m = xs.take (m + r) := by
  rw [List.drop_take, List.take_add]; congr 1; rw [show m + r - m = r by omega]
set_option maxHeartbeats 1600000 in
set_option maxRecDepth 100000 in
theorem splits_any (u v : Value) (xs ys : List Int) (w : World) (hg : Gl w) (hu : NumsAt .u8 w u xs) (hv : NumsAt .i64 w v ys) (hb : Byt xs) :
    Calls Tryd.prog 6 #[u, v] w fun e w' => e = .returned (.bool true) ∧ Below w.heap.size w w' := by
  obtain ⟨i0, hi, hz0, hz1, hz2⟩ := info_parts info5
  obtain ⟨a0, k0, rfl, _⟩ := slice_form hu
  obtain ⟨a1, k1, rfl, hyl, cb, co, hcc⟩ := hv.form
  replace hu := Lib.hid hu
  by_cases hbig : 300 < xs.length
  · have q1 : decide ((300 : Int) < xs.length) = true := by simp; omega
    go_enter Tryd.func6, Tryd.ntmps6
    go_wp2_with fail
    refine (awake_any w hg).mono ?_
    rintro e w1 ⟨rfl, hb1⟩
    go_wp2_with fail
    go_ret
    exact ⟨rfl, hb1⟩
  have q1 : decide ((300 : Int) < xs.length) = false := by simp; omega
  by_cases hbig2 : 6 < ys.length
  · have q2 : decide ((6 : Int) < ys.length) = true := by simp; omega
    go_enter Tryd.func6, Tryd.ntmps6
    go_wp2_with fail
    refine (awake_any w hg).mono ?_
    rintro e w1 ⟨rfl, hb1⟩
    go_wp2_with fail
    go_ret
    exact ⟨rfl, hb1⟩
  have q2 : decide ((6 : Int) < ys.length) = false := by simp; omega
  have qx : (xs.length : Int) ≤ 300 := by omega
  have qy : (ys.length : Int) ≤ 6 := by omega
  replace hg := Lib.hid hg
  replace hb := Lib.hid hb
  clear hv
  go_enter Tryd.func6, Tryd.ntmps6
  go_wp2_with fail
  go_loopw [7, 6, 5] (fun i t v wr => ∃ k m : Nat, ∃ ps : List (List Int), k ≤ ys.length ∧ m ≤ xs.length ∧ i = .int .i64 k ∧ t = .int .i64 m ∧ Hid (PartsOwn wr w.heap.size v ps) ∧ Hid (ps.flatten = xs.take m) ∧ Hid (ps.length = k) ∧ Hid (Below w.heap.size w wr)) (fun i _ _ _ => ys.length - (intOf i).toNat)
  case atStart => exact ⟨0, 0, [], Nat.zero_le _, Nat.zero_le _, rfl, rfl, PartsOwn.nil _ _, rfl, rfl, Below.refl _ _⟩
  case round =>
    obtain ⟨k, m, ps, hk, hm, rfl, rfl, hown, hfl, hpl, b1⟩ := hrel
    have hsz := b1.out.size
    obtain ⟨ap, np, cp, rfl⟩ := hown.out.form
    by_cases hlt : k < ys.length
    · have hkI : (k : Int) < ys.length := by omega
      have hmI : (m : Int) ≤ xs.length := by omega
      obtain ⟨rfl, hck⟩ := hcc.out k hlt
      have hcl := cell_lt hck
      have hck := (b1.out.cell (p := ⟨cb, co + k, none⟩) hcl).trans hck
      obtain ⟨y, hy⟩ := name_it (ys.getD k 0)
      rw [← hy.out] at hck
      obtain ⟨rI, hr, hr0, hr1⟩ := low_name y ((xs.length : Int) - m + 1) (by omega)
      obtain ⟨r, rfl⟩ := Int.eq_ofNat_of_zero_le hr0
      have hrl : m + r ≤ xs.length := by omega
      have n1 := Lib.hid (hu.out.below b1.out)
      obtain ⟨va, ca, ca'⟩ := cut_lh n1.out (m : Int) ((m : Int) + r) (by omega) (by omega) (by omega)
      rw [show (m : Int).toNat = m by omega, show ((m : Int) + r).toNat = m + r by omega] at ca'
      have na := Lib.hid (ca' _ n1.out)
      obtain ⟨aa, la, ka, rfl⟩ := slice_any na.out
      clear ca'
      have hrI : (m : Int) + r ≤ xs.length := by omega
      replace hr1 := Lib.hid hr1
      have hlen1 : ((xs.take (m + r)).drop m).length ≤ 300 := by simp; omega
      go_wp2_with fail
      refine (low_r y ((xs.length : Int) - m + 1) r wr hr (by omega) (by omega)).mono ?_
      rintro e w1 ⟨rfl, rfl⟩
      go_wp2_with (at_builtin; first
        | (refine wpList_append_nums rfl _ _ 22 rfl .u8 w.heap.size 5 i0 1 Tryd.underlying22 hi hz0 hz1 hz2 _ _ [] _ rfl (OwnNums.nil _ _ _ _) rfl na.out (by simp; omega) (by simp; omega) (by omega) ?_; intro v3 w3 hown3 hgr3; obtain ⟨a3, l3, c3, rfl⟩ := slice_any hown3.nums; replace hown3 := Lib.hid hown3; have hb3 := Lib.hid (below_grown_none hgr3 (Nat.le_refl _)); clear hgr3)
        | (refine wpList_append_part rfl _ _ rfl w.heap.size _ (.slice a3 l3 c3) w3.heap.size 22 ps _ rfl ((hown.out.below hb3.out).below ((Below.refl w3.heap.size w3).alloc (Nat.le_refl _) _)) rfl (Blk.new w3 22 _) (hown3.out.alloc _) (by have := hpl.out; omega) (by have := hb3.out.size; simp; omega) ?_; intro v4 w4 hown4 hgr4; obtain ⟨a4, l4, c4, rfl⟩ := hown4.form; replace hown4 := Lib.hid hown4; replace hgr4 := Lib.hid hgr4))
      have hlt4 := hown.out.lt
      have b4 : Below w.heap.size w w4 := ((b1.out.trans (hb3.out.mono (by omega))).alloc (by have := hb3.out.size; omega) _).grown hgr4.out (by have := hb3.out.size; simp; omega) hlt4
      replace hown4 : PartsOwn w4 w.heap.size _ (ps ++ [[] ++ (xs.take (m + r)).drop m]) := hown4.out
      rw [List.nil_append] at hown4
      go_roundw
      case rel => exact ⟨k + 1, m + r, ps ++ [(xs.take (m + r)).drop m], by omega, hrl, by go_num, by go_num, hown4, by show _ = _; simp only [List.flatten_append, hfl.out, List.flatten_cons, List.flatten_nil, List.append_nil]; exact take_more xs m r, by show _ = _; simp [hpl.out], b4⟩
      case measure => simp [intOf]; omega
    · obtain rfl : k = ys.length := by omega
      have n1 := Lib.hid (hu.out.below b1.out)
      have hmI : (m : Int) ≤ xs.length := by omega
      obtain ⟨va, ca, ca'⟩ := cut_l n1.out (m : Int) (by omega) (by omega)
      rw [show (m : Int).toNat = m by omega] at ca'
      have na := Lib.hid (ca' _ n1.out)
      obtain ⟨aa, la, ka, rfl⟩ := slice_any na.out
      clear ca'
      have hlen1 : (xs.drop m).length ≤ 300 := by simp; omega
      go_wp2_with (at_builtin; first
        | (refine wpList_append_nums rfl _ _ 22 rfl .u8 w.heap.size 5 i0 1 Tryd.underlying22 hi hz0 hz1 hz2 _ _ [] _ rfl (OwnNums.nil _ _ _ _) rfl na.out (by simp; omega) (by simp; omega) (by omega) ?_; intro v3 w3 hown3 hgr3; obtain ⟨a3, l3, c3, rfl⟩ := slice_any hown3.nums; replace hown3 := Lib.hid hown3; have hb3 := Lib.hid (below_grown_none hgr3 (Nat.le_refl _)); clear hgr3)
        | (refine wpList_append_part rfl _ _ rfl w.heap.size _ (.slice a3 l3 c3) w3.heap.size 22 ps _ rfl ((hown.out.below hb3.out).below ((Below.refl w3.heap.size w3).alloc (Nat.le_refl _) _)) rfl (Blk.new w3 22 _) (hown3.out.alloc _) (by have := hpl.out; omega) (by have := hb3.out.size; simp; omega) ?_; intro v4 w4 hown4 hgr4; obtain ⟨a4, l4, c4, rfl⟩ := hown4.form; replace hown4 := Lib.hid hown4; replace hgr4 := Lib.hid hgr4))
      have hlt4 := hown.out.lt
      have b4 : Below w.heap.size w w4 := ((b1.out.trans (hb3.out.mono (by omega))).alloc (by have := hb3.out.size; omega) _).grown hgr4.out (by have := hb3.out.size; simp; omega) hlt4
      replace hown4 : PartsOwn w4 w.heap.size _ (ps ++ [[] ++ xs.drop m]) := hown4.out
      rw [List.nil_append] at hown4
      have hfx : (ps ++ [xs.drop m]).flatten = xs := by rw [List.flatten_append, hfl.out]; simp
      have hpa := hown4.at (by simp; have := hpl.out; omega)
      obtain ⟨r, hr⟩ := name_it (sha xs)
      have hrl : Hid (r.length = 32) := by show _ = _; rw [hr.out]; exact sha_len _
      have hm26 := guard26
      obtain ⟨z, hz⟩ := name_it (sha [])
      have hzl : Hid (z.length = 32) := by show _ = _; rw [hz.out]; exact sha_len _
      have g4 := hg.out.below b4 hg.out.lt
      refine (sum_any _ _ xs w4 hfx hpa hb.out (by omega) g4).mono ?_
      rintro e w5 ⟨rfl, hb5⟩
      rw [← hr.out]
      have n5 := Lib.hid ((hu.out.below b4).below ⟨hb5.os, hb5.tape, hb5.output, hb5.size, hb5.block⟩)
      have g5 := Lib.hid (g4.below hb5 g4.lt)
      have b5 := Lib.hid (below_all b4 hb5)
      clear hpa hfx hown4 b4 g4 hb5 hgr4 hown hb3 hown3 hlt4
      go_wp2_with (at_builtin; refine wpList_append_nums rfl _ _ 22 rfl .u8 w.heap.size 5 i0 1 Tryd.underlying22 hi hz0 hz1 hz2 _ _ [] _ rfl (OwnNums.nil _ _ _ _) rfl n5.out (by simp; omega) (by simp; omega) b5.out.size ?_; intro v6 w6 hown6 hgr6; obtain ⟨a6, l6, c6, rfl⟩ := slice_any hown6.nums; replace hown6 := Lib.hid hown6; have hb6 := Lib.hid (below_grown_none hgr6 (Nat.le_refl _)); clear hgr6)
      have n6 : NumsAt .u8 w6 _ xs := hown6.out.nums
      have b7 := Lib.hid ((Below.refl w6.heap.size w6).alloc (Nat.le_refl _) (.cells #[.slice a6 l6 c6] 22))
      have p6 := parts_one (Blk.new w6 22 #[.slice a6 l6 c6]) (n6.alloc _)
      have g6 := g5.out.below hb6.out g5.out.lt
      refine (sum_any _ _ xs _ (by simp) p6 hb.out (by omega) (g6.below b7.out g6.lt)).mono ?_
      rintro e w7 ⟨rfl, hb7⟩
      rw [← hr.out]
      have e1 := equal_self arr26 r hrl.out w7
      have b8 := Lib.hid (below_all (below_all hb6.out b7.out) hb7)
      have g7 := Lib.hid (g5.out.below b8.out g5.out.lt)
      clear p6 n6 g6 hb7
      go_wp2_with fail
      refine (sum_any _ [] [] w7 rfl (parts_nil _) byt_nil (by simp) g7.out).mono ?_
      rintro e w8 ⟨rfl, hb8⟩
      rw [← hz.out]
      have g8 := Lib.hid (g7.out.below hb8 g7.out.lt)
      replace hb8 := Lib.hid hb8
      go_wp2_with fail
      have p8 := parts_two (Blk.new w8 22 #[.slice none 0 0, .slice none 0 0]) (nums_nil _ _) (nums_nil _ _)
      have b9 := Lib.hid ((Below.refl w8.heap.size w8).alloc (Nat.le_refl _) (.cells #[.slice none 0 0, .slice none 0 0] 22))
      refine (sum_any _ _ [] _ (by simp) p8 byt_nil (by simp) (g8.out.below b9.out g8.out.lt)).mono ?_
      rintro e w9 ⟨rfl, hb9⟩
      rw [← hz.out]
      have e2 := equal_self arr26 z hzl.out w9
      have b10 := Lib.hid (below_all hb8.out (below_all b9.out hb9))
      clear p8 hb9
      have g9 := Lib.hid (g7.out.below b10.out g7.out.lt)
      go_wp2_with fail
      refine (awake_any w9 g9.out).mono ?_
      rintro e w10 ⟨rfl, hb10⟩
      go_wp2_with fail
      go_ret
      exact ⟨rfl, below_all b5.out (below_all b8.out (below_all b10.out hb10))⟩
end Go.Proofs.YtikmfaeiecpncaaDoor
