/- A key masked. -/
import Derived.Test.YtikmfaeiecpncaaDoorN1
import Derived.Test.YtikmfaeiecpncaaDoorO
import Derived.Test.YtikmfaeiecpncaaDoorQ
namespace Go.Proofs.YtikmfaeiecpncaaDoor
open Go.RowKit

def xor8 (b x : Int) : Int := bits .xor .u8 x b
theorem xor8_bd (b x : Int) : 0 ≤ xor8 b x ∧ xor8 b x ≤ 255 := by
  show 0 ≤ IntKind.u8.wrap _ ∧ IntKind.u8.wrap _ ≤ 255
  rw [IntKind.wrap_u8']; omega
def kk (key : List Int) : List Int := if 64 < key.length then sha key else key
def maskB (key : List Int) (b : Int) : List Int := (padTo 64 (kk key)).map (xor8 b)
theorem maskB_len (key : List Int) (b : Int) : (maskB key b).length = 64 := by simp [maskB, padTo_len]
theorem byt_mask (key : List Int) (b : Int) : Byt (maskB key b) := byt_of fun m hm => by
  obtain ⟨x, _, rfl⟩ := List.mem_map.1 hm
  exact xor8_bd b x
theorem byt_kk {key : List Int} (h : Byt key) : Byt (kk key) := by unfold kk; split <;> first | exact byt_sha _ | exact h
def mac (key text : List Int) : List Int := sha (maskB key 92 ++ sha (maskB key 54 ++ text))
theorem mac_len (key text : List Int) : (mac key text).length = 32 := sha_len _
theorem byt_mac (key text : List Int) : Byt (mac key text) := byt_sha _
/-- The first k of them. -/
def xorN (b : Int) (L : List Int) : Nat → List Int
  | 0 => L
  | k + 1 => (xorN b L k).set k (xor8 b ((xorN b L k).getD k 0))
theorem xorN_len (b : Int) (L : List Int) (k : Nat) : (xorN b L k).length = L.length := by induction k with
  | zero => rfl
  | succ k ih => simp [xorN, ih]
theorem xorN_at (b : Int) (L : List Int) (k : Nat) : ∀ i, (xorN b L k)[i]? = if i < k then L[i]?.map (xor8 b) else L[i]? := by
  induction k with
  | zero => intro i; rw [xorN, if_neg (by omega)]
  | succ k ih =>
    intro i
    rw [xorN, List.getElem?_set, xorN_len]
    by_cases h : k = i
    · subst h
      rw [if_pos rfl, if_pos (show k < k + 1 by omega)]
      by_cases hk : k < L.length
      · rw [if_pos hk]
        have := ih k
        rw [if_neg (by omega)] at this
        simp [List.getD, this, List.getElem?_eq_getElem hk]
      · rw [if_neg hk, List.getElem?_eq_none (by omega)]; rfl
    · rw [if_neg h, ih i]
      by_cases h2 : i < k
      · rw [if_pos h2, if_pos (show i < k + 1 by omega)]
      · rw [if_neg h2, if_neg (show ¬ i < k + 1 by omega)]
theorem xorN_all (b : Int) (L : List Int) (n : Nat) (h : L.length = n) : xorN b L n = L.map (xor8 b) := by
  apply List.ext_getElem?
  intro i
  rw [xorN_at, List.getElem?_map]
  by_cases hi : i < n
  · rw [if_pos hi]
  · rw [if_neg hi, List.getElem?_eq_none (by omega)]; rfl

theorem arr26' : Tryd.prog.arrayLen 26 = 32 := by kernel_rfl
theorem el26 : Tryd.prog.elem 26 = 5 := by kernel_rfl
set_option maxHeartbeats 1600000 in
theorem masked_any (u : Value) (key : List Int) (b : Int) (w : World) (hg : Gl w) (hu : NumsAt .u8 w u key) (hb : Byt key) (hl : key.length ≤ 100000) :
    Calls Tryd.prog 53 #[u, .int .u8 b] w fun e w' => ∃ v, e = .returned v ∧ NumsAt .u8 w' v (maskB key b) ∧ Below w.heap.size w w' := by
  obtain ⟨a0, k0, rfl, _⟩ := slice_form hu
  have hc33 := fun (b : Nat) (w : World) => slice_all arr33 len33 el33 b 0 w
  have hc26 := fun (b : Nat) (w : World) => slice_all arr26 arr26' el26 b 0 w
  replace hb := Lib.hid hb
  replace hg := Lib.hid hg
  have n1 := Lib.hid (hu.alloc (.cells (bys (zb 64)) 33))
  have b1 := Lib.hid ((Below.refl w.heap.size w).alloc (Nat.le_refl _) (.cells (bys (zb 64)) 33))
  have l1 := Lib.hid (Blk.new w 33 (bys (zb 64)))
  obtain ⟨r, hr⟩ := name_it (maskB key b)
  rw [← hr.out]
  clear hu
  by_cases hbig : 64 < key.length
  · have q1 : decide ((64 : Int) < key.length) = true := by simp; omega
    have hk : kk key = sha key := by rw [kk, if_pos hbig]
    replace hk := Lib.hid hk
    clear hbig
    go_enter Tryd.func53, Tryd.ntmps53
    go_wp2_with fail
    change Calls _ _ _ ((w.alloc (.cells (bys (zb 64)) 33)).alloc (.cells #[.slice a0 key.length k0] 22)) _
    have hz : (w.alloc (.cells (bys (zb 64)) 33)).heap.size = w.heap.size + 1 := by simp
    generalize w.alloc (.cells (bys (zb 64)) 33) = w1 at n1 b1 l1 hz ⊢
    rw [← hz]
    have p1 := parts_one (Blk.new w1 22 #[.slice a0 key.length k0]) (n1.out.alloc _)
    have b2 := (Below.refl w1.heap.size w1).alloc (Nat.le_refl _) (.cells #[.slice a0 key.length k0] 22)
    have g1 := hg.out.below b1.out hg.out.lt
    refine (sum_any _ _ key _ (by simp) p1 hb.out hl (g1.below b2 g1.lt)).mono ?_
    rintro e w2 ⟨rfl, hb2⟩
    have b3 := Lib.hid (below_all b2 hb2)
    have l2 := Lib.hid (l1.out.below b3.out l1.out.lt)
    have l2l := l2.out.lt
    obtain ⟨z, hz'⟩ := name_it (sha key)
    rw [← hz'.out] at hk ⊢
    have hzl : Hid (z.length = 32) := by show _ = _; rw [hz'.out]; exact sha_len _
    have z8 : (Tryd.prog.info? 26).map (·.size) = some (bys z).size := by rw [bys_size, hzl.out]; exact sz26
    replace z8 := Lib.hid z8
    have ho8 : Hid ((bys (zb 32)).size = (bys z).size) := by show _ = _; rw [bys_size, bys_size, hzl.out]; rfl
    have l3 := Lib.hid ((l2.out.alloc (.cells (bys (zb 32)) 26)).rowOther (b' := w2.heap.size) (bys z) (by omega))
    have ln := Lib.hid ((Blk.new w2 26 (bys (zb 32))).setRow (bys z))
    have b4 := Lib.hid (below_setRow (g := w2.heap.size) ((below_all b1.out b3.out).alloc ((below_all b1.out b3.out).size) (.cells (bys (zb 32)) 26)) ((below_all b1.out b3.out).size) (bys z))
    have hne : w.heap.size ≠ w2.heap.size := by omega
    clear p1 b2 g1 hb2 b3 l2 l1 n1 b1 hz l2l
    have nk := ln.out.nums 32 hzl.out (by omega)
    replace nk : Hid (NumsAt .u8 ((w2.alloc (.cells (bys (zb 32)) 26)).setRow w2.heap.size (bys z)) (.slice (some ⟨w2.heap.size, 0, none⟩) 32 32) (kk key)) := by show NumsAt _ _ _ _; rw [hk.out]; exact nk
    go_wp2_with (first | refine wpList_store_row rfl 26 _ _ rfl _ _ rfl rfl 26 _ (Blk.new w2 26 (bys (zb 32))) z8.out ho8.out (bys_one _) ?_ | refine wpList_copy_zeros rfl _ _ rfl w.heap.size 64 64 33 _ _ rfl rfl l3.out nk.out ?_)
    change Code.wp _ _ _ _ (((w2.alloc (.cells (bys (zb 32)) 26)).setRow w2.heap.size (bys z)).setRow w.heap.size (bys (padTo 64 (kk key))))
    replace l3 := Lib.hid (l3.out.setRow (bys (padTo 64 (kk key))))
    replace b4 := Lib.hid (below_setRow b4.out (Nat.le_refl _) (bys (padTo 64 (kk key))))
    generalize ((w2.alloc (.cells (bys (zb 32)) 26)).setRow w2.heap.size (bys z)).setRow w.heap.size (bys (padTo 64 (kk key))) = w3 at l3 b4 ⊢
    clear ln nk z8 ho8
    obtain ⟨L, hL⟩ := name_it (padTo 64 (kk key))
    have hLl : Hid (L.length = 64) := by show _ = _; rw [hL.out]; exact padTo_len _ _
    rw [← hL.out] at l3
    try rw [put_none]
    go_loopw [18] (fun i wr => ∃ k : Nat, k ≤ 64 ∧ i = .int .i64 k ∧ Hid (Blk wr w.heap.size 33 (bys (xorN b L k))) ∧ Hid (Below w.heap.size w wr)) (fun i _ => 64 - (intOf i).toNat)
    case atStart => exact ⟨0, by omega, rfl, l3, b4⟩
    case round =>
      clear l3 b4
      obtain ⟨k, hk', rfl, l3, b4⟩ := hrel
      have hxl := xorN_len b L k
      rw [hLl.out] at hxl
      by_cases hlt : k < 64
      · have hkI : (k : Int) < 64 := by omega
        obtain ⟨x, hx⟩ := name_it ((xorN b L k).getD k 0)
        obtain ⟨y, hy⟩ := name_it (xor8 b x)
        have cc := l3.out.byte k (by omega)
        rw [← hx.out] at cc
        have ff := l3.out.fr k
        have eo : bits .xor .u8 x b = y := hy.out.symm
        go_wp2_with fail
        have l3' := l3.out.setByte k y
        rw [show (xorN b L k).set k y = xorN b L (k + 1) by rw [xorN, hy.out, hx.out]] at l3'
        have b4' := b4.out.setCell (p := ⟨w.heap.size, k, none⟩) (by show _ ≤ w.heap.size; omega) (.int .u8 y)
        go_roundw
        case rel => exact ⟨k + 1, by omega, by go_num, l3', b4'⟩
        case measure => simp [intOf]; omega
      · obtain rfl : k = 64 := by omega
        rw [xorN_all b L 64 hLl.out, show L.map (xor8 b) = r by rw [hL.out, hr.out]; rfl] at l3
        go_wp2_with fail
        go_ret
        exact ⟨_, rfl, l3.out.nums 64 (by rw [hr.out]; exact maskB_len _ _) (by omega), b4.out⟩
  · have q1 : decide ((64 : Int) < key.length) = false := by simp; omega
    have hk : kk key = key := by rw [kk, if_neg hbig]
    replace hk := Lib.hid hk
    have nk := n1
    rw [show NumsAt .u8 (w.alloc (.cells (bys (zb 64)) 33)) (.slice a0 key.length k0) key = NumsAt .u8 (w.alloc (.cells (bys (zb 64)) 33)) (.slice a0 key.length k0) (kk key) by rw [hk.out]] at nk
    have l3 := l1
    have b4 := b1
    clear hbig l1 b1 n1
    go_enter Tryd.func53, Tryd.ntmps53
    go_wp2_with (refine wpList_copy_zeros rfl _ _ rfl w.heap.size 64 64 33 _ _ rfl rfl l3.out nk.out ?_)
    change Code.wp _ _ _ _ ((w.alloc (.cells (bys (zb 64)) 33)).setRow w.heap.size (bys (padTo 64 (kk key))))
    replace l3 := Lib.hid (l3.out.setRow (bys (padTo 64 (kk key))))
    replace b4 := Lib.hid (below_setRow b4.out (Nat.le_refl _) (bys (padTo 64 (kk key))))
    generalize (w.alloc (.cells (bys (zb 64)) 33)).setRow w.heap.size (bys (padTo 64 (kk key))) = w3 at l3 b4 ⊢
    clear nk
    obtain ⟨L, hL⟩ := name_it (padTo 64 (kk key))
    have hLl : Hid (L.length = 64) := by show _ = _; rw [hL.out]; exact padTo_len _ _
    rw [← hL.out] at l3
    try rw [put_none]
    go_loopw [18] (fun i wr => ∃ k : Nat, k ≤ 64 ∧ i = .int .i64 k ∧ Hid (Blk wr w.heap.size 33 (bys (xorN b L k))) ∧ Hid (Below w.heap.size w wr)) (fun i _ => 64 - (intOf i).toNat)
    case atStart => exact ⟨0, by omega, rfl, l3, b4⟩
    case round =>
      clear l3 b4
      obtain ⟨k, hk', rfl, l3, b4⟩ := hrel
      have hxl := xorN_len b L k
      rw [hLl.out] at hxl
      by_cases hlt : k < 64
      · have hkI : (k : Int) < 64 := by omega
        obtain ⟨x, hx⟩ := name_it ((xorN b L k).getD k 0)
        obtain ⟨y, hy⟩ := name_it (xor8 b x)
        have cc := l3.out.byte k (by omega)
        rw [← hx.out] at cc
        have ff := l3.out.fr k
        have eo : bits .xor .u8 x b = y := hy.out.symm
        go_wp2_with fail
        have l3' := l3.out.setByte k y
        rw [show (xorN b L k).set k y = xorN b L (k + 1) by rw [xorN, hy.out, hx.out]] at l3'
        have b4' := b4.out.setCell (p := ⟨w.heap.size, k, none⟩) (by show _ ≤ w.heap.size; omega) (.int .u8 y)
        go_roundw
        case rel => exact ⟨k + 1, by omega, by go_num, l3', b4'⟩
        case measure => simp [intOf]; omega
      · obtain rfl : k = 64 := by omega
        rw [xorN_all b L 64 hLl.out, show L.map (xor8 b) = r by rw [hL.out, hr.out]; rfl] at l3
        go_wp2_with fail
        go_ret
        exact ⟨_, rfl, l3.out.nums 64 (by rw [hr.out]; exact maskB_len _ _) (by omega), b4.out⟩
end Go.Proofs.YtikmfaeiecpncaaDoor
