/- The reference's keyed digest. -/
import Derived.Test.YtikmfaeiecpncaaDoorHB
namespace Go.Proofs.YtikmfaeiecpncaaDoor
open Go.RowKit

def mskN (b : Int) (L : List Int) : Nat → List Int
  | 0 => List.replicate 64 0
  | k + 1 => (mskN b L k).set k (xor8 b (L.getD k 0))
theorem mskN_len (b : Int) (L : List Int) (k : Nat) : (mskN b L k).length = 64 := by induction k with
  | zero => rfl
  | succ k ih => simp [mskN, ih]
theorem mskN_at (b : Int) (L : List Int) (hL : L.length = 64) (k : Nat) (hk : k ≤ 64) : ∀ i, (mskN b L k)[i]? = if i < k then L[i]?.map (xor8 b) else if i < 64 then some 0 else none := by
  induction k with
  | zero => intro i; rw [mskN, List.getElem?_replicate, if_neg (show ¬ i < 0 by omega)]
  | succ k ih =>
    intro i
    rw [mskN, List.getElem?_set, mskN_len, ih (by omega) i]
    by_cases h : k = i
    · subst h
      rw [if_pos rfl, if_pos (by omega), if_pos (show k < k + 1 by omega)]
      simp [List.getD, List.getElem?_eq_getElem (show k < L.length by omega)]
    · rw [if_neg h]
      by_cases h2 : i < k
      · rw [if_pos h2, if_pos (show i < k + 1 by omega)]
      · rw [if_neg h2, if_neg (show ¬ i < k + 1 by omega)]
theorem mskN_all (b : Int) (L : List Int) (hL : L.length = 64) : mskN b L 64 = L.map (xor8 b) := by
  apply List.ext_getElem?
  intro i
  rw [mskN_at b L hL 64 (Nat.le_refl _), List.getElem?_map]
  by_cases hi : i < 64
  · rw [if_pos hi]
  · rw [if_neg hi, if_neg hi, List.getElem?_eq_none (by omega)]; rfl
theorem blk_keep {w w' : World} (h : Below w.heap.size w w') {b : Nat} {ty : TypeId} {cs : Array Value} (l : Blk w b ty cs) : Blk w' b ty cs := l.below h l.lt
theorem own_of_blk {w : World} {b n base : Nat} {xs : List Int} (h : Blk w b 5 (bys xs)) (hn : xs.length = n) (hb : base ≤ b) (hm : n ≤ 100000) : OwnNums .u8 5 w base (.slice (some ⟨b, 0, none⟩) n n) xs := by
  subst hn
  refine ⟨by simp, .inr ⟨b, xs.length, bys xs, rfl, hb, h, Nat.le_refl _, by unfold maxLen; omega, by simp [bys], ?_⟩⟩
  simp only [bys, Nat.mul_one]
  rw [show xs.length = (xs.map (Value.int .u8)).length by simp, List.take_length]
theorem padTo_at (n : Nat) (xs : List Int) (i : Nat) (h : xs.length ≤ n) : (padTo n xs).getD i 0 = if i < xs.length then xs.getD i 0 else 0 := by
  rw [padTo, List.take_of_length_le h]
  by_cases hi : i < xs.length
  · rw [if_pos hi]; simp [List.getD, List.getElem?_append, hi]
  · rw [if_neg hi]
    simp only [List.getD, List.getElem?_append, if_neg hi, List.getElem?_replicate]
    split <;> rfl
theorem kk_len (key : List Int) : (kk key).length ≤ 64 := by
  unfold kk; split
  · rw [sha_len]; omega
  · omega
theorem make_bytes (n : Nat) (hn : n ≤ 100000) (w : World) : (Instr.makeSlice 22 (.int .i64 n) (.int .i64 n)).run Tryd.prog w = .ok (.slice (some ⟨w.heap.size, 0, none⟩) n n) (w.alloc (.cells (bys (List.replicate n 0)) 5)) := by
  obtain ⟨i0, hi, hz0, hz1, hz2⟩ := info_parts info5
  have h := run_makeSlice (P := Tryd.prog) w 22 5 i0 (.int .u8 0) Tryd.underlying22 hi hz0 .i64 .i64 n n (by omega) (Int.le_refl _) (by rw [hz1]; omega) (by rw [hz2]; omega) (by omega)
  rw [h, hz1]
  simp only [Int.toNat_natCast, Nat.mul_one]
  have e : madeCells (Value.int .u8 0).cells n = bys (List.replicate n 0) := by
    apply Array.ext_getElem?
    intro i
    have hc : (Value.int .u8 0).cells = #[Value.int .u8 0] := rfl
    simp only [madeCells, hc, bys, List.map_replicate, List.getElem?_toArray, List.getElem?_replicate]
    by_cases hi : i < n
    · simp [hi, Nat.mod_one]
    · simp [hi]
  rw [e]
set_option maxHeartbeats 3200000 in
set_option maxRecDepth 100000 in
theorem rmac_any (u v : Value) (key text : List Int) (w : World) (hu : NumsAt .u8 w u key) (hv : NumsAt .u8 w v text) (hb : Byt key) (hbt : Byt text) (hl : key.length ≤ 10000) (hlt : text.length ≤ 10000) :
    Calls Tryd.prog 30 #[u, v] w fun e w' => e = .returned (.agg (bys (mac key text))) ∧ Below w.heap.size w w' := by
  obtain ⟨i0, hi, hz0, hz1, hz2⟩ := info_parts info5
  obtain ⟨a0, k0, rfl, _⟩ := slice_form hu
  obtain ⟨a1, l1', k1, rfl⟩ := slice_any hv
  obtain ⟨r, hr⟩ := name_it (mac key text)
  rw [← hr.out]
  have hrl : Hid (r.length = 32) := by show _ = _; rw [hr.out]; exact mac_len _ _
  obtain ⟨z, hz⟩ := name_it (sha (maskB key 54 ++ text))
  have hzl : Hid (z.length = 32) := by show _ = _; rw [hz.out]; exact sha_len _
  have hml := Lib.hid (maskB_len key 54)
  have hml2 := Lib.hid (maskB_len key 92)
  have hc26 := fun (b : Nat) (w : World) => slice_all arr26 arr26' el26 b 0 w
  obtain ⟨w1, hw1⟩ : ∃ x, x = w.alloc (.cells (bys (zb 32)) 26) := ⟨_, rfl⟩
  have b1 := Lib.hid (show Below w.heap.size w w1 by rw [hw1]; exact (Below.refl w.heap.size w).alloc (Nat.le_refl _) (.cells (bys (zb 32)) 26))
  have l1 := Lib.hid (show Blk w1 w.heap.size 26 (bys (zb 32)) by rw [hw1]; exact Blk.new w 26 (bys (zb 32)))
  have u1 := Lib.hid (hu.below b1.out)
  have v1 := Lib.hid (hv.below b1.out)
  have hsz1 : w.heap.size < w1.heap.size := l1.out.lt
  replace hb := Lib.hid hb
  replace hbt := Lib.hid hbt
  replace hw1 := Lib.hid hw1
  clear hu hv
  obtain ⟨L, hL⟩ := name_it (padTo 64 (kk key))
  have hLl : Hid (L.length = 64) := by show _ = _; rw [hL.out]; exact padTo_len _ _
  obtain ⟨K, hK⟩ := name_it (kk key)
  have hKl : K.length ≤ 64 := by rw [hK.out]; exact kk_len _
  have hKI : (K.length : Int) ≤ 64 := by omega
  have hLK : ∀ i, L.getD i 0 = if i < K.length then K.getD i 0 else 0 := fun i => by rw [hL.out, ← hK.out]; exact padTo_at 64 K i hKl
  replace hLK := Lib.hid hLK
  by_cases hbig : 64 < key.length
  · have q1 : decide ((64 : Int) < key.length) = true := by simp; omega
    have hk : K = sha key := by rw [hK.out, kk, if_pos hbig]
    replace hk := Lib.hid hk
    clear hbig
    go_enter Tryd.func30, Tryd.ntmps30
    go_wp2_with (at_builtin; refine wpList_append_nums rfl _ _ 22 rfl .u8 (w.heap.size + 1) 5 i0 1 Tryd.underlying22 hi hz0 hz1 hz2 _ _ [] key rfl (OwnNums.nil _ _ _ _) rfl (show NumsAt .u8 (w.alloc (.cells (bys (zb 32)) 26)) (.slice a0 key.length k0) key by rw [← hw1.out]; exact u1.out) (by simp; omega) (by simp; omega) (by simp) ?_; intro v2 w2 hown2 hgr2; obtain ⟨a2, k2, rfl, _⟩ := slice_form hown2.nums; rw [List.nil_append]; replace hown2 := Lib.hid hown2; replace hgr2 := Lib.hid hgr2)
    have hown2' : OwnNums .u8 5 w2 (w.heap.size + 1) (.slice a2 key.length k2) key := hown2.out
    have hgr2' := hgr2.out
    change (w.alloc (.cells (bys (zb 32)) 26)).grownBy w2 _ at hgr2'
    rw [← hw1.out] at hgr2'
    have b2 := below_grown_none hgr2' (Nat.le_refl _)
    have n2 := hown2'.nums
    refine (rsum_any _ key w2 n2 hb.out (by omega)).mono ?_
    rintro e w3 ⟨rfl, hb3⟩
    rw [← hk.out]
    have hKl32 : Hid (K.length = 32) := by show _ = _; rw [hk.out]; exact sha_len _
    have b3 := Lib.hid (below_all b2 hb3)
    have l3 := Lib.hid (blk_keep b3.out l1.out)
    have v3 := Lib.hid (v1.out.below b3.out)
    replace b3 := Lib.hid (below_all b1.out b3.out)
    clear hown2 hown2' hgr2 hgr2' b2 n2 hb3 u1
    have y8 : (Tryd.prog.info? 26).map (·.size) = some (bys K).size := by rw [bys_size, hKl32.out]; exact sz26
    replace y8 := Lib.hid y8
    have hy8 : Hid ((bys (zb 32)).size = (bys K).size) := by show _ = _; rw [bys_size, bys_size, hKl32.out]; rfl
    have lz := Lib.hid ((Blk.new w3 26 (bys (zb 32))).setRow (bys K))
    have b4 := Lib.hid (below_setRow (g := w3.heap.size) ((Below.refl w3.heap.size w3).alloc (Nat.le_refl _) (.cells (bys (zb 32)) 26)) (Nat.le_refl _) (bys K))
    obtain ⟨w4, hw4⟩ : ∃ x, x = (w3.alloc (.cells (bys (zb 32)) 26)).setRow w3.heap.size (bys K) := ⟨_, rfl⟩
    rw [← hw4] at lz b4
    have l4 := Lib.hid (blk_keep b4.out l3.out)
    have v4 := Lib.hid (v3.out.below b4.out)
    replace b4 := Lib.hid (below_all b3.out b4.out)
    have n4 := Lib.hid (lz.out.nums 32 hKl32.out (by omega))
    rw [← hKl32.out] at n4
    replace hw4 := Lib.hid hw4
    go_wp2_with (refine wpList_store_row rfl 26 _ _ rfl _ _ rfl rfl 26 _ (Blk.new w3 26 (bys (zb 32))) y8.out hy8.out (bys_one _) ?_; change wpList _ _ _ _ _ ((w3.alloc (.cells (bys (zb 32)) 26)).setRow w3.heap.size (bys K)); rw [← hw4.out])
    rw [← hKl32.out]
    obtain ⟨a2, ha2⟩ : ∃ a, a = some (⟨w3.heap.size, 0, none⟩ : Addr) := ⟨_, rfl⟩
    rw [← ha2] at n4 ⊢
    replace ha2 := Lib.hid ha2
    clear b3 l3 v3 lz y8 hy8
    have hmk : ∀ w : World, (Instr.makeSlice 22 (.int .i64 64) (.int .i64 64)).run Tryd.prog w = .ok (.slice (some ⟨w.heap.size, 0, none⟩) 64 64) (w.alloc (.cells (bys (List.replicate 64 0)) 5)) := fun w => make_bytes 64 (by omega) w
    have bW := Lib.hid ((((Below.refl w4.heap.size w4).alloc (Nat.le_refl _) (.cells (bys (zb 64)) 5)).alloc (by simp) (.cells (bys (zb 64)) 5)).drew)
    have x0 := Lib.hid (show Blk ((w4.alloc (.cells (bys (zb 64)) 5)).alloc (.cells (bys (zb 64)) 5)).drew w4.heap.size 5 (bys (zb 64)) from (Blk.new w4 5 (bys (zb 64))).alloc (.cells (bys (zb 64)) 5))
    have x1 := Blk.new (w4.alloc (.cells (bys (zb 64)) 5)) 5 (bys (zb 64))
    rw [show (w4.alloc (.cells (bys (zb 64)) 5)).heap.size = w4.heap.size + 1 by simp] at x1
    replace x1 := Lib.hid (show Blk ((w4.alloc (.cells (bys (zb 64)) 5)).alloc (.cells (bys (zb 64)) 5)).drew (w4.heap.size + 1) 5 (bys (zb 64)) from x1)
    obtain ⟨w5, hw5⟩ : ∃ x, x = ((w4.alloc (.cells (bys (zb 64)) 5)).alloc (.cells (bys (zb 64)) 5)).drew := ⟨_, rfl⟩
    rw [← hw5] at bW x0 x1
    have n5 := Lib.hid (n4.out.below bW.out)
    have l5 := Lib.hid (blk_keep bW.out l4.out)
    have v5 := Lib.hid (v4.out.below bW.out)
    have b5 := Lib.hid (below_all b4.out bW.out)
    have hB4 : w.heap.size < w4.heap.size := l4.out.lt
    have hsz5 : w4.heap.size + 1 < w5.heap.size := x1.out.lt
    have hKf := n4.out.form
    obtain ⟨bK, oK, hcK⟩ : ∃ b off, Hid (∀ i, i < K.length → a2 = some ⟨b, off, none⟩ ∧ w4.cell? ⟨b, off + i, none⟩ = some (.int .u8 (K.getD i 0))) := by
      obtain ⟨a', c', he, _, b, off, hc⟩ := hKf
      simp only [Value.slice.injEq, true_and] at he
      obtain ⟨rfl, rfl⟩ := he
      exact ⟨b, off, hc⟩
    clear hKf n5 l5 v5 b5
    replace hw5 := Lib.hid hw5
    go_region
    · change Exit.then _ _ Exit.normal _ (((w4.alloc (.cells (bys (zb 64)) 5)).alloc (.cells (bys (zb 64)) 5)).drew)
      rw [← hw5.out]
      go_wp2_with fail
      go_loopw [9] (fun i wr => ∃ k : Nat, k ≤ 64 ∧ i = .int .i64 k ∧ Hid (Blk wr (w4.heap.size) 5 (bys (mskN 54 L k))) ∧ Hid (Blk wr (w4.heap.size + 1) 5 (bys (mskN 92 L k))) ∧ Hid (Below w4.heap.size w4 wr)) (fun i _ => 64 - (intOf i).toNat)
      case atStart => exact ⟨0, by omega, rfl, x0, x1, bW⟩
      case round =>
        obtain ⟨k, hk', rfl, li, lo, bb⟩ := hrel
        have hli := mskN_len 54 L k
        have hlo := mskN_len 92 L k
        replace hli := Lib.hid hli
        replace hlo := Lib.hid hlo
        by_cases hlt : k < 64
        · have hkI : (k : Int) < 64 := by omega
          have ci := li.out.byte k (by rw [hli.out]; exact hlt)
          have fi := li.out.fr k
          have co := lo.out.byte k (by rw [hlo.out]; exact hlt)
          have fo := lo.out.fr k
          obtain ⟨p, hp⟩ := name_it ((mskN 54 L k).getD k 0)
          obtain ⟨q, hq⟩ := name_it ((mskN 92 L k).getD k 0)
          rw [← hp.out] at ci
          rw [← hq.out] at co
          obtain ⟨x, hx⟩ := name_it (L.getD k 0)
          obtain ⟨y1, hy1⟩ := name_it (xor8 54 x)
          obtain ⟨y2, hy2⟩ := name_it (xor8 92 x)
          have e54 : bits .xor .u8 x 54 = y1 := hy1.out.symm
          have e92 : bits .xor .u8 x 92 = y2 := hy2.out.symm
          have co' : (wr.setCell ⟨w4.heap.size, k, none⟩ (.int .u8 y1)).cell? ⟨w4.heap.size + 1, k, none⟩ = some (.int .u8 q) := by
            rw [← co]; exact World.cell?_of_block (w := wr) (Below.heap_setCell wr _ _ _ (by show (w4.heap.size + 1) ≠ (w4.heap.size); omega))
          have fo' : (wr.setCell ⟨w4.heap.size, k, none⟩ (.int .u8 y1)).frozen? ⟨w4.heap.size + 1, k, none⟩ = false := by
            rw [← fo]; exact World.frozen?_of_block (w := wr) (Below.heap_setCell wr _ _ _ (by show (w4.heap.size + 1) ≠ (w4.heap.size); omega))
          have li' := (li.out.setByte k y1).setOther (b' := w4.heap.size + 1) (o := k) (.int .u8 y2) (by omega)
          have lo' := (lo.out.setOther (b' := w4.heap.size) (o := k) (.int .u8 y1) (by omega)).setByte k y2
          rw [show (mskN 54 L k).set k y1 = mskN 54 L (k + 1) by rw [mskN, hy1.out, hx.out]] at li'
          rw [show (mskN 92 L k).set k y2 = mskN 92 L (k + 1) by rw [mskN, hy2.out, hx.out]] at lo'
          have bb' := (bb.out.setCell (p := ⟨w4.heap.size, k, none⟩) (by show _ ≤ w4.heap.size; omega) (.int .u8 y1)).setCell (p := ⟨w4.heap.size + 1, k, none⟩) (by show _ ≤ w4.heap.size + 1; omega) (.int .u8 y2)
          replace li' := Lib.hid li'
          replace lo' := Lib.hid lo'
          replace bb' := Lib.hid bb'
          by_cases hkk : k < K.length
          · have hkkI : (k : Int) < K.length := by omega
            have hxK : x = K.getD k 0 := by rw [hx.out, hLK.out k, if_pos hkk]
            obtain ⟨rfl, ck⟩ := hcK.out k hkk
            have hbl := cell_lt ck
            have ck := (bb.out.cell (p := ⟨bK, oK + k, none⟩) hbl).trans ck
            rw [← hxK] at ck
            replace hxK := Lib.hid hxK
            go_wp2_with fail
            go_roundw
            case rel => exact ⟨k + 1, by omega, by go_num, li', lo', bb'⟩
            case measure => simp [intOf]; omega
          · have hkkd : decide ((k : Int) < K.length) = false := by simp; omega
            have hkkd' : decide (k < K.length) = false := by simp; omega
            have hx0 : x = 0 := by rw [hx.out, hLK.out k, if_neg hkk]
            clear hkk
            replace hx := Lib.hid hx.out
            subst hx0
            go_wp2_with fail
            go_roundw
            case rel => exact ⟨k + 1, by omega, by go_num, li', lo', bb'⟩
            case measure => simp [intOf]; omega
        · obtain rfl : k = 64 := by omega
          rw [mskN_all 54 L hLl.out, show L.map (xor8 54) = maskB key 54 by rw [hL.out]; rfl] at li
          rw [mskN_all 92 L hLl.out, show L.map (xor8 92) = maskB key 92 by rw [hL.out]; rfl] at lo
          have oi := own_of_blk li.out hml.out (show w4.heap.size ≤ w4.heap.size by omega) (by omega)
          have vr := Lib.hid (v4.out.below bb.out)
          have lr := Lib.hid (blk_keep bb.out l4.out)
          have hbb := bb.out.size
          replace oi := Lib.hid oi
          replace bb := Lib.hid (b4.out.trans (bb.out.mono (by omega)))
          clear hlt hli hlo hcK
          go_wp2_with (at_builtin; refine wpList_append_nums rfl _ _ 22 rfl .u8 w4.heap.size 5 i0 1 Tryd.underlying22 hi hz0 hz1 hz2 (.slice (some ⟨w4.heap.size, 0, none⟩) 64 64) _ (maskB key 54) text rfl oi.out rfl vr.out (by rw [hml.out]; omega) (by rw [hml.out]; omega) hbb ?_; intro v6 w6 hown6 hgr6; replace hown6 := Lib.hid hown6; replace hgr6 := Lib.hid hgr6)
          have b6 := bb.out.grown hgr6.out (by omega) (fun j hj => by have : (w4.heap.size) = j := by simpa [Value.ownBlock] using hj
                                                                      omega)
          have l6 := lr.out.grown hgr6.out (fun e => by have : w.heap.size = (w4.heap.size) := by simpa [Value.ownBlock] using e
                                                        omega)
          have o6 := lo.out.grown hgr6.out (fun e => by have := Option.some.inj (show some (w4.heap.size + 1) = some (w4.heap.size) from e); omega)
          have n6 := hown6.out.nums
          refine (rsum_any _ _ w6 n6 (byt_app (byt_mask _ _) hbt.out) (by rw [List.length_append, hml.out]; omega)).mono ?_
          rintro e w7 ⟨rfl, hb7⟩
          rw [← hz.out]
          have b7 := Lib.hid (b6.trans (hb7.mono b6.size))
          have l7 := Lib.hid (blk_keep hb7 l6)
          have o7 := Lib.hid (blk_keep hb7 o6)
          have hs7 := o7.out.lt
          have hs7' := l7.out.lt
          clear hown6 hgr6 b6 l6 o6 n6 hb7 li lo oi vr lr bb
          have y8 : (Tryd.prog.info? 26).map (·.size) = some (bys z).size := by rw [bys_size, hzl.out]; exact sz26
          replace y8 := Lib.hid y8
          have hy8 : Hid ((bys (zb 32)).size = (bys z).size) := by show _ = _; rw [bys_size, bys_size, hzl.out]; rfl
          have lz := Lib.hid ((Blk.new w7 26 (bys (zb 32))).setRow (bys z))
          have b8 := Lib.hid (below_setRow (g := w7.heap.size) ((Below.refl w7.heap.size w7).alloc (Nat.le_refl _) (.cells (bys (zb 32)) 26)) (Nat.le_refl _) (bys z))
          obtain ⟨w8, hw8⟩ : ∃ x, x = (w7.alloc (.cells (bys (zb 32)) 26)).setRow w7.heap.size (bys z) := ⟨_, rfl⟩
          rw [← hw8] at lz b8
          have l8 := Lib.hid (blk_keep b8.out l7.out)
          have o8 := blk_keep b8.out o7.out
          have z8n := Lib.hid (lz.out.nums 32 hzl.out (by omega))
          have oo := Lib.hid (own_of_blk o8 hml2.out (show w4.heap.size ≤ w4.heap.size + 1 by omega) (by omega))
          replace b8 := Lib.hid (b7.out.trans (b8.out.mono b7.out.size))
          have hs8 : w4.heap.size ≤ w8.heap.size := by have := o8.lt; omega
          replace hw8 := Lib.hid hw8
          go_wp2_with (first
            | (refine wpList_store_row rfl 26 _ _ rfl _ _ rfl rfl 26 _ (Blk.new w7 26 (bys (zb 32))) y8.out hy8.out (bys_one _) ?_; change wpList _ _ _ _ _ ((w7.alloc (.cells (bys (zb 32)) 26)).setRow w7.heap.size (bys z)); rw [← hw8.out])
            | (at_builtin; refine wpList_append_nums rfl _ _ 22 rfl .u8 w4.heap.size 5 i0 1 Tryd.underlying22 hi hz0 hz1 hz2 (.slice (some ⟨w4.heap.size + 1, 0, none⟩) 64 64) _ (maskB key 92) z rfl oo.out rfl z8n.out (by rw [hml2.out, hzl.out]; omega) (by rw [hml2.out, hzl.out]; omega) hs8 ?_; intro v9 w9 hown9 hgr9; replace hown9 := Lib.hid hown9; replace hgr9 := Lib.hid hgr9))
          have b9 := b8.out.grown hgr9.out (by omega) (fun j hj => by have : (w4.heap.size + 1) = j := by simpa [Value.ownBlock] using hj
                                                                      omega)
          have l9 := l8.out.grown hgr9.out (fun e => by have : w.heap.size = (w4.heap.size + 1) := by simpa [Value.ownBlock] using e
                                                        omega)
          refine (rsum_any _ _ w9 hown9.out.nums (byt_app (byt_mask _ _) (by rw [hz.out]; exact byt_sha _)) (by rw [List.length_append, hml2.out, hzl.out]; omega)).mono ?_
          rintro e w10 ⟨rfl, hb10⟩
          have hrr : sha (maskB key 92 ++ z) = r := by rw [hr.out, hz.out]; rfl
          rw [hrr]
          have b10 := Lib.hid (b9.trans (hb10.mono b9.size))
          have l10 := Lib.hid (blk_keep hb10 l9)
          clear hown9 hgr9 b9 l9 hb10 hrr
          have x8 : (Tryd.prog.info? 26).map (·.size) = some (bys r).size := by rw [bys_size, hrl.out]; exact sz26
          replace x8 := Lib.hid x8
          have hx8 : Hid ((bys (zb 32)).size = (bys r).size) := by show _ = _; rw [bys_size, bys_size, hrl.out]; rfl
          have l11 := Lib.hid (l10.out.setRow (bys r))
          have b11 := Lib.hid (below_setRow b10.out (Nat.le_refl _) (bys r))
          go_wp2_with (refine wpList_store_row rfl 26 _ _ rfl _ _ rfl rfl 26 _ l10.out x8.out hx8.out (bys_one _) ?_)
          replace l11 := l11.out
          replace b11 := b11.out
          generalize w10.setRow w.heap.size (bys r) = w11 at l11 b11 ⊢
          exact bodyPost_ret (results_cell_row rfl _ _ _ 26 _ _ _ rfl l11 arr26 rfl x8.out) rfl ⟨rfl, b11⟩
    · change Exit.then _ _ Exit.normal _ (((w4.alloc (.cells (bys (zb 64)) 5)).alloc (.cells (bys (zb 64)) 5)).drew)
      rw [← hw5.out]
      go_wp2_with fail
      go_loopw [9] (fun i wr => ∃ k : Nat, k ≤ 64 ∧ i = .int .i64 k ∧ Hid (Blk wr (w4.heap.size + 1) 5 (bys (mskN 54 L k))) ∧ Hid (Blk wr (w4.heap.size) 5 (bys (mskN 92 L k))) ∧ Hid (Below w4.heap.size w4 wr)) (fun i _ => 64 - (intOf i).toNat)
      case atStart => exact ⟨0, by omega, rfl, x1, x0, bW⟩
      case round =>
        obtain ⟨k, hk', rfl, li, lo, bb⟩ := hrel
        have hli := mskN_len 54 L k
        have hlo := mskN_len 92 L k
        replace hli := Lib.hid hli
        replace hlo := Lib.hid hlo
        by_cases hlt : k < 64
        · have hkI : (k : Int) < 64 := by omega
          have ci := li.out.byte k (by rw [hli.out]; exact hlt)
          have fi := li.out.fr k
          have co := lo.out.byte k (by rw [hlo.out]; exact hlt)
          have fo := lo.out.fr k
          obtain ⟨p, hp⟩ := name_it ((mskN 54 L k).getD k 0)
          obtain ⟨q, hq⟩ := name_it ((mskN 92 L k).getD k 0)
          rw [← hp.out] at ci
          rw [← hq.out] at co
          obtain ⟨x, hx⟩ := name_it (L.getD k 0)
          obtain ⟨y1, hy1⟩ := name_it (xor8 54 x)
          obtain ⟨y2, hy2⟩ := name_it (xor8 92 x)
          have e54 : bits .xor .u8 x 54 = y1 := hy1.out.symm
          have e92 : bits .xor .u8 x 92 = y2 := hy2.out.symm
          have co' : (wr.setCell ⟨w4.heap.size + 1, k, none⟩ (.int .u8 y1)).cell? ⟨w4.heap.size, k, none⟩ = some (.int .u8 q) := by
            rw [← co]; exact World.cell?_of_block (w := wr) (Below.heap_setCell wr _ _ _ (by show (w4.heap.size) ≠ (w4.heap.size + 1); omega))
          have fo' : (wr.setCell ⟨w4.heap.size + 1, k, none⟩ (.int .u8 y1)).frozen? ⟨w4.heap.size, k, none⟩ = false := by
            rw [← fo]; exact World.frozen?_of_block (w := wr) (Below.heap_setCell wr _ _ _ (by show (w4.heap.size) ≠ (w4.heap.size + 1); omega))
          have li' := (li.out.setByte k y1).setOther (b' := w4.heap.size) (o := k) (.int .u8 y2) (by omega)
          have lo' := (lo.out.setOther (b' := w4.heap.size + 1) (o := k) (.int .u8 y1) (by omega)).setByte k y2
          rw [show (mskN 54 L k).set k y1 = mskN 54 L (k + 1) by rw [mskN, hy1.out, hx.out]] at li'
          rw [show (mskN 92 L k).set k y2 = mskN 92 L (k + 1) by rw [mskN, hy2.out, hx.out]] at lo'
          have bb' := (bb.out.setCell (p := ⟨w4.heap.size + 1, k, none⟩) (by show _ ≤ w4.heap.size + 1; omega) (.int .u8 y1)).setCell (p := ⟨w4.heap.size, k, none⟩) (by show _ ≤ w4.heap.size; omega) (.int .u8 y2)
          replace li' := Lib.hid li'
          replace lo' := Lib.hid lo'
          replace bb' := Lib.hid bb'
          by_cases hkk : k < K.length
          · have hkkI : (k : Int) < K.length := by omega
            have hxK : x = K.getD k 0 := by rw [hx.out, hLK.out k, if_pos hkk]
            obtain ⟨rfl, ck⟩ := hcK.out k hkk
            have hbl := cell_lt ck
            have ck := (bb.out.cell (p := ⟨bK, oK + k, none⟩) hbl).trans ck
            rw [← hxK] at ck
            replace hxK := Lib.hid hxK
            go_wp2_with fail
            go_roundw
            case rel => exact ⟨k + 1, by omega, by go_num, li', lo', bb'⟩
            case measure => simp [intOf]; omega
          · have hkkd : decide ((k : Int) < K.length) = false := by simp; omega
            have hkkd' : decide (k < K.length) = false := by simp; omega
            have hx0 : x = 0 := by rw [hx.out, hLK.out k, if_neg hkk]
            clear hkk
            replace hx := Lib.hid hx.out
            subst hx0
            go_wp2_with fail
            go_roundw
            case rel => exact ⟨k + 1, by omega, by go_num, li', lo', bb'⟩
            case measure => simp [intOf]; omega
        · obtain rfl : k = 64 := by omega
          rw [mskN_all 54 L hLl.out, show L.map (xor8 54) = maskB key 54 by rw [hL.out]; rfl] at li
          rw [mskN_all 92 L hLl.out, show L.map (xor8 92) = maskB key 92 by rw [hL.out]; rfl] at lo
          have oi := own_of_blk li.out hml.out (show w4.heap.size ≤ w4.heap.size + 1 by omega) (by omega)
          have vr := Lib.hid (v4.out.below bb.out)
          have lr := Lib.hid (blk_keep bb.out l4.out)
          have hbb := bb.out.size
          replace oi := Lib.hid oi
          replace bb := Lib.hid (b4.out.trans (bb.out.mono (by omega)))
          clear hlt hli hlo hcK
          go_wp2_with (at_builtin; refine wpList_append_nums rfl _ _ 22 rfl .u8 w4.heap.size 5 i0 1 Tryd.underlying22 hi hz0 hz1 hz2 (.slice (some ⟨w4.heap.size + 1, 0, none⟩) 64 64) _ (maskB key 54) text rfl oi.out rfl vr.out (by rw [hml.out]; omega) (by rw [hml.out]; omega) hbb ?_; intro v6 w6 hown6 hgr6; replace hown6 := Lib.hid hown6; replace hgr6 := Lib.hid hgr6)
          have b6 := bb.out.grown hgr6.out (by omega) (fun j hj => by have : (w4.heap.size + 1) = j := by simpa [Value.ownBlock] using hj
                                                                      omega)
          have l6 := lr.out.grown hgr6.out (fun e => by have : w.heap.size = (w4.heap.size + 1) := by simpa [Value.ownBlock] using e
                                                        omega)
          have o6 := lo.out.grown hgr6.out (fun e => by have := Option.some.inj (show some (w4.heap.size) = some (w4.heap.size + 1) from e); omega)
          have n6 := hown6.out.nums
          refine (rsum_any _ _ w6 n6 (byt_app (byt_mask _ _) hbt.out) (by rw [List.length_append, hml.out]; omega)).mono ?_
          rintro e w7 ⟨rfl, hb7⟩
          rw [← hz.out]
          have b7 := Lib.hid (b6.trans (hb7.mono b6.size))
          have l7 := Lib.hid (blk_keep hb7 l6)
          have o7 := Lib.hid (blk_keep hb7 o6)
          have hs7 := o7.out.lt
          have hs7' := l7.out.lt
          clear hown6 hgr6 b6 l6 o6 n6 hb7 li lo oi vr lr bb
          have y8 : (Tryd.prog.info? 26).map (·.size) = some (bys z).size := by rw [bys_size, hzl.out]; exact sz26
          replace y8 := Lib.hid y8
          have hy8 : Hid ((bys (zb 32)).size = (bys z).size) := by show _ = _; rw [bys_size, bys_size, hzl.out]; rfl
          have lz := Lib.hid ((Blk.new w7 26 (bys (zb 32))).setRow (bys z))
          have b8 := Lib.hid (below_setRow (g := w7.heap.size) ((Below.refl w7.heap.size w7).alloc (Nat.le_refl _) (.cells (bys (zb 32)) 26)) (Nat.le_refl _) (bys z))
          obtain ⟨w8, hw8⟩ : ∃ x, x = (w7.alloc (.cells (bys (zb 32)) 26)).setRow w7.heap.size (bys z) := ⟨_, rfl⟩
          rw [← hw8] at lz b8
          have l8 := Lib.hid (blk_keep b8.out l7.out)
          have o8 := blk_keep b8.out o7.out
          have z8n := Lib.hid (lz.out.nums 32 hzl.out (by omega))
          have oo := Lib.hid (own_of_blk o8 hml2.out (show w4.heap.size ≤ w4.heap.size by omega) (by omega))
          replace b8 := Lib.hid (b7.out.trans (b8.out.mono b7.out.size))
          have hs8 : w4.heap.size ≤ w8.heap.size := by have := o8.lt; omega
          replace hw8 := Lib.hid hw8
          go_wp2_with (first
            | (refine wpList_store_row rfl 26 _ _ rfl _ _ rfl rfl 26 _ (Blk.new w7 26 (bys (zb 32))) y8.out hy8.out (bys_one _) ?_; change wpList _ _ _ _ _ ((w7.alloc (.cells (bys (zb 32)) 26)).setRow w7.heap.size (bys z)); rw [← hw8.out])
            | (at_builtin; refine wpList_append_nums rfl _ _ 22 rfl .u8 w4.heap.size 5 i0 1 Tryd.underlying22 hi hz0 hz1 hz2 (.slice (some ⟨w4.heap.size, 0, none⟩) 64 64) _ (maskB key 92) z rfl oo.out rfl z8n.out (by rw [hml2.out, hzl.out]; omega) (by rw [hml2.out, hzl.out]; omega) hs8 ?_; intro v9 w9 hown9 hgr9; replace hown9 := Lib.hid hown9; replace hgr9 := Lib.hid hgr9))
          have b9 := b8.out.grown hgr9.out (by omega) (fun j hj => by have : (w4.heap.size) = j := by simpa [Value.ownBlock] using hj
                                                                      omega)
          have l9 := l8.out.grown hgr9.out (fun e => by have : w.heap.size = (w4.heap.size) := by simpa [Value.ownBlock] using e
                                                        omega)
          refine (rsum_any _ _ w9 hown9.out.nums (byt_app (byt_mask _ _) (by rw [hz.out]; exact byt_sha _)) (by rw [List.length_append, hml2.out, hzl.out]; omega)).mono ?_
          rintro e w10 ⟨rfl, hb10⟩
          have hrr : sha (maskB key 92 ++ z) = r := by rw [hr.out, hz.out]; rfl
          rw [hrr]
          have b10 := Lib.hid (b9.trans (hb10.mono b9.size))
          have l10 := Lib.hid (blk_keep hb10 l9)
          clear hown9 hgr9 b9 l9 hb10 hrr
          have x8 : (Tryd.prog.info? 26).map (·.size) = some (bys r).size := by rw [bys_size, hrl.out]; exact sz26
          replace x8 := Lib.hid x8
          have hx8 : Hid ((bys (zb 32)).size = (bys r).size) := by show _ = _; rw [bys_size, bys_size, hrl.out]; rfl
          have l11 := Lib.hid (l10.out.setRow (bys r))
          have b11 := Lib.hid (below_setRow b10.out (Nat.le_refl _) (bys r))
          go_wp2_with (refine wpList_store_row rfl 26 _ _ rfl _ _ rfl rfl 26 _ l10.out x8.out hx8.out (bys_one _) ?_)
          replace l11 := l11.out
          replace b11 := b11.out
          generalize w10.setRow w.heap.size (bys r) = w11 at l11 b11 ⊢
          exact bodyPost_ret (results_cell_row rfl _ _ _ 26 _ _ _ rfl l11 arr26 rfl x8.out) rfl ⟨rfl, b11⟩
  · have q1 : decide ((64 : Int) < key.length) = false := by simp; omega
    have hk : K = key := by rw [hK.out, kk, if_neg hbig]
    clear hbig
    go_enter Tryd.func30, Tryd.ntmps30
    go_wp2_with (at_builtin; refine wpList_append_nums rfl _ _ 22 rfl .u8 (w.heap.size + 1) 5 i0 1 Tryd.underlying22 hi hz0 hz1 hz2 _ _ [] key rfl (OwnNums.nil _ _ _ _) rfl (show NumsAt .u8 (w.alloc (.cells (bys (zb 32)) 26)) (.slice a0 key.length k0) key by rw [← hw1.out]; exact u1.out) (by simp; omega) (by simp; omega) (by simp) ?_; intro v2 w2 hown2 hgr2; obtain ⟨a2, k2, rfl, _⟩ := slice_form hown2.nums; rw [List.nil_append]; replace hown2 := Lib.hid hown2; replace hgr2 := Lib.hid hgr2)
    have hown2' : OwnNums .u8 5 w2 (w.heap.size + 1) (.slice a2 key.length k2) key := hown2.out
    have hgr2' := hgr2.out
    change (w.alloc (.cells (bys (zb 32)) 26)).grownBy w2 _ at hgr2'
    rw [← hw1.out] at hgr2'
    have b2 := below_grown_none hgr2' (Nat.le_refl _)
    have n2 := hown2'.nums
    rw [← hk] at n2 ⊢
    obtain ⟨w4, hw4⟩ : ∃ x, x = w2 := ⟨_, rfl⟩
    subst hw4
    have n4 := Lib.hid n2
    have l4 := Lib.hid (blk_keep b2 l1.out)
    have v4 := Lib.hid (v1.out.below b2)
    have b4 := Lib.hid (below_all b1.out b2)
    replace hk := Lib.hid hk
    clear hown2 hown2' hgr2 hgr2' b2 n2
    have hmk : ∀ w : World, (Instr.makeSlice 22 (.int .i64 64) (.int .i64 64)).run Tryd.prog w = .ok (.slice (some ⟨w.heap.size, 0, none⟩) 64 64) (w.alloc (.cells (bys (List.replicate 64 0)) 5)) := fun w => make_bytes 64 (by omega) w
    have bW := Lib.hid ((((Below.refl w4.heap.size w4).alloc (Nat.le_refl _) (.cells (bys (zb 64)) 5)).alloc (by simp) (.cells (bys (zb 64)) 5)).drew)
    have x0 := Lib.hid (show Blk ((w4.alloc (.cells (bys (zb 64)) 5)).alloc (.cells (bys (zb 64)) 5)).drew w4.heap.size 5 (bys (zb 64)) from (Blk.new w4 5 (bys (zb 64))).alloc (.cells (bys (zb 64)) 5))
    have x1 := Blk.new (w4.alloc (.cells (bys (zb 64)) 5)) 5 (bys (zb 64))
    rw [show (w4.alloc (.cells (bys (zb 64)) 5)).heap.size = w4.heap.size + 1 by simp] at x1
    replace x1 := Lib.hid (show Blk ((w4.alloc (.cells (bys (zb 64)) 5)).alloc (.cells (bys (zb 64)) 5)).drew (w4.heap.size + 1) 5 (bys (zb 64)) from x1)
    obtain ⟨w5, hw5⟩ : ∃ x, x = ((w4.alloc (.cells (bys (zb 64)) 5)).alloc (.cells (bys (zb 64)) 5)).drew := ⟨_, rfl⟩
    rw [← hw5] at bW x0 x1
    have n5 := Lib.hid (n4.out.below bW.out)
    have l5 := Lib.hid (blk_keep bW.out l4.out)
    have v5 := Lib.hid (v4.out.below bW.out)
    have b5 := Lib.hid (below_all b4.out bW.out)
    have hB4 : w.heap.size < w4.heap.size := l4.out.lt
    have hsz5 : w4.heap.size + 1 < w5.heap.size := x1.out.lt
    have hKf := n4.out.form
    obtain ⟨bK, oK, hcK⟩ : ∃ b off, Hid (∀ i, i < K.length → a2 = some ⟨b, off, none⟩ ∧ w4.cell? ⟨b, off + i, none⟩ = some (.int .u8 (K.getD i 0))) := by
      obtain ⟨a', c', he, _, b, off, hc⟩ := hKf
      simp only [Value.slice.injEq, true_and] at he
      obtain ⟨rfl, rfl⟩ := he
      exact ⟨b, off, hc⟩
    clear hKf n5 l5 v5 b5
    replace hw5 := Lib.hid hw5
    go_region
    · change Exit.then _ _ Exit.normal _ (((w4.alloc (.cells (bys (zb 64)) 5)).alloc (.cells (bys (zb 64)) 5)).drew)
      rw [← hw5.out]
      go_wp2_with fail
      go_loopw [9] (fun i wr => ∃ k : Nat, k ≤ 64 ∧ i = .int .i64 k ∧ Hid (Blk wr (w4.heap.size) 5 (bys (mskN 54 L k))) ∧ Hid (Blk wr (w4.heap.size + 1) 5 (bys (mskN 92 L k))) ∧ Hid (Below w4.heap.size w4 wr)) (fun i _ => 64 - (intOf i).toNat)
      case atStart => exact ⟨0, by omega, rfl, x0, x1, bW⟩
      case round =>
        obtain ⟨k, hk', rfl, li, lo, bb⟩ := hrel
        have hli := mskN_len 54 L k
        have hlo := mskN_len 92 L k
        replace hli := Lib.hid hli
        replace hlo := Lib.hid hlo
        by_cases hlt : k < 64
        · have hkI : (k : Int) < 64 := by omega
          have ci := li.out.byte k (by rw [hli.out]; exact hlt)
          have fi := li.out.fr k
          have co := lo.out.byte k (by rw [hlo.out]; exact hlt)
          have fo := lo.out.fr k
          obtain ⟨p, hp⟩ := name_it ((mskN 54 L k).getD k 0)
          obtain ⟨q, hq⟩ := name_it ((mskN 92 L k).getD k 0)
          rw [← hp.out] at ci
          rw [← hq.out] at co
          obtain ⟨x, hx⟩ := name_it (L.getD k 0)
          obtain ⟨y1, hy1⟩ := name_it (xor8 54 x)
          obtain ⟨y2, hy2⟩ := name_it (xor8 92 x)
          have e54 : bits .xor .u8 x 54 = y1 := hy1.out.symm
          have e92 : bits .xor .u8 x 92 = y2 := hy2.out.symm
          have co' : (wr.setCell ⟨w4.heap.size, k, none⟩ (.int .u8 y1)).cell? ⟨w4.heap.size + 1, k, none⟩ = some (.int .u8 q) := by
            rw [← co]; exact World.cell?_of_block (w := wr) (Below.heap_setCell wr _ _ _ (by show (w4.heap.size + 1) ≠ (w4.heap.size); omega))
          have fo' : (wr.setCell ⟨w4.heap.size, k, none⟩ (.int .u8 y1)).frozen? ⟨w4.heap.size + 1, k, none⟩ = false := by
            rw [← fo]; exact World.frozen?_of_block (w := wr) (Below.heap_setCell wr _ _ _ (by show (w4.heap.size + 1) ≠ (w4.heap.size); omega))
          have li' := (li.out.setByte k y1).setOther (b' := w4.heap.size + 1) (o := k) (.int .u8 y2) (by omega)
          have lo' := (lo.out.setOther (b' := w4.heap.size) (o := k) (.int .u8 y1) (by omega)).setByte k y2
          rw [show (mskN 54 L k).set k y1 = mskN 54 L (k + 1) by rw [mskN, hy1.out, hx.out]] at li'
          rw [show (mskN 92 L k).set k y2 = mskN 92 L (k + 1) by rw [mskN, hy2.out, hx.out]] at lo'
          have bb' := (bb.out.setCell (p := ⟨w4.heap.size, k, none⟩) (by show _ ≤ w4.heap.size; omega) (.int .u8 y1)).setCell (p := ⟨w4.heap.size + 1, k, none⟩) (by show _ ≤ w4.heap.size + 1; omega) (.int .u8 y2)
          replace li' := Lib.hid li'
          replace lo' := Lib.hid lo'
          replace bb' := Lib.hid bb'
          by_cases hkk : k < K.length
          · have hkkI : (k : Int) < K.length := by omega
            have hxK : x = K.getD k 0 := by rw [hx.out, hLK.out k, if_pos hkk]
            obtain ⟨rfl, ck⟩ := hcK.out k hkk
            have hbl := cell_lt ck
            have ck := (bb.out.cell (p := ⟨bK, oK + k, none⟩) hbl).trans ck
            rw [← hxK] at ck
            replace hxK := Lib.hid hxK
            go_wp2_with fail
            go_roundw
            case rel => exact ⟨k + 1, by omega, by go_num, li', lo', bb'⟩
            case measure => simp [intOf]; omega
          · have hkkd : decide ((k : Int) < K.length) = false := by simp; omega
            have hkkd' : decide (k < K.length) = false := by simp; omega
            have hx0 : x = 0 := by rw [hx.out, hLK.out k, if_neg hkk]
            clear hkk
            replace hx := Lib.hid hx.out
            subst hx0
            go_wp2_with fail
            go_roundw
            case rel => exact ⟨k + 1, by omega, by go_num, li', lo', bb'⟩
            case measure => simp [intOf]; omega
        · obtain rfl : k = 64 := by omega
          rw [mskN_all 54 L hLl.out, show L.map (xor8 54) = maskB key 54 by rw [hL.out]; rfl] at li
          rw [mskN_all 92 L hLl.out, show L.map (xor8 92) = maskB key 92 by rw [hL.out]; rfl] at lo
          have oi := own_of_blk li.out hml.out (show w4.heap.size ≤ w4.heap.size by omega) (by omega)
          have vr := Lib.hid (v4.out.below bb.out)
          have lr := Lib.hid (blk_keep bb.out l4.out)
          have hbb := bb.out.size
          replace oi := Lib.hid oi
          replace bb := Lib.hid (b4.out.trans (bb.out.mono (by omega)))
          clear hlt hli hlo hcK
          go_wp2_with (at_builtin; refine wpList_append_nums rfl _ _ 22 rfl .u8 w4.heap.size 5 i0 1 Tryd.underlying22 hi hz0 hz1 hz2 (.slice (some ⟨w4.heap.size, 0, none⟩) 64 64) _ (maskB key 54) text rfl oi.out rfl vr.out (by rw [hml.out]; omega) (by rw [hml.out]; omega) hbb ?_; intro v6 w6 hown6 hgr6; replace hown6 := Lib.hid hown6; replace hgr6 := Lib.hid hgr6)
          have b6 := bb.out.grown hgr6.out (by omega) (fun j hj => by have : (w4.heap.size) = j := by simpa [Value.ownBlock] using hj
                                                                      omega)
          have l6 := lr.out.grown hgr6.out (fun e => by have : w.heap.size = (w4.heap.size) := by simpa [Value.ownBlock] using e
                                                        omega)
          have o6 := lo.out.grown hgr6.out (fun e => by have := Option.some.inj (show some (w4.heap.size + 1) = some (w4.heap.size) from e); omega)
          have n6 := hown6.out.nums
          refine (rsum_any _ _ w6 n6 (byt_app (byt_mask _ _) hbt.out) (by rw [List.length_append, hml.out]; omega)).mono ?_
          rintro e w7 ⟨rfl, hb7⟩
          rw [← hz.out]
          have b7 := Lib.hid (b6.trans (hb7.mono b6.size))
          have l7 := Lib.hid (blk_keep hb7 l6)
          have o7 := Lib.hid (blk_keep hb7 o6)
          have hs7 := o7.out.lt
          have hs7' := l7.out.lt
          clear hown6 hgr6 b6 l6 o6 n6 hb7 li lo oi vr lr bb
          have y8 : (Tryd.prog.info? 26).map (·.size) = some (bys z).size := by rw [bys_size, hzl.out]; exact sz26
          replace y8 := Lib.hid y8
          have hy8 : Hid ((bys (zb 32)).size = (bys z).size) := by show _ = _; rw [bys_size, bys_size, hzl.out]; rfl
          have lz := Lib.hid ((Blk.new w7 26 (bys (zb 32))).setRow (bys z))
          have b8 := Lib.hid (below_setRow (g := w7.heap.size) ((Below.refl w7.heap.size w7).alloc (Nat.le_refl _) (.cells (bys (zb 32)) 26)) (Nat.le_refl _) (bys z))
          obtain ⟨w8, hw8⟩ : ∃ x, x = (w7.alloc (.cells (bys (zb 32)) 26)).setRow w7.heap.size (bys z) := ⟨_, rfl⟩
          rw [← hw8] at lz b8
          have l8 := Lib.hid (blk_keep b8.out l7.out)
          have o8 := blk_keep b8.out o7.out
          have z8n := Lib.hid (lz.out.nums 32 hzl.out (by omega))
          have oo := Lib.hid (own_of_blk o8 hml2.out (show w4.heap.size ≤ w4.heap.size + 1 by omega) (by omega))
          replace b8 := Lib.hid (b7.out.trans (b8.out.mono b7.out.size))
          have hs8 : w4.heap.size ≤ w8.heap.size := by have := o8.lt; omega
          replace hw8 := Lib.hid hw8
          go_wp2_with (first
            | (refine wpList_store_row rfl 26 _ _ rfl _ _ rfl rfl 26 _ (Blk.new w7 26 (bys (zb 32))) y8.out hy8.out (bys_one _) ?_; change wpList _ _ _ _ _ ((w7.alloc (.cells (bys (zb 32)) 26)).setRow w7.heap.size (bys z)); rw [← hw8.out])
            | (at_builtin; refine wpList_append_nums rfl _ _ 22 rfl .u8 w4.heap.size 5 i0 1 Tryd.underlying22 hi hz0 hz1 hz2 (.slice (some ⟨w4.heap.size + 1, 0, none⟩) 64 64) _ (maskB key 92) z rfl oo.out rfl z8n.out (by rw [hml2.out, hzl.out]; omega) (by rw [hml2.out, hzl.out]; omega) hs8 ?_; intro v9 w9 hown9 hgr9; replace hown9 := Lib.hid hown9; replace hgr9 := Lib.hid hgr9))
          have b9 := b8.out.grown hgr9.out (by omega) (fun j hj => by have : (w4.heap.size + 1) = j := by simpa [Value.ownBlock] using hj
                                                                      omega)
          have l9 := l8.out.grown hgr9.out (fun e => by have : w.heap.size = (w4.heap.size + 1) := by simpa [Value.ownBlock] using e
                                                        omega)
          refine (rsum_any _ _ w9 hown9.out.nums (byt_app (byt_mask _ _) (by rw [hz.out]; exact byt_sha _)) (by rw [List.length_append, hml2.out, hzl.out]; omega)).mono ?_
          rintro e w10 ⟨rfl, hb10⟩
          have hrr : sha (maskB key 92 ++ z) = r := by rw [hr.out, hz.out]; rfl
          rw [hrr]
          have b10 := Lib.hid (b9.trans (hb10.mono b9.size))
          have l10 := Lib.hid (blk_keep hb10 l9)
          clear hown9 hgr9 b9 l9 hb10 hrr
          have x8 : (Tryd.prog.info? 26).map (·.size) = some (bys r).size := by rw [bys_size, hrl.out]; exact sz26
          replace x8 := Lib.hid x8
          have hx8 : Hid ((bys (zb 32)).size = (bys r).size) := by show _ = _; rw [bys_size, bys_size, hrl.out]; rfl
          have l11 := Lib.hid (l10.out.setRow (bys r))
          have b11 := Lib.hid (below_setRow b10.out (Nat.le_refl _) (bys r))
          go_wp2_with (refine wpList_store_row rfl 26 _ _ rfl _ _ rfl rfl 26 _ l10.out x8.out hx8.out (bys_one _) ?_)
          replace l11 := l11.out
          replace b11 := b11.out
          generalize w10.setRow w.heap.size (bys r) = w11 at l11 b11 ⊢
          exact bodyPost_ret (results_cell_row rfl _ _ _ 26 _ _ _ rfl l11 arr26 rfl x8.out) rfl ⟨rfl, b11⟩
    · change Exit.then _ _ Exit.normal _ (((w4.alloc (.cells (bys (zb 64)) 5)).alloc (.cells (bys (zb 64)) 5)).drew)
      rw [← hw5.out]
      go_wp2_with fail
      go_loopw [9] (fun i wr => ∃ k : Nat, k ≤ 64 ∧ i = .int .i64 k ∧ Hid (Blk wr (w4.heap.size + 1) 5 (bys (mskN 54 L k))) ∧ Hid (Blk wr (w4.heap.size) 5 (bys (mskN 92 L k))) ∧ Hid (Below w4.heap.size w4 wr)) (fun i _ => 64 - (intOf i).toNat)
      case atStart => exact ⟨0, by omega, rfl, x1, x0, bW⟩
      case round =>
        obtain ⟨k, hk', rfl, li, lo, bb⟩ := hrel
        have hli := mskN_len 54 L k
        have hlo := mskN_len 92 L k
        replace hli := Lib.hid hli
        replace hlo := Lib.hid hlo
        by_cases hlt : k < 64
        · have hkI : (k : Int) < 64 := by omega
          have ci := li.out.byte k (by rw [hli.out]; exact hlt)
          have fi := li.out.fr k
          have co := lo.out.byte k (by rw [hlo.out]; exact hlt)
          have fo := lo.out.fr k
          obtain ⟨p, hp⟩ := name_it ((mskN 54 L k).getD k 0)
          obtain ⟨q, hq⟩ := name_it ((mskN 92 L k).getD k 0)
          rw [← hp.out] at ci
          rw [← hq.out] at co
          obtain ⟨x, hx⟩ := name_it (L.getD k 0)
          obtain ⟨y1, hy1⟩ := name_it (xor8 54 x)
          obtain ⟨y2, hy2⟩ := name_it (xor8 92 x)
          have e54 : bits .xor .u8 x 54 = y1 := hy1.out.symm
          have e92 : bits .xor .u8 x 92 = y2 := hy2.out.symm
          have co' : (wr.setCell ⟨w4.heap.size + 1, k, none⟩ (.int .u8 y1)).cell? ⟨w4.heap.size, k, none⟩ = some (.int .u8 q) := by
            rw [← co]; exact World.cell?_of_block (w := wr) (Below.heap_setCell wr _ _ _ (by show (w4.heap.size) ≠ (w4.heap.size + 1); omega))
          have fo' : (wr.setCell ⟨w4.heap.size + 1, k, none⟩ (.int .u8 y1)).frozen? ⟨w4.heap.size, k, none⟩ = false := by
            rw [← fo]; exact World.frozen?_of_block (w := wr) (Below.heap_setCell wr _ _ _ (by show (w4.heap.size) ≠ (w4.heap.size + 1); omega))
          have li' := (li.out.setByte k y1).setOther (b' := w4.heap.size) (o := k) (.int .u8 y2) (by omega)
          have lo' := (lo.out.setOther (b' := w4.heap.size + 1) (o := k) (.int .u8 y1) (by omega)).setByte k y2
          rw [show (mskN 54 L k).set k y1 = mskN 54 L (k + 1) by rw [mskN, hy1.out, hx.out]] at li'
          rw [show (mskN 92 L k).set k y2 = mskN 92 L (k + 1) by rw [mskN, hy2.out, hx.out]] at lo'
          have bb' := (bb.out.setCell (p := ⟨w4.heap.size + 1, k, none⟩) (by show _ ≤ w4.heap.size + 1; omega) (.int .u8 y1)).setCell (p := ⟨w4.heap.size, k, none⟩) (by show _ ≤ w4.heap.size; omega) (.int .u8 y2)
          replace li' := Lib.hid li'
          replace lo' := Lib.hid lo'
          replace bb' := Lib.hid bb'
          by_cases hkk : k < K.length
          · have hkkI : (k : Int) < K.length := by omega
            have hxK : x = K.getD k 0 := by rw [hx.out, hLK.out k, if_pos hkk]
            obtain ⟨rfl, ck⟩ := hcK.out k hkk
            have hbl := cell_lt ck
            have ck := (bb.out.cell (p := ⟨bK, oK + k, none⟩) hbl).trans ck
            rw [← hxK] at ck
            replace hxK := Lib.hid hxK
            go_wp2_with fail
            go_roundw
            case rel => exact ⟨k + 1, by omega, by go_num, li', lo', bb'⟩
            case measure => simp [intOf]; omega
          · have hkkd : decide ((k : Int) < K.length) = false := by simp; omega
            have hkkd' : decide (k < K.length) = false := by simp; omega
            have hx0 : x = 0 := by rw [hx.out, hLK.out k, if_neg hkk]
            clear hkk
            replace hx := Lib.hid hx.out
            subst hx0
            go_wp2_with fail
            go_roundw
            case rel => exact ⟨k + 1, by omega, by go_num, li', lo', bb'⟩
            case measure => simp [intOf]; omega
        · obtain rfl : k = 64 := by omega
          rw [mskN_all 54 L hLl.out, show L.map (xor8 54) = maskB key 54 by rw [hL.out]; rfl] at li
          rw [mskN_all 92 L hLl.out, show L.map (xor8 92) = maskB key 92 by rw [hL.out]; rfl] at lo
          have oi := own_of_blk li.out hml.out (show w4.heap.size ≤ w4.heap.size + 1 by omega) (by omega)
          have vr := Lib.hid (v4.out.below bb.out)
          have lr := Lib.hid (blk_keep bb.out l4.out)
          have hbb := bb.out.size
          replace oi := Lib.hid oi
          replace bb := Lib.hid (b4.out.trans (bb.out.mono (by omega)))
          clear hlt hli hlo hcK
          go_wp2_with (at_builtin; refine wpList_append_nums rfl _ _ 22 rfl .u8 w4.heap.size 5 i0 1 Tryd.underlying22 hi hz0 hz1 hz2 (.slice (some ⟨w4.heap.size + 1, 0, none⟩) 64 64) _ (maskB key 54) text rfl oi.out rfl vr.out (by rw [hml.out]; omega) (by rw [hml.out]; omega) hbb ?_; intro v6 w6 hown6 hgr6; replace hown6 := Lib.hid hown6; replace hgr6 := Lib.hid hgr6)
          have b6 := bb.out.grown hgr6.out (by omega) (fun j hj => by have : (w4.heap.size + 1) = j := by simpa [Value.ownBlock] using hj
                                                                      omega)
          have l6 := lr.out.grown hgr6.out (fun e => by have : w.heap.size = (w4.heap.size + 1) := by simpa [Value.ownBlock] using e
                                                        omega)
          have o6 := lo.out.grown hgr6.out (fun e => by have := Option.some.inj (show some (w4.heap.size) = some (w4.heap.size + 1) from e); omega)
          have n6 := hown6.out.nums
          refine (rsum_any _ _ w6 n6 (byt_app (byt_mask _ _) hbt.out) (by rw [List.length_append, hml.out]; omega)).mono ?_
          rintro e w7 ⟨rfl, hb7⟩
          rw [← hz.out]
          have b7 := Lib.hid (b6.trans (hb7.mono b6.size))
          have l7 := Lib.hid (blk_keep hb7 l6)
          have o7 := Lib.hid (blk_keep hb7 o6)
          have hs7 := o7.out.lt
          have hs7' := l7.out.lt
          clear hown6 hgr6 b6 l6 o6 n6 hb7 li lo oi vr lr bb
          have y8 : (Tryd.prog.info? 26).map (·.size) = some (bys z).size := by rw [bys_size, hzl.out]; exact sz26
          replace y8 := Lib.hid y8
          have hy8 : Hid ((bys (zb 32)).size = (bys z).size) := by show _ = _; rw [bys_size, bys_size, hzl.out]; rfl
          have lz := Lib.hid ((Blk.new w7 26 (bys (zb 32))).setRow (bys z))
          have b8 := Lib.hid (below_setRow (g := w7.heap.size) ((Below.refl w7.heap.size w7).alloc (Nat.le_refl _) (.cells (bys (zb 32)) 26)) (Nat.le_refl _) (bys z))
          obtain ⟨w8, hw8⟩ : ∃ x, x = (w7.alloc (.cells (bys (zb 32)) 26)).setRow w7.heap.size (bys z) := ⟨_, rfl⟩
          rw [← hw8] at lz b8
          have l8 := Lib.hid (blk_keep b8.out l7.out)
          have o8 := blk_keep b8.out o7.out
          have z8n := Lib.hid (lz.out.nums 32 hzl.out (by omega))
          have oo := Lib.hid (own_of_blk o8 hml2.out (show w4.heap.size ≤ w4.heap.size by omega) (by omega))
          replace b8 := Lib.hid (b7.out.trans (b8.out.mono b7.out.size))
          have hs8 : w4.heap.size ≤ w8.heap.size := by have := o8.lt; omega
          replace hw8 := Lib.hid hw8
          go_wp2_with (first
            | (refine wpList_store_row rfl 26 _ _ rfl _ _ rfl rfl 26 _ (Blk.new w7 26 (bys (zb 32))) y8.out hy8.out (bys_one _) ?_; change wpList _ _ _ _ _ ((w7.alloc (.cells (bys (zb 32)) 26)).setRow w7.heap.size (bys z)); rw [← hw8.out])
            | (at_builtin; refine wpList_append_nums rfl _ _ 22 rfl .u8 w4.heap.size 5 i0 1 Tryd.underlying22 hi hz0 hz1 hz2 (.slice (some ⟨w4.heap.size, 0, none⟩) 64 64) _ (maskB key 92) z rfl oo.out rfl z8n.out (by rw [hml2.out, hzl.out]; omega) (by rw [hml2.out, hzl.out]; omega) hs8 ?_; intro v9 w9 hown9 hgr9; replace hown9 := Lib.hid hown9; replace hgr9 := Lib.hid hgr9))
          have b9 := b8.out.grown hgr9.out (by omega) (fun j hj => by have : (w4.heap.size) = j := by simpa [Value.ownBlock] using hj
                                                                      omega)
          have l9 := l8.out.grown hgr9.out (fun e => by have : w.heap.size = (w4.heap.size) := by simpa [Value.ownBlock] using e
                                                        omega)
          refine (rsum_any _ _ w9 hown9.out.nums (byt_app (byt_mask _ _) (by rw [hz.out]; exact byt_sha _)) (by rw [List.length_append, hml2.out, hzl.out]; omega)).mono ?_
          rintro e w10 ⟨rfl, hb10⟩
          have hrr : sha (maskB key 92 ++ z) = r := by rw [hr.out, hz.out]; rfl
          rw [hrr]
          have b10 := Lib.hid (b9.trans (hb10.mono b9.size))
          have l10 := Lib.hid (blk_keep hb10 l9)
          clear hown9 hgr9 b9 l9 hb10 hrr
          have x8 : (Tryd.prog.info? 26).map (·.size) = some (bys r).size := by rw [bys_size, hrl.out]; exact sz26
          replace x8 := Lib.hid x8
          have hx8 : Hid ((bys (zb 32)).size = (bys r).size) := by show _ = _; rw [bys_size, bys_size, hrl.out]; rfl
          have l11 := Lib.hid (l10.out.setRow (bys r))
          have b11 := Lib.hid (below_setRow b10.out (Nat.le_refl _) (bys r))
          go_wp2_with (refine wpList_store_row rfl 26 _ _ rfl _ _ rfl rfl 26 _ l10.out x8.out hx8.out (bys_one _) ?_)
          replace l11 := l11.out
          replace b11 := b11.out
          generalize w10.setRow w.heap.size (bys r) = w11 at l11 b11 ⊢
          exact bodyPost_ret (results_cell_row rfl _ _ _ 26 _ _ _ rfl l11 arr26 rfl x8.out) rfl ⟨rfl, b11⟩

set_option maxHeartbeats 400000 in
theorem rextract_any (u v : Value) (key text : List Int) (w : World) (hu : NumsAt .u8 w u key) (hv : NumsAt .u8 w v text) (hb : Byt key) (hbt : Byt text) (hl : key.length ≤ 10000) (hlt : text.length ≤ 10000) :
    Calls Tryd.prog 32 #[u, v] w fun e w' => e = .returned (.agg (bys (mac key text))) ∧ Below w.heap.size w w' := by
  obtain ⟨r, hr⟩ := name_it (mac key text)
  have hrl : Hid (r.length = 32) := by show _ = _; rw [hr.out]; exact mac_len _ _
  have b1 := Lib.hid ((Below.refl w.heap.size w).alloc (Nat.le_refl _) (.cells (bys (zb 32)) 26))
  have l1 := Lib.hid (Blk.new w 26 (bys (zb 32)))
  have u1 := Lib.hid (hu.below b1.out)
  have v1 := Lib.hid (hv.below b1.out)
  rw [← hr.out]
  replace hb := Lib.hid hb
  replace hbt := Lib.hid hbt
  clear hu hv
  go_enter Tryd.func32, Tryd.ntmps32
  go_wp2_with fail
  change Calls _ _ _ (w.alloc (.cells (bys (zb 32)) 26)) _
  refine (rmac_any _ _ key text _ u1.out v1.out hb.out hbt.out hl hlt).mono ?_
  rintro e w3 ⟨rfl, hb3⟩
  rw [← hr.out]
  have z8 : (Tryd.prog.info? 26).map (·.size) = some (bys r).size := by rw [bys_size, hrl.out]; exact sz26
  replace z8 := Lib.hid z8
  have ho8 : Hid ((bys (zb 32)).size = (bys r).size) := by show _ = _; rw [bys_size, bys_size, hrl.out]; rfl
  have l3 := Lib.hid (blk_keep hb3 l1.out)
  have b3 := Lib.hid (below_all b1.out hb3)
  have l4 := Lib.hid (l3.out.setRow (bys r))
  have b4 := Lib.hid (below_setRow b3.out (Nat.le_refl _) (bys r))
  go_wp2_with (refine wpList_store_row rfl 26 _ _ rfl _ _ rfl rfl 26 _ l3.out z8.out ho8.out (bys_one _) ?_)
  replace l4 := l4.out
  replace b4 := b4.out
  generalize w3.setRow w.heap.size (bys r) = w9 at l4 b4 ⊢
  exact bodyPost_ret (results_cell_row rfl _ _ _ 26 _ _ _ rfl l4 arr26 rfl z8.out) rfl ⟨rfl, b4⟩
end Go.Proofs.YtikmfaeiecpncaaDoor
