/- What the document's answer expands, and labels: it lies in a block of the call's own. -/
import Derived.Test.YtikmfaeiecpncaaDoorKG
namespace Go.Proofs.YtikmfaeiecpncaaDoor
open Go.RowKit

/-- Numbers in a block from B on. -/
def FarAt (w : World) (B : Nat) (v : Value) (xs : List Int) : Prop := (∃ g off n cap, v = .slice (some ⟨g, off, none⟩) n cap ∧ B ≤ g) ∧ NumsAt .u8 w v xs
theorem FarAt.nums {w : World} {B : Nat} {v : Value} {xs : List Int} (h : FarAt w B v xs) : NumsAt .u8 w v xs := h.2
theorem FarAt.mono {w : World} {B B' : Nat} {v : Value} {xs : List Int} (h : FarAt w B v xs) (hb : B' ≤ B) : FarAt w B' v xs := by
  obtain ⟨⟨g, off, n, cap, e, h1⟩, h2⟩ := h
  exact ⟨⟨g, off, n, cap, e, Nat.le_trans hb h1⟩, h2⟩
theorem FarAt.below {w w' : World} {B : Nat} {v : Value} {xs : List Int} (h : FarAt w B v xs) (hb : Below w.heap.size w w') : FarAt w' B v xs := ⟨h.1, h.2.below hb⟩
theorem setCells_other {b : Nat} : ∀ (vs : List Value) (o : Nat) (w : World) (k : Nat), k ≠ b → (w.setCells b o vs).heap[k]? = w.heap[k]?
  | [], _, _, _, _ => rfl
  | v :: vs, o, w, k, h => by rw [World.setCells, setCells_other vs (o + 1) _ k h]; exact Below.heap_setCell w ⟨b, o, none⟩ v k h
theorem Blk.cellsOther {w : World} {b b' : Nat} {ty : TypeId} {cs : Array Value} (h : Blk w b ty cs) (o : Nat) (vs : List Value) (hne : b ≠ b') : Blk (w.setCells b' o vs) b ty cs := (setCells_other vs o w b hne).trans h
theorem nums_keep {w w' : World} {g off n cap : Nat} {xs : List Int} (h : NumsAt .u8 w (.slice (some ⟨g, off, none⟩) n cap) xs) (hk : w'.heap[g]? = w.heap[g]?) : NumsAt .u8 w' (.slice (some ⟨g, off, none⟩) n cap) xs := by
  obtain ⟨a, c, e, h1, h2, h3, hc⟩ := h
  refine ⟨a, c, e, h1, h2, h3, ?_⟩
  rcases hc with h | ⟨b, o, e2, hc⟩
  · exact .inl h
  · refine .inr ⟨b, o, e2, fun i hi => ?_⟩
    have hb : g = b := by
      simp only [Value.slice.injEq] at e
      rw [← e.1] at e2
      simpa using congrArg (·.map Addr.block) e2
    subst hb
    rw [← hc i hi]
    exact World.cell?_of_block hk
theorem FarAt.keep {w w' : World} {B : Nat} {v : Value} {xs : List Int} (h : FarAt w B v xs) (hk : ∀ k, B ≤ k → w'.heap[k]? = w.heap[k]?) : FarAt w' B v xs := by
  obtain ⟨⟨g, off, n, cap, rfl, h1⟩, h2⟩ := h
  exact ⟨⟨g, off, n, cap, rfl, h1⟩, nums_keep h2 (hk g h1)⟩
theorem FarAt.cells {w : World} {B b : Nat} {v : Value} {xs : List Int} (h : FarAt w B v xs) (hb : b < B) (o : Nat) (vs : List Value) : FarAt (w.setCells b o vs) B v xs :=
  h.keep fun k hk => setCells_other vs o w k (by omega)
theorem FarAt.cell {w : World} {B b : Nat} {v : Value} {xs : List Int} (h : FarAt w B v xs) (hb : b < B) (o : Nat) (u : Value) : FarAt (w.setCell ⟨b, o, none⟩ u) B v xs :=
  h.keep fun k hk => Below.heap_setCell w ⟨b, o, none⟩ u k (by show k ≠ b; omega)
theorem CutAt.keep {w w' : World} {B : Nat} {v : Value} {xs : List Int} (h : CutAt w B v xs) (hk : ∀ k, B ≤ k → w'.heap[k]? = w.heap[k]?) : CutAt w' B v xs := by
  obtain ⟨g, cur, e, h1, h2, h3⟩ := h
  exact ⟨g, cur, e, h1, (hk g h1).trans h2, h3⟩
theorem CutAt.cells {w : World} {B b : Nat} {v : Value} {xs : List Int} (h : CutAt w B v xs) (hb : b < B) (o : Nat) (vs : List Value) : CutAt (w.setCells b o vs) B v xs :=
  h.keep fun k hk => setCells_other vs o w k (by omega)
theorem CutAt.cell {w : World} {B b : Nat} {v : Value} {xs : List Int} (h : CutAt w B v xs) (hb : b < B) (o : Nat) (u : Value) : CutAt (w.setCell ⟨b, o, none⟩ u) B v xs :=
  h.keep fun k hk => Below.heap_setCell w ⟨b, o, none⟩ u k (by show k ≠ b; omega)
theorem CutAt.nums {w : World} {B : Nat} {v : Value} {xs : List Int} (h : CutAt w B v xs) (hl : xs.length ≤ 1000000) : NumsAt .u8 w v xs := by
  obtain ⟨g, cur, rfl, _, h2, h3⟩ := h
  refine ⟨_, _, rfl, Nat.le_refl _, by omega, fun h => (by cases h), .inr ⟨g, 0, rfl, fun i hi => ?_⟩⟩
  rw [h2.cell, Nat.zero_add]
  have := congrArg (·[i]?) h3
  simp only [List.getElem?_take, List.getElem?_map, hi, if_true] at this
  rw [← Array.getElem?_toList, this]
  simp [List.getD, List.getElem?_eq_getElem hi]
theorem CutAt.far {w : World} {B : Nat} {v : Value} {xs : List Int} (h : CutAt w B v xs) (hl : xs.length ≤ 1000000) : FarAt w B v xs := by
  have hn := h.nums hl
  obtain ⟨g, cur, rfl, h1, _⟩ := h
  exact ⟨⟨g, 0, _, _, rfl, h1⟩, hn⟩
theorem cut_far {w : World} {B : Nat} {v : Value} {xs : List Int} (h : OwnNums .u8 5 w B v xs) (n : Nat) (h0 : 0 < n) (h1 : n ≤ xs.length) :
    ∃ v', (∀ w', (Instr.sliceAt 22 v none (some (.int .i64 (n : Int))) none).run Tryd.prog w' = .ok v' w') ∧ FarAt w B v' (xs.take n) := by
  have hn := h.nums
  obtain ⟨v', hc, hc'⟩ := cut_h hn (n : Int) (by omega) (by omega)
  have h2 := h
  obtain ⟨hl, ⟨_, h3⟩ | ⟨g, cap, cur, rfl, hb, hg, hnc, hcm, hcs, ht⟩⟩ := h2
  · omega
  refine ⟨v', hc, ⟨g, 0, n, cap, ?_, hb⟩, by have := hc' w hn; rwa [Int.toNat_natCast] at this⟩
  have h4 := hc w
  rw [run_sliceAt_slice w 22 _ _ _ _ un22, run_slice_h w 22 _ _ cap un22 .i64 n (by omega) (by omega), el22, size5] at h4
  have h5 : sliced (some ⟨g, 0, none⟩) 0 n cap 1 = v' := by
    simpa [Result.andThen] using h4
  rw [← h5, sliced, if_neg (by omega)]
  simp [add_plain]
set_option maxHeartbeats 1600000 in
set_option maxRecDepth 100000 in
theorem rexpandO_any (u v : Value) (key info : List Int) (n : Nat) (w : World) (hu : NumsAt .u8 w u key) (hv : NumsAt .u8 w v info) (hb : Byt key) (hbt : Byt info) (hl : key.length ≤ 10000) (hlt : info.length ≤ 5000) (hn : n ≤ 8160) (hn0 : 0 < n) :
    Calls Tryd.prog 33 #[u, v, .int .i64 n] w fun e w' => ∃ v', e = .returned v' ∧ FarAt w' w.heap.size v' (expand key info n) ∧ Below w.heap.size w w' := by
  obtain ⟨i0, hi, hz0, hz1, hz2⟩ := info_parts info5
  obtain ⟨a0, k0, rfl, _⟩ := slice_form hu
  obtain ⟨a1, l1, k1, rfl⟩ := slice_any hv
  have hc26 := fun (b : Nat) (w : World) => slice_all arr26 arr26' el26 b 0 w
  replace hu := Lib.hid hu
  replace hv := Lib.hid hv
  replace hb := Lib.hid hb
  replace hbt := Lib.hid hbt
  have q1 : decide ((n : Int) < 0) = false := by simp
  have q2 : decide ((8160 : Int) < n) = false := by simp; omega
  have q2' : decide (8160 < n) = false := by simp; omega
  have hnI : (n : Int) ≤ 8160 := by omega
  obtain ⟨m, hm⟩ := name_it ((n + 31) / 32)
  go_enter Tryd.func33, Tryd.ntmps33
  go_wp2_with fail
  go_loopw [7, 8, 9] (fun o l c wr => ∃ i t : Nat, i ≤ m ∧ Hid (t = 32 * i) ∧ c = .int .i64 ((i + 1 : Nat) : Int) ∧ (∃ a k, o = .slice a t k) ∧ (∃ a n k, l = .slice a n k) ∧ Hid (OwnNums .u8 5 wr w.heap.size o (outO key info i)) ∧ Hid (NumsAt .u8 wr l (blkT key info i)) ∧ Hid (Below w.heap.size w wr)) (fun o _ _ _ => match o with | .slice _ l _ => 9000 - l | _ => 0)
  case atStart => exact ⟨0, 0, Nat.zero_le _, rfl, rfl, ⟨_, _, rfl⟩, ⟨_, _, _, rfl⟩, OwnNums.nil _ _ _ _, nums_nil _ _, Below.refl _ _⟩
  case round =>
    obtain ⟨i, t, him, ht, rfl, ⟨ao, ko, rfl⟩, ⟨al, ll, kl, rfl⟩, hown, hlast, b1⟩ := hrel
    by_cases hlt2 : t < n
    · have q3 : (t : Int) < n := by omega
      have hti : i < m := by have := ht.out; have := hm.out; omega
      have hm255 : m ≤ 255 := by rw [hm.out]; omega
      obtain ⟨c, hc⟩ := name_it (i + 1)
      have hcI : (c : Int) ≤ 255 := by have := hc.out; omega
      have htI : (t : Int) ≤ 8160 := by omega
      have hTl := blkT_len key info i
      have hv4 := Lib.hid (hv.out.below b1.out)
      have hu4 := Lib.hid (hu.out.below b1.out)
      rw [← hc.out]
      go_wp2_with (at_builtin; first
        | (refine wpList_append_nums rfl _ _ 22 rfl .u8 wr.heap.size 5 i0 1 Tryd.underlying22 hi hz0 hz1 hz2 _ _ [] _ rfl (OwnNums.nil _ _ _ _) rfl hlast.out (by simp; omega) (by simp; omega) (Nat.le_refl _) ?_; intro v3 w3 hown3 hgr3; obtain ⟨a3, l3, c3, rfl⟩ := slice_any hown3.nums; replace hown3 := Lib.hid hown3; have b3 := Lib.hid (below_grown_none hgr3 (Nat.le_refl _)); clear hgr3; have hv5 := Lib.hid (hv4.out.below b3.out))
        | (refine wpList_append_nums rfl _ _ 22 rfl .u8 wr.heap.size 5 i0 1 Tryd.underlying22 hi hz0 hz1 hz2 (.slice a3 l3 c3) _ _ info rfl hown3.out rfl hv5.out (by simp; omega) (by simp; omega) b3.out.size ?_; intro v4 w4 hown4 hgr4; obtain ⟨a4, l4, c4, rfl⟩ := slice_any hown4.nums; have b4 := Lib.hid (b3.out.grown hgr4 b3.out.size hown3.out.lt); replace hown4 := Lib.hid hown4; clear hgr4)
        | (refine wpList_append_nums rfl _ _ 22 rfl .u8 wr.heap.size 5 i0 1 Tryd.underlying22 hi hz0 hz1 hz2 (.slice a4 l4 c4) _ _ [(c : Int)] rfl (hown4.out.alloc _) rfl (nums_lit w4 5 (0, 0) [(c : Int)] 1 rfl (by omega)) (by simp; omega) (by simp; omega) (by have := b4.out.size; simp; omega) ?_; intro v5 w5 hown5 hgr5; obtain ⟨a5, l5, c5, rfl⟩ := slice_any hown5.nums; have b5 := Lib.hid ((b4.out.alloc b4.out.size (.cells (bys [(c : Int)]) 5)).grown hgr5 (by have := b4.out.size; simp; omega) hown4.out.lt); replace hown5 := Lib.hid hown5; clear hgr5))
      have n5 : NumsAt .u8 w5 (.slice a5 l5 c5) (blkT key info i ++ info ++ [(c : Int)]) := hown5.out.nums
      refine (rmac_any _ _ key _ w5 (hu4.out.below b5.out) n5 hb.out (byt_app (byt_app (byt_T _ _ _) hbt.out) (byt_of (by intro n hn; simp at hn; omega))) hl (by simp; omega)).mono ?_
      rintro e w3' ⟨rfl, hb3⟩
      have hTs : mac key (blkT key info i ++ info ++ [(c : Int)]) = blkT key info (i + 1) := by rw [hc.out, blkT, Nat.mod_eq_of_lt (show i + 1 < 256 by omega)]
      rw [hTs]
      obtain ⟨z, hz⟩ := name_it (blkT key info (i + 1))
      have hzl : Hid (z.length = 32) := by show _ = _; rw [hz.out, blkT]; exact mac_len _ _
      rw [← hz.out]
      have b3' := Lib.hid (below_all b5.out hb3)
      have own3 := Lib.hid (hown.out.below b3'.out)
      have b4' := Lib.hid (b1.out.trans (b3'.out.mono b1.out.size))
      clear b3 b4 b5 hown3 hown4 hown5 n5 hb3 hTs hTl hv4 hu4 hv5
      have z8 : (Tryd.prog.info? 26).map (·.size) = some (bys z).size := by rw [bys_size, hzl.out]; exact sz26
      replace z8 := Lib.hid z8
      have ho8 : Hid ((bys (zb 32)).size = (bys z).size) := by show _ = _; rw [bys_size, bys_size, hzl.out]; rfl
      have ln := Lib.hid ((Blk.new w3' 26 (bys (zb 32))).setRow (bys z))
      have b5 := Lib.hid (below_setRow (g := w3'.heap.size) ((Below.refl w3'.heap.size w3').alloc (Nat.le_refl _) (.cells (bys (zb 32)) 26)) (Nat.le_refl _) (bys z))
      obtain ⟨w5, hw5⟩ : ∃ x, x = (w3'.alloc (.cells (bys (zb 32)) 26)).setRow w3'.heap.size (bys z) := ⟨_, rfl⟩
      rw [← hw5] at ln b5
      have own5 := Lib.hid (own3.out.below b5.out)
      have b6 := Lib.hid (below_all b4'.out b5.out)
      have nz := Lib.hid (ln.out.nums 32 hzl.out (by omega))
      have hol := outO_len key info i
      replace hol := Lib.hid hol
      replace hw5 := Lib.hid hw5
      have hlt5 := own5.out.lt
      replace hlt5 := Lib.hid hlt5
      go_wp2_with (first
        | (refine wpList_store_row rfl 26 _ _ rfl _ _ rfl rfl 26 _ (Blk.new w3' 26 (bys (zb 32))) z8.out ho8.out (bys_one _) ?_; change wpList _ _ _ _ _ ((w3'.alloc (.cells (bys (zb 32)) 26)).setRow w3'.heap.size (bys z)); rw [← hw5.out])
        | (at_builtin; refine wpList_append_nums rfl _ _ 22 rfl .u8 w.heap.size 5 i0 1 Tryd.underlying22 hi hz0 hz1 hz2 _ _ (outO key info i) z rfl own5.out rfl nz.out (by rw [hol.out, hzl.out]; have := ht.out; omega) (by rw [hol.out, hzl.out]; have := ht.out; omega) b6.out.size ?_; intro v7 w7 hown7 hgr7; obtain ⟨a7, c7, rfl, _⟩ := slice_form hown7.nums; rw [show (outO key info i ++ z).length = t + 32 by rw [List.length_append, hol.out, hzl.out, ht.out]]; replace hown7 := Lib.hid hown7; replace hgr7 := Lib.hid hgr7))
      have b7 := b6.out.grown hgr7.out b6.out.size hlt5.out
      have nz7 : NumsAt .u8 w7 (.slice (some ⟨w3'.heap.size, 0, none⟩) 32 32) z := by
        have hne := hlt5.out
        have l7 := ln.out.grown hgr7.out (fun e => by
          have h5 := World.ownsRow.lt own3.out _ e.symm
          omega)
        exact l7.nums 32 hzl.out (by omega)
      have own7 : OwnNums .u8 5 w7 w.heap.size (.slice a7 (t + 32) c7) (outO key info (i + 1)) := by
        have := hown7.out
        rw [show (outO key info i ++ z).length = t + 32 by rw [List.length_append, hol.out, hzl.out, ht.out], hz.out] at this
        exact this
      rw [hz.out] at nz7
      go_roundw
      case rel => exact ⟨i + 1, t + 32, by omega, by show _ = _; rw [ht.out]; omega, by rw [hc.out]; go_num, ⟨_, _, by go_num⟩, ⟨_, _, _, rfl⟩, own7, nz7, b7⟩
      case measure => simp; omega
    · have q3 : decide ((t : Int) < n) = false := by simp; omega
      have q3' : decide (t < n) = false := by simp; omega
      obtain rfl : i = m := by have := ht.out; have := hm.out; omega
      have hol := outO_len key info i
      have nO := hown.out.nums
      obtain ⟨v', hcut, nv⟩ := cut_far hown.out n hn0 (by rw [hol]; have := ht.out; omega)
      rw [show (outO key info i).take n = expand key info n by rw [hm.out]; rfl] at nv
      replace nv := Lib.hid nv
      clear nO hol
      go_wp2_with fail
      go_ret
      exact ⟨_, rfl, nv.out, b1.out⟩
set_option maxHeartbeats 1600000 in
set_option maxRecDepth 100000 in
theorem rlabelO_any (u v : Value) (secret ctx : List Int) (s : ByteArray) (m : Nat) (w : World) (hu : NumsAt .u8 w u secret) (hv : NumsAt .u8 w v ctx) (hb : Byt secret) (hbc : Byt ctx) (hl : secret.length ≤ 10000) (hs249 : s.size ≤ 249) (hc255 : ctx.length ≤ 255) (hm0 : 0 < m) (hm1 : m ≤ 8160) :
    Calls Tryd.prog 34 #[u, .string s, v, .int .i64 m] w fun e w' => ∃ v', e = .returned v' ∧ FarAt w' w.heap.size v' (labelI secret (strB s) ctx m) ∧ Below w.heap.size w w' := by
  obtain ⟨i0, hi, hz0, hz1, hz2⟩ := info_parts info5
  obtain ⟨a0, l0, k0, rfl⟩ := slice_any hu
  have hcm := hv.len
  obtain ⟨a1, k1, rfl, _⟩ := slice_form hv
  have hsl := strB_len s
  have hcI : (ctx.length : Int) ≤ 9223372036854775807 := by omega
  have hsI : (s.size : Int) ≤ 9223372036854775000 := by omega
  obtain ⟨L, hL⟩ := name_it (labelI secret (strB s) ctx m)
  rw [← hL.out]
  replace hsl := Lib.hid hsl
  replace hcm := Lib.hid hcm
  have q1 : decide ((249 : Int) < s.size) = false := by simp; omega
  have q2 : decide ((255 : Int) < ctx.length) = false := by simp; omega
  have q3 : decide ((m : Int) < 0) = false := by simp
  have q4 : decide ((8160 : Int) < m) = false := by simp; omega
  have hLe : L = expand secret (labelInfo (strB s) ctx m) m := by
    rw [hL.out, labelI, if_neg (by rw [hsl.out]; omega)]; rfl
  replace hLe := Lib.hid hLe
  have hmI : (m : Int) ≤ 8160 := by omega
  obtain ⟨x0, hx0⟩ := name_it (m / 256)
  obtain ⟨x1, hx1⟩ := name_it (m % 256)
  obtain ⟨x2, hx2⟩ := name_it (6 + s.size)
  obtain ⟨x3, hx3⟩ := name_it ctx.length
  have e0 : (m : Int) / 256 = (x0 : Int) := by rw [hx0.out]; omega
  have e1 : (m : Int) % 256 = (x1 : Int) := by rw [hx1.out]; omega
  have e2 : 6 + (s.size : Int) = (x2 : Int) := by rw [hx2.out]; omega
  have hx0I : (x0 : Int) ≤ 255 := by rw [hx0.out]; omega
  have hx2I : (x2 : Int) ≤ 255 := by rw [hx2.out]; omega
  have hx3I : (x3 : Int) ≤ 255 := by rw [hx3.out]; omega
  have ez : (((⟨#[116, 108, 115, 49, 51, 32]⟩ ++ s : ByteArray).size : Nat) : Int) = (x2 : Int) := by
    rw [ByteArray.size_append, show (⟨#[116, 108, 115, 49, 51, 32]⟩ : ByteArray).size = 6 from rfl, hx2.out]
  rw [← hx3.out] at q2 hcI hv ⊢
  have hf : Hid (labelInfo (strB s) ctx m = [(x0 : Int), (x1 : Int), (x2 : Int)] ++ (preB ++ strB s) ++ [(x3 : Int)] ++ ctx) := by
    show _ = _
    rw [labelInfo, hsl.out, Nat.mod_eq_of_lt (show m / 256 < 256 by omega), Nat.mod_eq_of_lt (show 6 + s.size < 256 by omega), Nat.mod_eq_of_lt (show ctx.length < 256 by omega), hx0.out, hx1.out, hx2.out, hx3.out]
  have hfl : Hid ((labelInfo (strB s) ctx m).length ≤ 600) := by
    show _ ≤ _
    rw [hf.out]; simp [preB, hsl.out]; omega
  have own1 := Lib.hid (show OwnNums .u8 5 (w.alloc (.cells #[.int .u8 x0, .int .u8 x1, .int .u8 x2] 5)) w.heap.size (.slice (some ⟨w.heap.size, 0, none⟩) 3 3) [(x0 : Int), (x1 : Int), (x2 : Int)] from World.ownsRow_lit w #[.int .u8 x0, .int .u8 x1, .int .u8 x2] 3 (Nat.le_refl _) (by unfold maxLen; omega) (by simp))
  have hs3 : Hid ([(x0 : Int), (x1 : Int), (x2 : Int)].length + (⟨#[116, 108, 115, 49, 51, 32]⟩ ++ s : ByteArray).size ≤ 100000) := by
    show _ ≤ _
    rw [ByteArray.size_append, show (⟨#[116, 108, 115, 49, 51, 32]⟩ : ByteArray).size = 6 from rfl]
    simp; omega
  replace hb := Lib.hid hb
  replace hbc := Lib.hid hbc
  replace hu := Lib.hid hu
  replace hv := Lib.hid hv
  go_enter Tryd.func34, Tryd.ntmps34
  go_wp2_with (at_builtin; first
    | (refine wpList_append_str rfl _ _ rfl w.heap.size _ _ rfl own1.out _ rfl hs3.out (by simp) ?_; intro v4 w4 hown4 hgr4; rw [strB_pre] at hown4; obtain ⟨a4, l4, c4, rfl⟩ := slice_any hown4.nums; replace hown4 := Lib.hid hown4; replace hgr4 := Lib.hid hgr4; have b4 := Lib.hid (((Below.refl w.heap.size w).alloc (Nat.le_refl _) _).grown hgr4.out (by simp) own1.out.lt))
    | (refine wpList_append_nums rfl _ _ 22 rfl .u8 w.heap.size 5 i0 1 Tryd.underlying22 hi hz0 hz1 hz2 _ _ _ [(x3 : Int)] rfl (hown4.out.alloc _) rfl (own_lit .u8 5 w4 w4.heap.size (Nat.le_refl _) (x3 : Int)).nums (by simp [preB, hsl.out]; omega) (by simp [preB, hsl.out]; omega) (by have := b4.out.size; simp; omega) ?_; intro v5 w5 hown5 hgr5; obtain ⟨a5, l5, c5, rfl⟩ := slice_any hown5.nums; replace hown5 := Lib.hid hown5; replace hgr5 := Lib.hid hgr5; have b5 := Lib.hid ((b4.out.alloc b4.out.size (.cells #[.int .u8 x3] 5)).grown hgr5.out (by have := b4.out.size; simp; omega) hown4.out.lt); have nc5 := Lib.hid (hv.out.below b5.out))
    | (refine wpList_append_nums rfl _ _ 22 rfl .u8 w.heap.size 5 i0 1 Tryd.underlying22 hi hz0 hz1 hz2 _ _ _ ctx rfl hown5.out rfl nc5.out (by have := hfl.out; rw [hf.out, List.length_append] at this; omega) (by have := hfl.out; rw [hf.out, List.length_append] at this; omega) b5.out.size ?_; intro v6 w6 hown6 hgr6; obtain ⟨a6, l6, c6, rfl⟩ := slice_any hown6.nums; replace hown6 := Lib.hid hown6; replace hgr6 := Lib.hid hgr6))
  have b6 : Below w.heap.size w w6 := b5.out.grown hgr6.out b5.out.size hown5.out.lt
  have n6 : NumsAt .u8 w6 (.slice a6 l6 c6) (labelInfo (strB s) ctx m) := by rw [hf.out]; exact hown6.out.nums
  refine (rexpandO_any _ _ secret _ m w6 (hu.out.below b6) n6 hb.out (byt_info _ _ _ (byt_str s) hbc.out) hl (by have := hfl.out; omega) (by omega) hm0).mono ?_
  rintro e w7 ⟨v7, rfl, hn7, hb7⟩
  replace hn7 := hn7.mono b6.size
  obtain ⟨a7, l7, c7, rfl⟩ := slice_any hn7.nums
  rw [← hLe.out] at hn7
  replace hn7 := Lib.hid hn7
  have b7 := Lib.hid (below_all b6 hb7)
  go_wp2_with fail
  go_ret
  exact ⟨_, rfl, hn7.out, b7.out⟩
theorem rlabO_any (u v : Value) (secret ctx : List Int) (s : ByteArray) (m : Nat) (mi : Int) (w : World) (hmi : mi = (m : Int)) (hu : NumsAt .u8 w u secret) (hv : NumsAt .u8 w v ctx) (hb : Byt secret) (hbc : Byt ctx) (hl : secret.length ≤ 10000) (hs249 : s.size ≤ 249) (hc255 : ctx.length ≤ 255) (hm0 : 0 < m) (hm1 : m ≤ 8160) :
    Calls Tryd.prog 34 #[u, .string s, v, .int .i64 mi] w fun e w' => ∃ v', e = .returned v' ∧ FarAt w' w.heap.size v' (lab secret s ctx m) ∧ Below w.heap.size w w' := by
  subst hmi
  exact rlabelO_any u v secret ctx s m w hu hv hb hbc hl hs249 hc255 hm0 hm1
end Go.Proofs.YtikmfaeiecpncaaDoor
