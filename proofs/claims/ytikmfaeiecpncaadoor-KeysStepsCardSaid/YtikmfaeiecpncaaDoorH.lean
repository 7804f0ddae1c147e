/- The digest, walked: sha.Sum. -/
import Derived.Test.YtikmfaeiecpncaaDoorG
import Derived.Test.YtikmfaeiecpncaaDoorP
import Derived.Test.YtikmfaeiecpncaaDoorT
namespace Go.Proofs.YtikmfaeiecpncaaDoor
open Go.RowKit

def outV (s : St) (i : Nat) : Int := V (s.list.getD (i / 4) 0 >>> (24 - 8 * (i % 4))) % 256
def outS (s : St) : Nat → List Int
  | 0 => List.replicate 32 0
  | k + 1 => (outS s k).set k (outV s k)
theorem outS_len (s : St) (k : Nat) : (outS s k).length = 32 := by induction k with
  | zero => rfl
  | succ k ih => simp [outS, ih]
theorem outS_all (s : St) : outS s 32 = outB s := by
  apply List.ext_getElem?
  have key : ∀ k, k ≤ 32 → ∀ i, (outS s k)[i]? = if i < k then some (outV s i) else if i < 32 then some 0 else none := by
    intro k
    induction k with
    | zero => intro _ i; rw [outS, List.getElem?_replicate, if_neg (show ¬ i < 0 by omega)]
    | succ k ih =>
      intro hk i
      rw [outS, List.getElem?_set, outS_len, ih (by omega) i]
      by_cases h : k = i
      · subst h; rw [if_pos rfl, if_pos (by omega), if_pos (by omega)]
      · rw [if_neg h]
        by_cases h2 : i < k
        · rw [if_pos h2, if_pos (show i < k + 1 by omega)]
        · rw [if_neg h2, if_neg (show ¬ i < k + 1 by omega)]
  intro i
  rw [key 32 (Nat.le_refl _) i]
  by_cases h : i < 32
  · rw [if_pos h]; simp [outB, h]; rfl
  · rw [if_neg h, if_neg h, List.getElem?_eq_none (by rw [outB_len]; omega)]
theorem bys_set (xs : List Int) (i : Nat) (v : Int) : (bys xs).setIfInBounds i (.int .u8 v) = bys (xs.set i v) := by
  simp [bys, List.map_set]
theorem Blk.setByte {w : World} {b : Nat} {ty : TypeId} {xs : List Int} (h : Blk w b ty (bys xs)) (i : Nat) (v : Int) : Blk (w.setCell ⟨b, i, none⟩ (.int .u8 v)) b ty (bys (xs.set i v)) := by
  have := h.set i (.int .u8 v); rwa [bys_set] at this
theorem runH_st (t : List Int) (j : Nat) : runH t (j + 1) = comp (runH t j) (blkAt t j) := rfl
theorem byt_fun {xs : List Int} (h : Byt xs) : ∀ i, 0 ≤ xs.getD i 0 ∧ xs.getD i 0 ≤ 255 := h
theorem index32 (xs : Ws) (k : Nat) (hx : xs.length = 8) (hk : k < 8) (w : World) : (Instr.index 32 (.agg (wds xs)) (.int .i64 k)).run Tryd.prog w = .ok (.int .u32 (V (xs.getD k 0))) w := by
  have h := wds_at xs k (by omega)
  simp only [Instr.index, Sem.run_bind, asIntOf, Sem.run_pure, Result.andThen, run_underlying arr32 w]
  rw [if_pos (by omega)]
  simp [Go.part, Sem.run_bind, Result.andThen, h]
def zb (n : Nat) : List Int := List.replicate n 0

set_option maxHeartbeats 1600000 in
set_option maxRecDepth 100000 in
theorem sum_any (u : Value) (ps : List (List Int)) (xs : List Int) (w : World) (hxs : ps.flatten = xs) (hu : PartsAt w u ps) (hb : Byt xs) (hl : xs.length ≤ 100000) (hg : Gl w) :
    Calls Tryd.prog 17 #[u] w fun e w' => e = .returned (.agg (bys (sha xs))) ∧ Below w.heap.size w w' := by
  obtain ⟨r, hr⟩ := name_it (sha xs)
  rw [← hr.out]
  obtain ⟨i0, hi, hz0, hz1, hz2⟩ := info_parts info5
  obtain ⟨a, cap, rfl, hpl, _, ub, uo, huc⟩ := hu
  have huc := Lib.hid huc
  have hxs := Lib.hid hxs
  have hg := Lib.hid hg
  have hb := Lib.hid hb
  go_enter Tryd.func17, Tryd.ntmps17
  go_wp2_with fail
  go_loopw [13, 3] (fun i v wr => ∃ k : Nat, k ≤ ps.length ∧ i = .int .i64 k ∧ Hid (OwnNums .u8 5 wr (w.heap.size + 1) v (ps.take k).flatten) ∧ Hid (Blk wr w.heap.size 26 (bys (zb 32))) ∧ Below w.heap.size w wr) (fun i _ _ => ps.length - (intOf i).toNat)
  case atStart => exact ⟨0, Nat.zero_le _, rfl, OwnNums.nil _ _ _ _, Blk.new w 26 (bys (zb 32)), (Below.refl _ _).alloc (Nat.le_refl _) _⟩
  case round =>
    obtain ⟨k, hk, rfl, hown, l2, b1⟩ := hrel
    have hsz := l2.out.lt
    by_cases hlt : k < ps.length
    · obtain ⟨rfl, v, hc, hn⟩ := huc.out k hlt
      have hul := cell_lt hc
      have hc := (b1.cell (p := ⟨ub, uo + k, none⟩) hul).trans hc
      have hn := Lib.hid (hn.below b1)
      have h1 := flat_take_le ps (k + 1)
      rw [flat_take ps k hlt, hxs.out, List.length_append] at h1
      go_wp2_with (at_builtin; refine wpList_append_nums rfl _ _ 22 rfl .u8 (w.heap.size + 1) 5 i0 1 Tryd.underlying22 hi hz0 hz1 hz2 _ _ _ _ rfl hown.out rfl hn.out (by omega) (by omega) (by omega) ?_; intro v3 w3 hown3 hgr3)
      have hne := hown.out.lt
      have hb3 := b1.grown hgr3 (by omega) (fun j hj => by have := hne j hj; omega)
      have l2 := l2.out.grown hgr3 (fun e => by have := hne _ e.symm; omega)
      rw [← flat_take ps k hlt] at hown3
      have hown3 := Lib.hid hown3
      clear hgr3
      go_roundw
      case rel => exact ⟨k + 1, by omega, by go_num, hown3, l2, hb3⟩
      case measure => simp [intOf]; omega
    · obtain rfl : k = ps.length := by omega
      rw [List.take_length, hxs.out] at hown
      obtain ⟨at3, cap3, rfl, _⟩ := hown.out.form
      go_wp2_with fail
      refine (pad_any xs.length _ (by omega)).mono ?_
      rintro e w2 ⟨v2, rfl, hpad, hb2⟩
      have hpn := Lib.hid hpad.nums
      have hown2 := Lib.hid (hown.out.below hb2)
      have l2 := l2.out.below hb2 hsz
      have b2 := b1.trans (hb2.mono b1.size)
      have hsz2 := l2.lt
      have hne := hown2.out.lt
      have hpl2 := padL_len xs.length
      have hpz := padZ_lt xs.length
      clear hown hpad b1 hb2
      have z8 : (Tryd.prog.info? 32).map (·.size) = some (wds H0.list).size := by rw [wds_size]; exact sz32
      have z8 := Lib.hid z8
      have ho8 : Hid ((wds (zeros 8)).size = (wds H0.list).size) := by show _ = _; rw [wds_size, wds_size]; rfl
      have b2 := Lib.hid b2
      have hne := Lib.hid hne
      go_wp2_with (first
        | (at_builtin; refine wpList_append_nums rfl _ _ 22 rfl .u8 (w.heap.size + 1) 5 i0 1 Tryd.underlying22 hi hz0 hz1 hz2 _ _ xs (padL xs.length) rfl hown2.out rfl hpn.out (by omega) (by omega) (by omega) ?_; intro v3 w3 hown3 hgr3; have hown3 := Lib.hid hown3; have hgr3 := Lib.hid hgr3; obtain ⟨ty0, fr0, h0⟩ := (hg.out.below (b2.out.grown hgr3.out (by omega) (fun j hj => by have := hne.out j hj; omega)) hg.out.lt).h; have h0 := Lib.hid h0)
        | refine wpList_load_row rfl 32 _ rfl 0 rfl ty0 _ fr0 _ h0.out arr32 rfl z8.out ?_
        | refine wpList_store_row rfl 32 _ _ rfl _ _ rfl rfl 32 _ (Blk.new w3 32 (wds (zeros 8))) z8.out ho8.out (wds_one _) ?_)
      have b3 := b2.out.grown hgr3.out (by omega) (fun j hj => by have := hne.out j hj; omega)
      have l2 := l2.grown hgr3.out (fun e => by have := hne.out _ e.symm; omega)
      have hown3 : OwnNums .u8 5 w3 (w.heap.size + 1) v3 (full xs) := hown3.out
      have hft := full_len xs
      have hbf := byt_full hb.out
      obtain ⟨t, ht⟩ := name_it (full xs)
      rw [← ht.out] at hown3 hft hbf
      have hbf := Lib.hid hbf
      replace hft := Lib.hid hft
      have htl : t.length ≤ 100200 := by rw [ht.out]; simp [full]; omega
      have hn3 := Lib.hid hown3.nums
      have hsz3 := l2.lt
      have l2 := Lib.hid l2
      have b3 := Lib.hid b3
      have ls := Lib.hid ((Blk.new w3 32 (wds (zeros 8))).setRow (wds H0.list))
      have b4 := Lib.hid (below_setRow (g := w3.heap.size) ((Below.refl w3.heap.size w3).alloc (Nat.le_refl _) (.cells (wds (zeros 8)) 32)) (Nat.le_refl _) (wds H0.list))
      clear hgr3 hown3 hown2 hpn hne b2 hsz2 hpl2 hpz h0
      obtain ⟨b6, hb6⟩ : ∃ b, b = w3.heap.size := ⟨_, rfl⟩
      change Code.wp _ _ _ _ ((w3.alloc (.cells (wds (zeros 8)) 32)).setRow w3.heap.size (wds H0.list))
      generalize (w3.alloc (.cells (wds (zeros 8)) 32)).setRow w3.heap.size (wds H0.list) = w4 at ls b4 ⊢
      rw [← hb6] at ls ⊢
      replace hb6 := Lib.hid hb6
      clear ho8 z8
      obtain ⟨at4, cap4, rfl, _⟩ := slice_form hn3.out
      rw [put_none]
      go_loopw [3] (fun v wr => ∃ j : Nat, j ≤ t.length / 64 ∧ (∃ ad cp, v = .slice ad (t.length - 64 * j) cp) ∧ Hid (NumsAt .u8 w3 v (t.drop (64 * j))) ∧ Hid (Blk wr b6 32 (wds (runH t j).list)) ∧ Hid (Below w3.heap.size w3 wr)) (fun v _ => match v with | .slice _ l _ => l | _ => 0)
      case atStart => exact ⟨0, Nat.zero_le _, ⟨at4, cap4, by simp⟩, hn3, ls, b4⟩
      case round =>
        obtain ⟨j, hj, ⟨ad, cp, rfl⟩, hn, l6, b5⟩ := hrel
        have hlen : (t.drop (64 * j)).length = t.length - 64 * j := by simp
        have hft' := hft.out
        by_cases hlt : j < t.length / 64
        · obtain ⟨n, hn'⟩ := name_it (t.length - 64 * j)
          have hnl : n = t.length - 64 * j := hn'.out
          have hn0 : (n : Int) > 0 := by omega
          have hnN : 0 < n := by omega
          obtain ⟨b7, o7, cp7, he7⟩ := nums_some hn.out (by omega)
          rw [hlen, ← hnl] at he7
          simp only [Value.slice.injEq] at he7
          obtain ⟨rfl, _, rfl⟩ := he7
          obtain ⟨v', hcut, hcut'⟩ := cut_l hn.out 64 (by omega) (by omega)
          obtain ⟨a', cp', hv', _⟩ := slice_form (hcut' _ hn.out)
          rw [show ((t.drop (64 * j)).drop (64 : Int).toNat).length = t.length - 64 * (j + 1) by simp; omega] at hv'
          subst hv'
          have hdl : ((t.drop (64 * j)).drop (64 : Int).toNat) = t.drop (64 * (j + 1)) := by rw [List.drop_drop]; congr 1
          rw [hdl] at hcut'
          rw [← hnl] at hcut hcut' hn ⊢
          obtain ⟨st, hst⟩ := name_it (runH t j)
          rw [← hst.out] at l6
          obtain ⟨blk, hblk⟩ := name_it (blkAt t j)
          have hbl : blk.length = 64 := by rw [hblk.out]; exact blkAt_len _ _ (by omega)
          have hbb : Hid (Byt blk) := by show Byt _; rw [hblk.out]; exact byt_blk hbf.out j
          obtain ⟨st', hst'⟩ := name_it (comp st blk)
          replace hnl := Lib.hid hnl
          replace hlen := Lib.hid hlen
          clear hft' hdl
          go_wp2_with fail
          refine region_rel_lit (.step (.step (.step (.step (.step (.base _)))))) (fun i _ v => match i with
            | 0 => v = .agg (wds st.list)
            | 1 => v = .slice (some ⟨b7, o7, none⟩) n cp
            | 2 => v = .pointer (some ⟨b7, o7, none⟩)
            | 3 => v = .agg (bys blk)
            | _ => v = .agg (wds st'.list)) mixed (by kernel_rfl) (by kernel_rfl) ?_ ?_ ?_
          · rintro (_ | _ | _ | _ | i) w w' v h _ <;> exact h
          · intro i oi hoi x w5 hb5 hd
            rcases i with _ | _ | _ | _ | _ | i
            · obtain rfl := Option.some.inj hoi
              simp only [fill, Act.put, List.setIfInBounds_toArray, List.set_cons_succ, List.set_cons_zero]
              go_wp2_with (refine wpList_load_row rfl 32 _ rfl _ rfl 32 _ _ _ (l6.out.below hb5 l6.out.lt) arr32 rfl (by rw [wds_size]; exact sz32) ?_)
              exact ⟨_, rfl, Below.refl _ _, rfl⟩
            · obtain rfl := Option.some.inj hoi
              simp only [fill, Act.put, List.setIfInBounds_toArray, List.set_cons_succ, List.set_cons_zero]
              go_wp2_with fail
              exact ⟨_, rfl, Below.refl _ _, rfl⟩
            · obtain rfl := Option.some.inj hoi
              have h0 : x 1 = .slice (some ⟨b7, o7, none⟩) n cp := hd 1 (by kernel_rfl)
              simp only [fill, Act.put, List.setIfInBounds_toArray, List.set_cons_succ, List.set_cons_zero, h0]
              have e1 := arrayAt_ok arr33 (some ⟨b7, o7, none⟩) n cp (by have := hnl.out; have := hft.out; omega) w5
              go_wp2_with fail
              exact ⟨_, rfl, Below.refl _ _, rfl⟩
            · obtain rfl := Option.some.inj hoi
              have h0 : x 2 = .pointer (some ⟨b7, o7, none⟩) := hd 2 (by kernel_rfl)
              simp only [fill, Act.put, List.setIfInBounds_toArray, List.set_cons_succ, List.set_cons_zero, h0]
              have e1 := load_nums arr33 sz33 ((hn.out.below b5.out).below (hb5.mono b5.out.size |> fun h => ⟨h.os, h.tape, h.output, hb5.size, hb5.block⟩)) (by have := hlen.out; have := hft.out; omega)
              change _ = Result.ok (Value.agg (bys (blkAt t j))) w5 at e1
              rw [← hblk.out] at e1
              replace e1 := Lib.hid e1
              go_wp2_with (refine wpList_load_is rfl 33 _ rfl rfl e1.out ?_)
              exact ⟨_, rfl, Below.refl _ _, rfl⟩
            · obtain rfl := Option.some.inj hoi
              have h0 : x 0 = .agg (wds st.list) := hd 0 (by kernel_rfl)
              have h3 : x 3 = .agg (bys blk) := hd 3 (by kernel_rfl)
              simp only [fill, Act.put, List.setIfInBounds_toArray, List.set_cons_succ, List.set_cons_zero, h0, h3]
              go_wp2_with fail
              refine (step_any st blk w5 hbl (byt_fun hbb.out) (((hg.out.below b3.out hg.out.lt).below b5.out (by have := hg.out.lt; have := b3.out.size; omega)).below hb5 (by have := hg.out.lt; have := b3.out.size; have := b5.out.size; omega))).mono ?_
              rintro e w6 ⟨rfl, hb7⟩
              go_wp2_with fail
              exact ⟨_, rfl, hb7, by rw [hst'.out]⟩
            · cases hoi
          · intro x w5 hb5 hd
            have h4 : x 4 = .agg (wds st'.list) := hd 4 (by decide)
            have z8 : (Tryd.prog.info? 32).map (·.size) = some (wds st'.list).size := by rw [wds_size]; exact sz32
            have z8 := Lib.hid z8
            have ho8 : Hid ((wds st.list).size = (wds st'.list).size) := by show _ = _; rw [wds_size, wds_size]; rfl
            have l6 := l6.out.below hb5 l6.out.lt
            have l6' := Lib.hid (l6.setRow (wds st'.list))
            have b6' := Lib.hid (below_setRow (g := b6) (b5.out.trans (hb5.mono b5.out.size)) (by rw [hb6.out]; exact Nat.le_refl _) (wds st'.list))
            simp only [fill, Act.put, List.setIfInBounds_toArray, List.set_cons_succ, List.set_cons_zero, h4]
            go_wp2_with (refine wpList_store_row rfl 32 _ _ rfl _ _ rfl rfl 32 _ l6 z8.out ho8.out (wds_one _) ?_)
            have l6' := l6'.out
            have b6' := b6'.out
            rw [show st' = runH t (j + 1) by rw [hst'.out, hst.out, hblk.out]; rfl] at l6' b6' ⊢
            go_roundw
            case rel => exact ⟨j + 1, by omega, ⟨_, _, rfl⟩, hcut' _ hn.out, l6', b6'⟩
            case measure => simp; have := hlen.out; have := hnl.out; have := hft.out; omega
        · obtain rfl : j = t.length / 64 := by omega
          have hz : t.length - 64 * (t.length / 64) = 0 := by omega
          rw [hz]
          obtain ⟨st, hst⟩ := name_it (runH t (t.length / 64))
          rw [← hst.out] at l6
          have hrs : r = outB st := by rw [hr.out, hst.out, sha, hash, ht.out]
          replace hrs := Lib.hid hrs
          have l2 := Lib.hid (l2.out.below b5.out l2.out.lt)
          have b5 := Lib.hid (b3.out.trans (b5.out.mono b3.out.size))
          have hsz5 := l2.out.lt
          clear hft' hlen hn hz hlt hj hn3 b4
          have z8 : (Tryd.prog.info? 32).map (·.size) = some (wds st.list).size := by rw [wds_size]; exact sz32
          replace z8 := Lib.hid z8
          go_wp2_with (refine wpList_load_row rfl 32 _ rfl _ rfl 32 _ _ _ (l6.out.alloc (.cells (bys (zb 32)) 26)) arr32 rfl z8.out ?_)
          clear l6 z8
          have ln := Lib.hid (show Blk (wr.alloc (.cells (bys (zb 32)) 26)) wr.heap.size 26 (bys (outS st 0)) from Blk.new wr 26 (bys (zb 32)))
          replace l2 := Lib.hid (l2.out.alloc (.cells (bys (zb 32)) 26))
          replace b5 := Lib.hid (b5.out.alloc (by omega) (.cells (bys (zb 32)) 26))
          obtain ⟨b7, hb7⟩ : ∃ b, b = wr.heap.size := ⟨_, rfl⟩
          change Code.wp _ _ _ _ (wr.alloc (.cells (bys (zb 32)) 26))
          generalize wr.alloc (.cells (bys (zb 32)) 26) = w6 at ln l2 b5 ⊢
          rw [← hb7] at ln hsz5 ⊢
          clear hb7
          go_loopw [38] (fun i wr => ∃ k : Nat, k ≤ 8 ∧ i = .int .i64 k ∧ Hid (Blk wr b7 26 (bys (outS st (4 * k)))) ∧ Hid (Blk wr w.heap.size 26 (bys (zb 32))) ∧ Hid (Below w.heap.size w wr)) (fun i _ => 8 - (intOf i).toNat)
          case atStart => exact ⟨0, by omega, rfl, ln, l2, b5⟩
          case round =>
            clear ln l2 b5
            obtain ⟨k, hk, rfl, ln, l2, b5⟩ := hrel
            by_cases hlt : k < 8
            · have hkI : (k : Int) < 8 := by omega
              obtain ⟨x, hx⟩ := name_it (st.list.getD k 0)
              have hw := index32 st.list k rfl hlt wr
              rw [← hx.out] at hw
              go_wp2_with fail
              go_loopw [42] (fun i wr => ∃ j : Nat, j ≤ 4 ∧ i = .int .i64 j ∧ Hid (Blk wr b7 26 (bys (outS st (4 * k + j)))) ∧ Hid (Blk wr w.heap.size 26 (bys (zb 32))) ∧ Hid (Below w.heap.size w wr)) (fun i _ => 4 - (intOf i).toNat)
              case atStart => exact ⟨0, by omega, rfl, ln, l2, b5⟩
              case round =>
                clear ln l2 b5
                obtain ⟨j, hj, rfl, ln, l2, b5⟩ := hrel
                by_cases hlt2 : j < 4
                · have hjI : (j : Int) < 4 := by omega
                  obtain ⟨y, hy⟩ := name_it (outV st (4 * k + j))
                  have eb : V x / 2 ^ (24 - 8 * j) % 256 = y := by
                    rw [V_shr, hy.out, outV, show (4 * k + j) / 4 = k by omega, show (4 * k + j) % 4 = j by omega, hx.out]
                  have ff := ln.out.fr (4 * k + j)
                  have cc := ln.out.byte (4 * k + j) (by rw [outS_len]; omega)
                  go_wp2_with fail
                  have ln' := ln.out.setByte (4 * k + j) y
                  rw [show (outS st (4 * k + j)).set (4 * k + j) y = outS st (4 * k + (j + 1)) by rw [hy.out]; rfl] at ln'
                  have l2' := l2.out.setOther (b' := b7) (o := 4 * k + j) (.int .u8 y) (by omega)
                  have b5' := b5.out.setCell (p := ⟨b7, 4 * k + j, none⟩) (by show _ ≤ b7; omega) (.int .u8 y)
                  go_roundw
                  case rel => exact ⟨j + 1, by omega, by go_num, ln', l2', b5'⟩
                  case measure => simp [intOf]; omega
                · obtain rfl : j = 4 := by omega
                  go_wp2_with fail
                  go_roundw
                  case rel => exact ⟨k + 1, by omega, by go_num, ln, l2, b5⟩
                  case measure => simp [intOf]; omega
            · obtain rfl : k = 8 := by omega
              have ln : Blk wr b7 26 (bys (outS st 32)) := ln.out
              rw [outS_all, ← hrs.out] at ln
              have hrl : r.length = 32 := by rw [hrs.out]; exact outB_len _
              have z8 : (Tryd.prog.info? 26).map (·.size) = some (bys r).size := by rw [bys_size, hrl]; exact sz26
              replace z8 := Lib.hid z8
              have ho8 : Hid ((bys (zb 32)).size = (bys r).size) := by show _ = _; rw [bys_size, bys_size, hrl]; rfl
              have l3 := Lib.hid (l2.out.setRow (bys r))
              have b3 := Lib.hid (below_setRow b5.out (Nat.le_refl _) (bys r))
              go_wp2_with (first
                | refine wpList_load_row rfl 26 _ rfl _ rfl 26 _ _ _ ln arr26 rfl z8.out ?_
                | refine wpList_store_row rfl 26 _ _ rfl _ _ rfl rfl 26 _ l2.out z8.out ho8.out (bys_one _) ?_)
              replace l3 := l3.out
              replace b3 := b3.out
              generalize wr.setRow w.heap.size (bys r) = w9 at l3 b3 ⊢
              exact bodyPost_ret (results_cell_row rfl _ _ _ 26 _ _ _ rfl l3 arr26 rfl z8.out) rfl ⟨rfl, b3⟩
end Go.Proofs.YtikmfaeiecpncaaDoor
