/- The walk of the law LadderSums. -/
import Derived.Test.YtneclkneglgfdaaD
namespace Go.Proofs.Ytneclkneglgfdaa
open Go.RowKit Go.Maps

theorem slotsL_to {host : Int} {xs : List Int} {a : Int} {n : Nat} (h : n < 10000) : slotsL host xs a (a + n) = slotsTo host xs a (n + 1) := by
  have e : (a + (n : Int) - a + 1).toNat = n + 1 := by omega
  rw [slotsL, slotsTo, e, if_neg (by omega)]
theorem slotsTo_add (host : Int) (xs : List Int) (a : Int) (n m : Nat) : slotsTo host xs a (n + m) = slotsTo host xs a n ++ slotsTo host xs (a + n) m := by
  induction m with
  | zero => simp [slotsTo]
  | succ m ih =>
    have e : a + ((n + m : Nat) : Int) = a + n + m := by omega
    rw [← Nat.add_assoc, slotsTo_succ, ih, slotsTo_succ, List.append_assoc, e]
theorem slotsL_len (host : Int) (xs : List Int) (a b : Int) : (slotsL host xs a b).length ≤ 10000 := by
  unfold slotsL
  split
  · simp
  · have := List.length_filter_le (slotB host xs) ((List.range (b - a + 1).toNat).map (fun (k : Nat) => a + (k : Int)))
    simp at this
    omega
theorem busyB_more {xs : List Int} {y t : Int} (h : busyB xs t = true) : busyB (xs ++ [y]) t = true := by
  unfold busyB at *
  rw [List.any_append, h]; rfl
theorem slotB_more {host : Int} {xs : List Int} {y t : Int} (h : slotB host xs t = true) : slotB host (xs ++ [y]) t = true := by
  unfold slotB at *
  simp only [Bool.and_eq_true, Bool.or_eq_true] at *
  exact ⟨h.1, h.2.imp busyB_more id⟩
theorem filter_sub {p q : Int → Bool} (h : ∀ x, p x = true → q x = true) : ∀ l : List Int, (l.filter p).Sublist (l.filter q)
  | [] => List.Sublist.refl _
  | x :: l => by
    have ih := filter_sub h l
    cases hp : p x
    · cases hq : q x
      · simpa [List.filter_cons, hp, hq] using ih
      · simpa [List.filter_cons, hp, hq] using ih.cons x
    · simpa [List.filter_cons, hp, h x hp] using ih.cons_cons x
theorem slotsL_sub (host : Int) (xs : List Int) (y a b : Int) : (slotsL host xs a b).Sublist (slotsL host (xs ++ [y]) a b) := by
  unfold slotsL
  split
  · exact List.Sublist.refl _
  · exact filter_sub (fun _ => slotB_more) _

/-- The greedy walk along a sublist. -/
theorem sub_hit {r s : List Int} {i k : Nat} (hi : i < s.length) (hk : k < r.length) (h : (r.drop k).Sublist (s.drop i)) (e : s.getD i 0 = r.getD k 0) : (r.drop (k + 1)).Sublist (s.drop (i + 1)) := by
  rw [List.drop_eq_getElem_cons hi, List.drop_eq_getElem_cons hk] at h
  simp only [List.getD, List.getElem?_eq_getElem hi, List.getElem?_eq_getElem hk, Option.getD_some] at e
  rw [e] at h
  exact List.cons_sublist_cons.1 h
theorem sub_miss {r s : List Int} {i k : Nat} (hi : i < s.length) (hk : k < r.length) (h : (r.drop k).Sublist (s.drop i)) (e : ¬ s.getD i 0 = r.getD k 0) : (r.drop k).Sublist (s.drop (i + 1)) := by
  rw [List.drop_eq_getElem_cons hi] at h
  rw [List.drop_eq_getElem_cons hk] at h ⊢
  simp only [List.getD, List.getElem?_eq_getElem hi, List.getElem?_eq_getElem hk, Option.getD_some] at e
  generalize s[i] = p at e h
  generalize r[k] = q at e h ⊢
  cases h with
  | cons _ h => exact h
  | cons_cons _ h => exact absurd rfl e
theorem sub_end {r s : List Int} {i k : Nat} (hi : s.length ≤ i) (h : (r.drop k).Sublist (s.drop i)) : r.length ≤ k := by
  rw [List.drop_of_length_le hi] at h
  have := List.sublist_nil.1 h
  simpa using this

def lows (xs : List Int) : List Int := xs.map (lowF · 300)
theorem lows_in {xs : List Int} : ∀ x ∈ lows xs, -9223372036854775808 ≤ x ∧ x ≤ 9223372036854775807 := by
  intro x hx
  obtain ⟨y, _, rfl⟩ := List.mem_map.1 hx
  have := lowF_bd y 300 (by omega)
  omega

theorem slots_parts (h : Int) (L : List Int) (x y z : Int) (y1 : 0 ≤ y) (y2 : y < 200) (z1 : 0 ≤ z) (z2 : z < 200) : slotsL h L x (x + y) ++ slotsL h L (x + y + 1) (x + y + 1 + z) = slotsL h L x (x + y + 1 + z) := by
  obtain ⟨y', rfl⟩ : ∃ y' : Nat, y = y' := ⟨y.toNat, by omega⟩
  obtain ⟨z', rfl⟩ : ∃ z' : Nat, z = z' := ⟨z.toNat, by omega⟩
  have e1 : x + (y' : Int) + 1 + z' = x + ((y' + 1 + z' : Nat) : Int) := by omega
  have e2 : x + (y' : Int) + 1 = x + ((y' + 1 : Nat) : Int) := by omega
  have h1 : slotsL h L x (x + (y' : Int) + 1 + z') = slotsTo h L x (y' + 1 + z' + 1) := by rw [e1]; exact slotsL_to (by omega)
  have h2 : slotsL h L (x + (y' : Int) + 1) (x + (y' : Int) + 1 + z') = slotsTo h L (x + ((y' + 1 : Nat) : Int)) (z' + 1) := by rw [e2]; exact slotsL_to (by omega)
  rw [h1, h2, slotsL_to (by omega), Nat.add_assoc (y' + 1)]
  exact (slotsTo_add h L x (y' + 1) (z' + 1)).symm

set_option maxHeartbeats 2000000 in
theorem sums_any (host more a b c : Int) (u : Value) (xs : List Int) (w : World) (hu : NumsAt .i64 w u xs) :
    Calls Try.prog 5 #[.int .i64 host, u, .int .i64 more, .int .i64 a, .int .i64 b, .int .i64 c] w fun e w' => e = .returned (.bool true) ∧ Below w.heap.size w w' := by
  obtain ⟨ad, ca, hu0, hl, ba, oa, hca⟩ := hu.form
  subst hu0
  by_cases h10 : 10 < xs.length
  · go_enter Try.func5, Try.ntmps5
    go_wp2_with fail
    refine (awake_any _).mono ?_
    rintro e w1 ⟨rfl, b1⟩
    go_wp2
    go_ret
    exact ⟨rfl, b1⟩
  · obtain ⟨i0, hi, hz0, hz1, hz2⟩ := info_parts Try.info3
    go_enter Try.func5, Try.ntmps5
    go_wp2_with fail
    go_loopw [14, 13] (fun i v wr => ∃ k : Nat, k ≤ xs.length ∧ i = .int .i64 k ∧ Hid (OwnNums .i64 3 wr w.heap.size v (lows (xs.take k))) ∧ Below w.heap.size w wr) (fun i _ _ => xs.length - (intOf i).toNat)
    case atStart => exact ⟨0, Nat.zero_le _, rfl, OwnNums.nil _ _ _ _, Below.refl _ _⟩
    case round =>
      obtain ⟨k, hk, rfl, hown, hbel⟩ := hrel
      have hs := hbel.size
      by_cases hlt : k < xs.length
      · obtain ⟨rfl, hc⟩ := hca.out k hlt
        obtain ⟨x, hx⟩ := name_it (xs.getD k 0)
        rw [← hx.out] at hc
        have hb0 : ba < w.heap.size := cell_lt hc
        have hc : wr.cell? ⟨ba, oa + k, none⟩ = some (.int .i64 x) := (hbel.cell hb0).trans hc
        obtain ⟨r, hr, _, _⟩ := low_name x 300 (by omega)
        go_wp2_with fail
        refine (low_r _ _ r _ hr (by omega) (by omega)).mono ?_
        rintro e w1 ⟨rfl, rfl⟩
        go_wp2_with (at_builtin; refine wpList_append_nums rfl _ _ 22 rfl .i64 w.heap.size 3 i0 8 Try.underlying22 hi hz0 hz1 hz2 _ _ _ [r] rfl (hown.out.alloc _) rfl (nums_made .i64 3 _ [r] (by simp)) (by simp [lows]; omega) (by simp [lows]; omega) (by simp; omega) ?_; intro v3 w3 hown3 hgr3)
        have hs3 := hgr3.size
        simp at hs3
        go_roundw
        case rel =>
          refine ⟨k + 1, by omega, by go_num, ?_, (hbel.alloc (by omega) _).grown hgr3 (by simp; omega) (fun j hj => hown.out.lt j hj)⟩
          show OwnNums _ _ _ _ _ _
          rw [take_snoc hlt hx.out, lows, List.map_append, List.map_singleton, hr.out]
          exact hown3
        case measure => simp [intOf]; omega
      · rw [List.take_of_length_le (by omega)] at hown
        go_wp2_with fail
        obtain ⟨x, hx, hx1, hx2⟩ := low_name a 200 (by omega)
        obtain ⟨y, hy, hy1, hy2⟩ := low_name b 200 (by omega)
        obtain ⟨z, hz, hz1', hz2'⟩ := low_name c 200 (by omega)
        obtain ⟨h, hh, hh1, hh2⟩ := low_name host 2 (by omega)
        obtain ⟨m, hm, hm1, hm2⟩ := low_name more 300 (by omega)
        have hlw : (lows xs).length ≤ 10 := by simp [lows]; omega
        refine (low_r _ _ x _ hx (by omega) (by omega)).mono ?_
        rintro e w1 ⟨rfl, rfl⟩
        go_wp2_with fail
        refine (low_r _ _ y _ hy (by omega) (by omega)).mono ?_
        rintro e w1 ⟨rfl, rfl⟩
        go_wp2_with fail
        refine (low_r _ _ z _ hz (by omega) (by omega)).mono ?_
        rintro e w1 ⟨rfl, rfl⟩
        go_wp2_with fail
        refine (low_r _ _ h _ hh (by omega) (by omega)).mono ?_
        rintro e w1 ⟨rfl, rfl⟩
        go_wp2_with fail
        refine (slots_any h x _ _ (lows xs) _ hown.out.nums (by omega) (fun q hq => lows_in q hq) (by omega) (by omega) (by omega) (by omega)).mono ?_
        rintro e w1 ⟨vp, rfl, op, b1⟩
        have s1 := b1.size
        have hown1 := Lib.hid (hown.out.below b1)
        have hbel1 := hbel.trans (b1.mono (by omega))
        have op := Lib.hid op
        clear hown hbel b1
        go_wp2_with fail
        refine (slots_any h _ _ _ (lows xs) _ hown1.out.nums (by omega) (fun q hq => lows_in q hq) (by omega) (by omega) (by omega) (by omega)).mono ?_
        rintro e w2 ⟨vq, rfl, oq, b2⟩
        have s2 := b2.size
        have hown2 := Lib.hid (hown1.out.below b2)
        have op2 := Lib.hid (op.out.below b2)
        have hbel2 := hbel1.trans (b2.mono (by omega))
        have oq := Lib.hid oq
        clear hown1 hbel1 b2 op
        go_wp2_with fail
        refine (slots_any h x _ _ (lows xs) _ hown2.out.nums (by omega) (fun q hq => lows_in q hq) (by omega) (by omega) (by omega) (by omega)).mono ?_
        rintro e w3 ⟨vr, rfl, or, b3⟩
        have s3 := b3.size
        have hown3 := Lib.hid (hown2.out.below b3)
        have op3 := Lib.hid (op2.out.below b3)
        have oq3 := Lib.hid (oq.out.below b3)
        have hbel3 := hbel2.trans (b3.mono (by omega))
        have or := Lib.hid or
        clear hown2 hbel2 b3 op2 oq
        go_wp2_with (at_builtin; refine wpList_append_nums rfl _ _ 22 rfl .i64 w3.heap.size 3 i0 8 Try.underlying22 hi hz0 hz1 hz2 _ _ [] (lows xs) rfl (OwnNums.nil _ _ _ _) rfl hown3.out.nums (by simp; omega) (by simp; omega) (by omega) ?_; intro v4 w4 hown4 hgr4)
        have hgr4 : w3.grownBy w4 none := hgr4
        have b4 : Below w3.heap.size w3 w4 := ⟨hgr4.os, hgr4.tape, hgr4.output, hgr4.size, fun q hq => hgr4.block q hq (by simp)⟩
        clear hgr4 hown3
        have s4 := b4.size
        have hbel4 := hbel3.trans (b4.mono (by omega))
        clear hbel3
        refine (low_r _ _ m _ hm (by omega) (by omega)).mono ?_
        rintro e w5 ⟨rfl, rfl⟩
        have hown4' := Lib.hid hown4
        clear hown4
        go_wp2_with (at_builtin; refine wpList_append_nums rfl _ _ 22 rfl .i64 w3.heap.size 3 i0 8 Try.underlying22 hi hz0 hz1 hz2 _ _ _ [m] rfl (hown4'.out.alloc _) rfl (nums_made .i64 3 _ [m] (by simp)) (by simp; omega) (by simp; omega) (by simp; omega) ?_; intro v5 w5 hown5 hgr5)
        have b5 : Below w3.heap.size w4 w5 := ((Below.refl _ _).alloc (by omega) _).grown hgr5 (by simp; omega) (fun j hj => hown4'.out.lt j hj)
        have s5 := b5.size
        have b35 := b4.trans b5
        have op5 := Lib.hid (op3.out.below b35)
        have oq5 := Lib.hid (oq3.out.below b35)
        have or5 := Lib.hid (or.out.below b35)
        have hbel5 := hbel4.trans (b5.mono (by omega))
        have hown5 := Lib.hid hown5
        clear hbel4 b4 b5 b35 op3 oq3 or hown4' hgr5
        refine (slots_any h x _ _ (lows xs ++ [m]) _ hown5.out.nums (by simp; omega) (by
          intro q hq
          rcases List.mem_append.1 hq with hq | hq
          · exact lows_in q hq
          · simp at hq; omega) (by omega) (by omega) (by omega) (by omega)).mono ?_
        rintro e w6 ⟨vs, rfl, os, b6⟩
        have s6 := b6.size
        have op6 := Lib.hid (op5.out.below b6)
        have oq6 := Lib.hid (oq5.out.below b6)
        have or6 := or5.out.below b6
        have hbel6 := hbel5.trans (b6.mono (by omega))
        clear hbel5 b6 op5 oq5 or5 hown5
        have hsub := Lib.hid (slotsL_sub h (lows xs) m x (x + y + 1 + z))
        obtain ⟨R, hR⟩ := name_it (slotsL h (lows xs) x (x + y + 1 + z))
        obtain ⟨S, hS⟩ := name_it (slotsL h (lows xs ++ [m]) x (x + y + 1 + z))
        rw [← hR.out] at or6
        rw [← hS.out] at os
        have hRl : R.length ≤ 10000 := by rw [hR.out]; exact slotsL_len _ _ _ _
        have hSl : S.length ≤ 10000 := by rw [hS.out]; exact slotsL_len _ _ _ _
        have hsub : Hid (R.Sublist S) := by show R.Sublist S; rw [hR.out, hS.out]; exact hsub.out
        obtain ⟨ar, cr, hvr, _, br, off_r, hcr⟩ := or6.nums.form
        obtain ⟨as', cs, hvs, _, bs, off_s, hcs⟩ := os.nums.form
        have or6 := Lib.hid or6
        have os := Lib.hid os
        subst hvr
        subst hvs
        go_wp2_with fail
        go_loopw [23, 22] (fun i q wr' => ∃ k c n : Nat, k ≤ S.length ∧ c ≤ R.length ∧ i = .int .i64 k ∧ q = .int .i64 c ∧ Hid ((R.drop c).Sublist (S.drop k)) ∧ wr' = w6.drewN n) (fun i _ _ => S.length - (intOf i).toNat)
        case atStart => exact ⟨0, 0, 0, by omega, by omega, rfl, rfl, hsub, rfl⟩
        case round =>
          obtain ⟨k, c, n, hk, hc, rfl, rfl, hsb, rfl⟩ := hrel
          by_cases hks : k < S.length
          · by_cases hcR : c < R.length
            · obtain ⟨rfl, h1⟩ := hcr.out c hcR
              obtain ⟨rfl, h2⟩ := hcs.out k hks
              obtain ⟨p, hp⟩ := name_it (R.getD c 0)
              obtain ⟨q, hq⟩ := name_it (S.getD k 0)
              rw [← hp.out] at h1
              rw [← hq.out] at h2
              by_cases hpq : q = p
              · have HN := Lib.hid (sub_hit hks hcR hsb.out (by rw [← hp.out, ← hq.out]; exact hpq))
                subst hpq
                have e2 : (q == q) = true := by simp
                go_wp2
                go_quiet (fail)
                go_wp2
                go_roundw
                case rel => exact ⟨k + 1, c + 1, _, by omega, by omega, by go_num, by go_num, HN, rfl⟩
                case measure => simp [intOf]; omega
              · have HN := Lib.hid (sub_miss hks hcR hsb.out (by rw [← hp.out, ← hq.out]; exact hpq))
                have e2 : (q == p) = false := by simpa using hpq
                have hpq := Lib.hid hpq
                go_wp2
                go_quiet (fail)
                go_wp2
                go_roundw
                case rel => exact ⟨k + 1, c, _, by omega, by omega, by go_num, by go_num, HN, rfl⟩
                case measure => simp [intOf]; omega
            · have hcE : c = R.length := by omega
              subst hcE
              have hle : R.length ≤ S.length := hsub.out.length_le
              have hpq : Hid (slotsL h (lows xs) x (x + y) ++ slotsL h (lows xs) (x + y + 1) (x + y + 1 + z) = R) := by
                show _ = R
                rw [hR.out]; exact slots_parts _ _ _ _ _ hy1 hy2 hz1' hz2'
              have b7 : Below w6.heap.size w6 (w6.drewN n) := below_drewN (Below.refl _ _) n
              have hl1 := slotsL_len h (lows xs) x (x + y)
              have hl2 := slotsL_len h (lows xs) (x + y + 1) (x + y + 1 + z)
              go_wp2_with (first
                | (at_builtin; refine wpList_append_nums rfl _ (.tmp 108) 22 rfl .i64 w6.heap.size 3 i0 8 Try.underlying22 hi hz0 hz1 hz2 _ _ [] _ rfl (OwnNums.nil _ _ _ _) rfl (op6.out.below b7).nums (by simp; omega) (by simp; omega) (by simp) ?_; intro v8 w8 hown8 hgr8)
                | (at_builtin; refine wpList_append_nums rfl (.tmp 109) (.tmp 110) 22 rfl .i64 w6.heap.size 3 i0 8 Try.underlying22 hi hz0 hz1 hz2 _ _ _ _ rfl hown8 rfl (oq6.out.below (b7.trans (below_grown_none hgr8))).nums (by simp; omega) (by simp; omega) (by have := hgr8.size; simp at this; omega) ?_; intro v9 w9 hown9 hgr9))
              have b9 : Below w6.heap.size (w6.drewN n) w9 := (below_grown_none hgr8 (w0 := w6)).trans (((Below.refl _ _)).grown hgr9 (by have := hgr8.size; simp at this; omega) (fun j hj => hown8.lt j hj))
              have b9' := b7.trans b9
              have h9 := hown9.nums
              rw [List.nil_append, hpq.out] at h9
              have hor := or6.out.below b9'
              have s9 := b9'.size
              have hbel9 := hbel6.trans (b9'.mono (by omega))
              clear hown8 hgr8 hown9 hgr9 b9 b9' b7 op6 oq6 hbel6 os or6
              refine (same_is _ _ R R true _ h9 hor.nums (by simp)).mono ?_
              rintro e w10 ⟨rfl, b10⟩
              have s10 := b10.size
              have hbel10 := hbel9.trans (b10.mono (by omega))
              clear h9 hor b10 hbel9
              go_wp2_with fail
              refine (awake_any _).mono ?_
              rintro e w11 ⟨rfl, b11⟩
              have hbel11 := hbel10.trans (b11.mono (by omega))
              clear hbel10 b11
              go_wp2
              go_ret
              exact ⟨rfl, hbel11⟩
          · have hcE : c = R.length := by have := sub_end (by omega) hsb.out; omega
            subst hcE
            have hle : R.length ≤ S.length := hsub.out.length_le
            have hpq : Hid (slotsL h (lows xs) x (x + y) ++ slotsL h (lows xs) (x + y + 1) (x + y + 1 + z) = R) := by
              show _ = R
              rw [hR.out]; exact slots_parts _ _ _ _ _ hy1 hy2 hz1' hz2'
            have b7 : Below w6.heap.size w6 (w6.drewN n) := below_drewN (Below.refl _ _) n
            have hl1 := slotsL_len h (lows xs) x (x + y)
            have hl2 := slotsL_len h (lows xs) (x + y + 1) (x + y + 1 + z)
            go_wp2_with (first
              | (at_builtin; refine wpList_append_nums rfl _ (.tmp 108) 22 rfl .i64 w6.heap.size 3 i0 8 Try.underlying22 hi hz0 hz1 hz2 _ _ [] _ rfl (OwnNums.nil _ _ _ _) rfl (op6.out.below b7).nums (by simp; omega) (by simp; omega) (by simp) ?_; intro v8 w8 hown8 hgr8)
              | (at_builtin; refine wpList_append_nums rfl (.tmp 109) (.tmp 110) 22 rfl .i64 w6.heap.size 3 i0 8 Try.underlying22 hi hz0 hz1 hz2 _ _ _ _ rfl hown8 rfl (oq6.out.below (b7.trans (below_grown_none hgr8))).nums (by simp; omega) (by simp; omega) (by have := hgr8.size; simp at this; omega) ?_; intro v9 w9 hown9 hgr9))
            have b9 : Below w6.heap.size (w6.drewN n) w9 := (below_grown_none hgr8 (w0 := w6)).trans (((Below.refl _ _)).grown hgr9 (by have := hgr8.size; simp at this; omega) (fun j hj => hown8.lt j hj))
            have b9' := b7.trans b9
            have h9 := hown9.nums
            rw [List.nil_append, hpq.out] at h9
            have hor := or6.out.below b9'
            have s9 := b9'.size
            have hbel9 := hbel6.trans (b9'.mono (by omega))
            clear hown8 hgr8 hown9 hgr9 b9 b9' b7 op6 oq6 hbel6 os or6
            refine (same_is _ _ R R true _ h9 hor.nums (by simp)).mono ?_
            rintro e w10 ⟨rfl, b10⟩
            have s10 := b10.size
            have hbel10 := hbel9.trans (b10.mono (by omega))
            clear h9 hor b10 hbel9
            go_wp2_with fail
            refine (awake_any _).mono ?_
            rintro e w11 ⟨rfl, b11⟩
            have hbel11 := hbel10.trans (b11.mono (by omega))
            clear hbel10 b11
            go_wp2
            go_ret
            exact ⟨rfl, hbel11⟩

end Go.Proofs.Ytneclkneglgfdaa
