/- The walks of the laws ClockBounds and ClockLeasts. -/
import Derived.Test.YtefabmpiimddoaaD
namespace Go.Proofs.Ytefabmpiimddoaa
open Go.RowKit

theorem pto_bd (c : Clk) (t : Int) : 40 ≤ c.pto t ∧ c.pto t ≤ 64 := by
  unfold Clk.pto; split <;> omega
theorem pto_mono (c : Clk) {a b : Int} (h : a ≤ b) : c.pto a ≤ c.pto b := by
  unfold Clk.pto; split <;> split <;> omega
theorem pto_r (c : Clk) (t : Int) : ∃ r, Hid (c.pto t = r) ∧ 40 ≤ r ∧ r ≤ 64 := ⟨_, rfl, pto_bd c t⟩

/-- What holds of a clock that was told only times up to 'most', the least of them 'least' (with delays). -/
structure Clk.within (c : Clk) (least most : Int) : Prop where
  any : c.any = true
  s0 : 0 ≤ c.s
  s1 : c.s ≤ most
  s2 : least - 7 ≤ c.s
  v0 : 0 ≤ c.v
  v1 : c.v ≤ most
  l : c.l = least
  l0 : 0 ≤ least
  lm : least ≤ most
  m : most ≤ 1048576
theorem Clk.within.ok {c : Clk} {l m : Int} (h : c.within l m) : c.ok := by
  obtain ⟨_, h1, h2, h3, h4, h5, h6, h7, h8, h9⟩ := h
  exact ⟨h1, by omega, h4, by omega, by omega, by omega⟩
theorem within_first (r d : Int) (h0 : 0 ≤ r) (h1 : r ≤ 1048576) (hd : 0 ≤ d) : (Clk.start.told r d).within r r := by
  have hT : Clk.start.told r d = ⟨true, r, r / 2, r⟩ := by unfold Clk.told; rw [if_neg (by omega)]; rfl
  rw [hT]
  exact ⟨rfl, h0, by simp, by simp; omega, by simp; omega, by simp; omega, rfl, h0, by omega, h1⟩
theorem within_next {c : Clk} {l m : Int} (h : c.within l m) (r d : Int) (h0 : 0 ≤ r) (h1 : r ≤ 1048576) (hd : 0 ≤ d) : (c.told r d).within (min l r) (max m r) := by
  obtain ⟨g0, g1, g2, g3, g4, g5, g6, g7, g8, g9⟩ := h
  obtain ⟨k1, k2, k3⟩ := cutF_bd (l := c.l) (rtt := r) (delay := d) (by omega) h0 hd
  have hT : c.told r d = ⟨true, (7 * c.s + cutF c.l r d) / 8, (3 * c.v + max (c.s - cutF c.l r d) (cutF c.l r d - c.s)) / 4, min c.l r⟩ := by
    unfold Clk.told; rw [if_neg (by omega), if_pos g0]
  rw [hT]
  generalize cutF c.l r d = x at *
  rw [g6] at k3
  exact ⟨rfl, by simp; omega, by simp; omega, by simp; omega, by simp; omega, by simp; omega, by simp; omega, by omega, by omega, by omega⟩
theorem told_out (c : Clk) (r d : Int) (h : r < 0 ∨ 1048576 < r ∨ d < 0) : c.told r d = c := by unfold Clk.told; rw [if_pos h]

theorem getD_mem {xs : List Int} {k : Nat} (h : k < xs.length) : xs.getD k 0 ∈ xs := by
  simp [List.getD, List.getElem?_eq_getElem h]

set_option maxHeartbeats 2000000 in
theorem bounds_any (a b : Int) (u : Value) (xs : List Int) (w : World) (hu : NumsAt .i64 w u xs) :
    Calls Try.prog 4 #[u, .int .i64 a, .int .i64 b] w fun e w' => e = .returned (.bool true) ∧ Below w.heap.size w w' := by
  obtain ⟨ad, ca, hu0, hl, ba, oa, hca⟩ := hu.form
  subst hu0
  by_cases h40 : 40 < xs.length
  · go_enter Try.func4, Try.ntmps4
    go_wp2_with fail
    refine (awake_any _).mono ?_
    rintro e w1 ⟨rfl, b1⟩
    go_wp2
    go_ret
    exact ⟨rfl, b1⟩
  · obtain ⟨p, hp, hp1, hp2⟩ := low_name a 14 (by omega)
    obtain ⟨q, hq, hq1, hq2⟩ := low_name b 14 (by omega)
    go_enter Try.func4, Try.ntmps4
    go_wp2_with fail
    refine (new_any _).mono ?_
    rintro e w1 ⟨rfl, l1, b1, s1⟩
    have l1 := Lib.hid l1
    go_wp2_with fail
    refine (low_r _ _ p _ hp (by omega) (by omega)).mono ?_
    rintro e w2 ⟨rfl, rfl⟩
    go_wp2_with fail
    refine (low_r _ _ q _ hq (by omega) (by omega)).mono ?_
    rintro e w2 ⟨rfl, rfl⟩
    go_wp2_with fail
    refine (low_r _ _ p _ hp (by omega) (by omega)).mono ?_
    rintro e w2 ⟨rfl, rfl⟩
    go_wp2_with fail
    refine (low_r _ _ q _ hq (by omega) (by omega)).mono ?_
    rintro e w2 ⟨rfl, rfl⟩
    obtain ⟨lo, hlo⟩ := name_it (min p q)
    obtain ⟨hi, hhi⟩ := name_it (max p q)
    have hlh : lo ≤ hi := by rw [hlo.out, hhi.out]; omega
    have hlo' := hlo.out.symm
    have hhi' := hhi.out.symm
    go_wp2_with fail
    go_loopw [11, 10] (fun i v wr => ∃ (k : Nat) (x : Int) (c : Clk) (m : Int), k ≤ xs.length ∧ i = .int .i64 k ∧ v = .int .i64 x ∧ 0 ≤ x ∧ x ≤ 1048576 ∧ Hid (ClkAt wr w.heap.size c) ∧ Hid ((k = 0 → x = 1048576 ∧ c = Clk.start) ∧ (1 ≤ k → c.within x m ∧ m ≤ 2000)) ∧ Below w.heap.size w wr) (fun i _ _ => xs.length - (intOf i).toNat)
    case atStart => exact ⟨0, 1048576, Clk.start, 0, by omega, rfl, rfl, by omega, by omega, l1, ⟨fun _ => ⟨rfl, rfl⟩, by omega⟩, b1⟩
    case round =>
      obtain ⟨k, x, c, m, hk, rfl, rfl, hx1, hx2, l2, hkc, b2⟩ := hrel
      have s2 := l2.out.lt
      clear l1 b1 s1
      by_cases hlt : k < xs.length
      · obtain ⟨rfl, hc⟩ := hca.out k hlt
        obtain ⟨y, hy⟩ := name_it (xs.getD k 0)
        rw [← hy.out] at hc
        have hb0 : ba < w.heap.size := cell_lt hc
        have hc : wr.cell? ⟨ba, oa + k, none⟩ = some (.int .i64 y) := (b2.cell hb0).trans hc
        obtain ⟨n, hn, hn1, hn2⟩ := low_name y 2001 (by omega)
        have hok : c.ok := by
          by_cases hk0 : k = 0
          · rw [(hkc.out.1 hk0).2]; exact start_ok
          · exact (hkc.out.2 (by omega)).1.ok
        obtain ⟨m', hm'⟩ : ∃ m', Hid ((c.told n 0).within (min x n) m' ∧ m' ≤ 2000) := by
          by_cases hk0 : k = 0
          · obtain ⟨rfl, rfl⟩ := hkc.out.1 hk0
            refine ⟨n, ?_, by omega⟩
            rw [show min 1048576 n = n by omega]
            exact within_first n 0 hn1 (by omega) (by omega)
          · obtain ⟨hw, hm⟩ := hkc.out.2 (by omega)
            exact ⟨max m n, within_next hw n 0 hn1 (by omega) (by omega), by omega⟩
        obtain ⟨c', hc'⟩ := name_it (c.told n 0)
        rw [← hc'.out] at hm'
        obtain ⟨x', hx'⟩ := name_it (min x n)
        have hx'' := hx'.out.symm
        rw [hx''] at hm'
        have hx1' : 0 ≤ x' := by rw [hx'.out]; omega
        have hx2' : x' ≤ 1048576 := by rw [hx'.out]; omega
        obtain ⟨a1, ha1, ha2, ha3⟩ := pto_r c' lo
        obtain ⟨a2, ha4, ha5, ha6⟩ := pto_r c' hi
        have ha7 : a1 ≤ a2 := by rw [← ha1.out, ← ha4.out]; exact pto_mono c' hlh
        obtain ⟨gs, hgs⟩ := name_it c'.s
        have hgs' := hgs.out.symm
        have hg1 : 0 ≤ gs := by rw [hgs.out]; exact hm'.out.1.s0
        have hg2 : gs ≤ 2000 := by rw [hgs.out]; have := hm'.out.1.s1; have := hm'.out.2; omega
        have hgl : c'.l = x' := hm'.out.1.l
        have hok' := Lib.hid hm'.out.1.ok
        clear hlo' hhi'
        go_wp2_with fail
        refine (low_r _ _ n _ hn (by omega) (by omega)).mono ?_
        rintro e w3 ⟨rfl, rfl⟩
        go_wp2_with fail
        refine (sample_any _ _ n 0 _ l2.out hok).mono ?_
        rintro e w3 ⟨rfl, l3, g3⟩
        rw [← hc'.out] at l3
        have b3 := b2.grown g3 (by omega) (fun j hj => by cases hj; omega)
        have s3 := g3.size
        clear l2 hkc b2 g3 hok
        go_wp2_with fail
        refine (least_any _ _ _ l3).mono ?_
        rintro e w4 ⟨rfl, rfl⟩
        rw [hgl]
        go_wp2_with fail
        refine (smoothed_any _ _ _ l3).mono ?_
        rintro e w4 ⟨rfl, rfl⟩
        rw [hgs']
        go_wp2_with fail
        refine (smoothed_any _ _ _ l3).mono ?_
        rintro e w4 ⟨rfl, rfl⟩
        rw [hgs']
        go_wp2_with fail
        refine (pto_bel _ _ lo a1 _ l3 hok'.out ha1.out).mono ?_
        rintro e w4 ⟨rfl, b4⟩
        have l4 := l3.below b4 l3.lt
        have b4' := b3.trans (b4.mono (by omega))
        have s4 := b4.size
        clear l3 b3 b4
        go_wp2_with fail
        refine (pto_bel _ _ hi a2 _ l4 hok'.out ha4.out).mono ?_
        rintro e w5 ⟨rfl, b5⟩
        have l5 := l4.below b5 l4.lt
        have b5' := b4'.trans (b5.mono (by omega))
        have s5 := b5.size
        clear l4 b4' b5
        go_wp2_with fail
        refine (pto_bel _ _ lo a1 _ l5 hok'.out ha1.out).mono ?_
        rintro e w6 ⟨rfl, b6⟩
        have l6 := l5.below b6 l5.lt
        have b6' := b5'.trans (b6.mono (by omega))
        have s6 := b6.size
        clear l5 b5' b6
        go_wp2_with fail
        refine (pto_bel _ _ hi a2 _ l6 hok'.out ha4.out).mono ?_
        rintro e w7 ⟨rfl, b7⟩
        have l7 := Lib.hid (l6.below b7 l6.lt)
        have b7' := b6'.trans (b7.mono (by omega))
        clear l6 b6' b7
        have hkc' : Hid ((k + 1 = 0 → x' = 1048576 ∧ c' = Clk.start) ∧ (1 ≤ k + 1 → c'.within x' m' ∧ m' ≤ 2000)) := ⟨by omega, fun _ => hm'.out⟩
        clear hgl hgs' hx''
        go_wp2
        go_roundw
        case rel => exact ⟨k + 1, x', c', m', by omega, by go_num, rfl, hx1', hx2', l7, hkc', b7'⟩
        case measure => simp [intOf]; omega
      · go_wp2_with fail
        refine (awake_any _).mono ?_
        rintro e w6 ⟨rfl, b6⟩
        have b6' := b2.trans (b6.mono (by omega))
        clear b2 b6
        go_wp2
        go_ret
        exact ⟨rfl, b6'⟩

end Go.Proofs.Ytefabmpiimddoaa
