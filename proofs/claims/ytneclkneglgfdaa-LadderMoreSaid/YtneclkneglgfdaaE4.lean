/- The walk of the law LadderMore. -/
import Derived.Test.YtneclkneglgfdaaD
namespace Go.Proofs.Ytneclkneglgfdaa
open Go.RowKit Go.Maps

theorem slot_two (h : Int) (L : List Int) (t : Int) : slotB (h + 2) L t = slotB h L t := by
  unfold slotB
  congr 2
  rw [Bool.eq_iff_iff]; simp; omega
theorem busy_more (L : List Int) (m t : Int) (hm : 0 ≤ m) : busyB (L ++ [m]) t = (busyB L t || (decide (m ≤ t) && decide (t < m + 24))) := by
  have e : decide (t - 24 < m) = decide (t < m + 24) := by rw [Bool.eq_iff_iff]; simp; omega
  simp [busyB, hm, e]
theorem slot_more (h : Int) (L : List Int) (m t : Int) (hm : 0 ≤ m) (ht : 0 ≤ t) : slotB h (L ++ [m]) t = (slotB h L t || (decide (m ≤ t) && decide (t < m + 24))) := by
  unfold slotB
  rw [busy_more L m t hm]
  cases busyB L t <;> cases decide (m ≤ t) <;> cases decide (t < m + 24) <;> cases decide ((t + 2 * h) % 4 = 0) <;> simp [ht]
def lows' (xs : List Int) : List Int := xs.map (lowF · 300)

/-- Three ladders, one behind the other. -/
structure Three (w : World) (B0 B1 B2 : Nat) (h : Int) (xs ys : List Int) : Prop where
  a : Lad w (B0 + 1) B0 h xs
  b : Lad w (B1 + 1) B1 h ys
  c : Lad w (B2 + 1) B2 (h + 2) xs
  o1 : B0 + 2 ≤ B1
  o2 : B1 + 2 ≤ B2
theorem Three.below {w w' : World} {B0 B1 B2 : Nat} {h : Int} {xs ys : List Int} (t : Three w B0 B1 B2 h xs ys) (hb : Below w.heap.size w w') : Three w' B0 B1 B2 h xs ys :=
  ⟨t.a.below hb t.a.lt.1 t.a.lt.2, t.b.below hb t.b.lt.1 t.b.lt.2, t.c.below hb t.c.lt.1 t.c.lt.2, t.o1, t.o2⟩

set_option maxHeartbeats 4000000 in
theorem more_any (host more tick : Int) (u : Value) (xs : List Int) (w : World) (hu : NumsAt .i64 w u xs) :
    Calls Try.prog 6 #[.int .i64 host, u, .int .i64 more, .int .i64 tick] w fun e w' => e = .returned (.bool true) ∧ Below w.heap.size w w' := by
  obtain ⟨ad, ca, hu0, hl, ba, oa, hca⟩ := hu.form
  subst hu0
  by_cases h10 : 10 < xs.length
  · go_enter Try.func6, Try.ntmps6
    go_wp2_with fail
    refine (awake_any _).mono ?_
    rintro e w1 ⟨rfl, b1⟩
    go_wp2
    go_ret
    exact ⟨rfl, b1⟩
  · obtain ⟨h, hh, hh1, hh2⟩ := low_name host 1000 (by omega)
    obtain ⟨m, hm, hm1, hm2⟩ := low_name more 300 (by omega)
    obtain ⟨t, ht, ht1, ht2⟩ := low_name tick 400 (by omega)
    go_enter Try.func6, Try.ntmps6
    go_wp2_with fail
    refine (low_r _ _ h _ hh (by omega) (by omega)).mono ?_
    rintro e w1 ⟨rfl, rfl⟩
    go_wp2_with fail
    refine (low_r _ _ m _ hm (by omega) (by omega)).mono ?_
    rintro e w1 ⟨rfl, rfl⟩
    go_wp2_with fail
    refine (low_r _ _ t _ ht (by omega) (by omega)).mono ?_
    rintro e w1 ⟨rfl, rfl⟩
    go_wp2_with fail
    refine (new_lad h _).mono ?_
    rintro e w1 ⟨rfl, la1, b1, s1⟩
    go_wp2_with fail
    refine (new_lad h _).mono ?_
    rintro e w2 ⟨rfl, lb2, b2, s2⟩
    have la2 := la1.below b2 (by omega) (by omega)
    have b2' := b1.trans (b2.mono (by omega))
    clear la1 b1 b2
    go_wp2_with fail
    refine (new_lad (h + 2) _).mono ?_
    rintro e w3 ⟨rfl, lc3, b3, s3⟩
    have lb3 := lb2.below b3 (by omega) (by omega)
    have la3 := la2.below b3 (by omega) (by omega)
    have b3' := b2'.trans (b3.mono (by omega))
    have l3 : Hid (Three w3 w.heap.size w1.heap.size w2.heap.size h [] []) := ⟨la3, lb3, lc3, by omega, by omega⟩
    clear la2 lb2 b2' b3 la3 lb3 lc3
    go_wp2_with fail
    go_loopw [12] (fun i wr => ∃ k : Nat, k ≤ xs.length ∧ i = .int .i64 k ∧ Hid (Three wr w.heap.size w1.heap.size w2.heap.size h (lows' (xs.take k)) (lows' (xs.take k))) ∧ Below w.heap.size w wr ∧ w2.heap.size + 2 ≤ wr.heap.size) (fun i _ => xs.length - (intOf i).toNat)
    case atStart => exact ⟨0, Nat.zero_le _, rfl, l3, b3', s3⟩
    case round =>
      obtain ⟨k, hk, rfl, l4, b4, s4⟩ := hrel
      clear l3 b3' s3
      by_cases hlt : k < xs.length
      · obtain ⟨rfl, hc⟩ := hca.out k hlt
        obtain ⟨x, hx⟩ := name_it (xs.getD k 0)
        rw [← hx.out] at hc
        have hb0 : ba < w.heap.size := cell_lt hc
        have hc : wr.cell? ⟨ba, oa + k, none⟩ = some (.int .i64 x) := (b4.cell hb0).trans hc
        obtain ⟨r, hr, hr1, hr2⟩ := low_name x 300 (by omega)
        have o1 := l4.out.o1
        have o2 := l4.out.o2
        go_wp2_with fail
        refine (low_r _ _ r _ hr (by omega) (by omega)).mono ?_
        rintro e w5 ⟨rfl, rfl⟩
        go_wp2_with fail
        refine (ask_any _ _ h r _ _ l4.out.a (by simp [lows']; omega) (by omega) (by omega)).mono ?_
        rintro e w5 ⟨rfl, la5, g5⟩
        have lb5 := l4.out.b.grown g5 (by simp; omega) (by simp; omega)
        have lc5 := l4.out.c.grown g5 (by simp; omega) (by simp; omega)
        have b5 := b4.grown g5 (by omega) (fun j hj => by cases hj; exact Nat.le_refl _)
        have s5 := g5.size
        have la5 := Lib.hid la5
        have lb5 := Lib.hid lb5
        have lc5 := Lib.hid lc5
        clear l4 b4 g5
        go_wp2_with fail
        refine (ask_any _ _ h r _ _ lb5.out (by simp [lows']; omega) (by omega) (by omega)).mono ?_
        rintro e w6 ⟨rfl, lb6, g6⟩
        have la6 := la5.out.grown g6 (by simp; omega) (by simp; omega)
        have lc6 := lc5.out.grown g6 (by simp; omega) (by simp; omega)
        have b6 := b5.grown g6 (by omega) (fun j hj => by cases hj; omega)
        have s6 := g6.size
        have la6 := Lib.hid la6
        have lb6 := Lib.hid lb6
        have lc6 := Lib.hid lc6
        clear la5 lb5 lc5 b5 g6
        go_wp2_with fail
        refine (ask_any _ _ (h + 2) r _ _ lc6.out (by simp [lows']; omega) (by omega) (by omega)).mono ?_
        rintro e w7 ⟨rfl, lc7, g7⟩
        have la7 := la6.out.grown g7 (by simp; omega) (by simp; omega)
        have lb7 := lb6.out.grown g7 (by simp; omega) (by simp; omega)
        have b7 := b6.grown g7 (by omega) (fun j hj => by cases hj; omega)
        have s7 := g7.size
        have hL : lows' (xs.take (k + 1)) = lows' (xs.take k) ++ [r] := by
          rw [take_snoc hlt hx.out, lows', List.map_append, List.map_singleton, hr.out]; rfl
        have l7 : Hid (Three w7 w.heap.size w1.heap.size w2.heap.size h (lows' (xs.take (k + 1))) (lows' (xs.take (k + 1)))) := by
          show Three _ _ _ _ _ _ _
          rw [hL]
          exact ⟨la7, lb7, lc7, o1, o2⟩
        clear la6 lb6 lc6 b6 g7 la7 lb7 lc7 hL
        go_wp2
        go_roundw
        case rel => exact ⟨k + 1, by omega, by go_num, l7, b7, by omega⟩
        case measure => simp [intOf]; omega
      · rw [List.take_of_length_le (by omega)] at l4
        obtain ⟨L, hL⟩ := name_it (lows' xs)
        rw [← hL.out] at l4
        have hLl : L.length ≤ 10 := by rw [hL.out]; simp [lows']; omega
        have o1 := l4.out.o1
        have o2 := l4.out.o2
        go_wp2_with fail
        refine (ask_any _ _ h m _ _ l4.out.b (by omega) (by omega) (by omega)).mono ?_
        rintro e w5 ⟨rfl, lb5, g5⟩
        have l5 : Hid (Three w5 w.heap.size w1.heap.size w2.heap.size h L (L ++ [m])) := ⟨l4.out.a.grown g5 (by simp; omega) (by simp; omega), lb5, l4.out.c.grown g5 (by simp; omega) (by simp; omega), o1, o2⟩
        have b5 := b4.grown g5 (by omega) (fun j hj => by cases hj; omega)
        have s5 := g5.size
        clear l4 b4 g5 lb5 o1 o2
        have HB := Lib.hid (busy_more L m t hm1)
        have HS := Lib.hid (slot_more h L m t hm1 ht1)
        have HC := Lib.hid (slot_two h L t)
        obtain ⟨z, hz⟩ := name_it (busyB L t)
        obtain ⟨q, hq⟩ := name_it (slotB h L t)
        rw [← hz.out] at HB
        rw [← hq.out] at HS HC
        by_cases g1 : m ≤ t
        · by_cases g2 : t < m + 24
          · rw [show decide (m ≤ t) = true by simpa using g1, show decide (t < m + 24) = true by simpa using g2] at HB HS
            clear hm ht hh
            cases z <;> cases q
            all_goals
              go_wp2_with fail
              refine (slot_any _ _ h t L _ l5.out.a (by omega) (by omega)).mono ?_
              rintro e w6 ⟨rfl, b6⟩
              have l6 := Lib.hid (l5.out.below b6)
              have s6 := b6.size
              have b6' := b5.trans (b6.mono (by omega))
              clear l5 b5 b6
              rw [← hq.out]
              go_wp2_with fail
              refine (slot_any _ _ (h + 2) t L _ l6.out.c (by omega) (by omega)).mono ?_
              rintro e w7 ⟨rfl, b7⟩
              have l7 := Lib.hid (l6.out.below b7)
              have s7 := b7.size
              have b7' := b6'.trans (b7.mono (by omega))
              clear l6 b6' b7
              rw [HC.out]
              go_wp2_with fail
              refine (busy_any _ _ (h + 2) t L _ l7.out.c (by omega) (by omega)).mono ?_
              rintro e w8 ⟨rfl, b8⟩
              have l8 := Lib.hid (l7.out.below b8)
              have s8 := b8.size
              have b8' := b7'.trans (b8.mono (by omega))
              clear l7 b7' b8
              rw [← hz.out]
              go_wp2_with fail
              refine (busy_any _ _ h t L _ l8.out.a (by omega) (by omega)).mono ?_
              rintro e w9 ⟨rfl, b9⟩
              have l9 := Lib.hid (l8.out.below b9)
              have s9 := b9.size
              have b9' := b8'.trans (b9.mono (by omega))
              clear l8 b8' b9
              rw [← hz.out]
              go_wp2_with fail
              refine (slot_any _ _ h t (L ++ [m]) _ l9.out.b (by omega) (by omega)).mono ?_
              rintro e w10 ⟨rfl, b10⟩
              have l10 := Lib.hid (l9.out.below b10)
              have s10 := b10.size
              have b10' := b9'.trans (b10.mono (by omega))
              clear l9 b9' b10
              rw [HS.out]
              go_wp2_with fail
              refine (busy_any _ _ h t (L ++ [m]) _ l10.out.b (by omega) (by omega)).mono ?_
              rintro e w11 ⟨rfl, b11⟩
              have l11 := Lib.hid (l10.out.below b11)
              have s11 := b11.size
              have b11' := b10'.trans (b11.mono (by omega))
              clear l10 b10' b11
              rw [HB.out]
              go_wp2_with fail
              refine (busy_any _ _ h t L _ l11.out.a (by omega) (by omega)).mono ?_
              rintro e w12 ⟨rfl, b12⟩
              have s12 := b12.size
              have b12' := b11'.trans (b12.mono (by omega))
              clear l11 b11' b12
              rw [← hz.out]
              go_wp2_with fail
              refine (awake_any _).mono ?_
              rintro e w13 ⟨rfl, b13⟩
              have b13' := b12'.trans (b13.mono (by omega))
              clear b12' b13
              go_wp2
              go_ret
              first | exact ⟨rfl, b13'⟩ | exact ⟨ret_bool (by simp; omega), b13'⟩
          · rw [show decide (m ≤ t) = true by simpa using g1, show decide (t < m + 24) = false by simpa using g2] at HB HS
            clear hm ht hh
            cases z <;> cases q
            all_goals
              go_wp2_with fail
              refine (slot_any _ _ h t L _ l5.out.a (by omega) (by omega)).mono ?_
              rintro e w6 ⟨rfl, b6⟩
              have l6 := Lib.hid (l5.out.below b6)
              have s6 := b6.size
              have b6' := b5.trans (b6.mono (by omega))
              clear l5 b5 b6
              rw [← hq.out]
              go_wp2_with fail
              refine (slot_any _ _ (h + 2) t L _ l6.out.c (by omega) (by omega)).mono ?_
              rintro e w7 ⟨rfl, b7⟩
              have l7 := Lib.hid (l6.out.below b7)
              have s7 := b7.size
              have b7' := b6'.trans (b7.mono (by omega))
              clear l6 b6' b7
              rw [HC.out]
              go_wp2_with fail
              refine (busy_any _ _ (h + 2) t L _ l7.out.c (by omega) (by omega)).mono ?_
              rintro e w8 ⟨rfl, b8⟩
              have l8 := Lib.hid (l7.out.below b8)
              have s8 := b8.size
              have b8' := b7'.trans (b8.mono (by omega))
              clear l7 b7' b8
              rw [← hz.out]
              go_wp2_with fail
              refine (busy_any _ _ h t L _ l8.out.a (by omega) (by omega)).mono ?_
              rintro e w9 ⟨rfl, b9⟩
              have l9 := Lib.hid (l8.out.below b9)
              have s9 := b9.size
              have b9' := b8'.trans (b9.mono (by omega))
              clear l8 b8' b9
              rw [← hz.out]
              go_wp2_with fail
              refine (slot_any _ _ h t (L ++ [m]) _ l9.out.b (by omega) (by omega)).mono ?_
              rintro e w10 ⟨rfl, b10⟩
              have l10 := Lib.hid (l9.out.below b10)
              have s10 := b10.size
              have b10' := b9'.trans (b10.mono (by omega))
              clear l9 b9' b10
              rw [HS.out]
              go_wp2_with fail
              refine (busy_any _ _ h t (L ++ [m]) _ l10.out.b (by omega) (by omega)).mono ?_
              rintro e w11 ⟨rfl, b11⟩
              have l11 := Lib.hid (l10.out.below b11)
              have s11 := b11.size
              have b11' := b10'.trans (b11.mono (by omega))
              clear l10 b10' b11
              rw [HB.out]
              go_wp2_with fail
              refine (busy_any _ _ h t L _ l11.out.a (by omega) (by omega)).mono ?_
              rintro e w12 ⟨rfl, b12⟩
              have s12 := b12.size
              have b12' := b11'.trans (b12.mono (by omega))
              clear l11 b11' b12
              rw [← hz.out]
              go_wp2_with fail
              refine (awake_any _).mono ?_
              rintro e w13 ⟨rfl, b13⟩
              have b13' := b12'.trans (b13.mono (by omega))
              clear b12' b13
              go_wp2
              go_ret
              first | exact ⟨rfl, b13'⟩ | exact ⟨ret_bool (by simp; omega), b13'⟩
        · rw [show decide (m ≤ t) = false by simpa using g1] at HB HS
          clear hm ht hh
          cases z <;> cases q
          all_goals
            go_wp2_with fail
            refine (slot_any _ _ h t L _ l5.out.a (by omega) (by omega)).mono ?_
            rintro e w6 ⟨rfl, b6⟩
            have l6 := Lib.hid (l5.out.below b6)
            have s6 := b6.size
            have b6' := b5.trans (b6.mono (by omega))
            clear l5 b5 b6
            rw [← hq.out]
            go_wp2_with fail
            refine (slot_any _ _ (h + 2) t L _ l6.out.c (by omega) (by omega)).mono ?_
            rintro e w7 ⟨rfl, b7⟩
            have l7 := Lib.hid (l6.out.below b7)
            have s7 := b7.size
            have b7' := b6'.trans (b7.mono (by omega))
            clear l6 b6' b7
            rw [HC.out]
            go_wp2_with fail
            refine (busy_any _ _ (h + 2) t L _ l7.out.c (by omega) (by omega)).mono ?_
            rintro e w8 ⟨rfl, b8⟩
            have l8 := Lib.hid (l7.out.below b8)
            have s8 := b8.size
            have b8' := b7'.trans (b8.mono (by omega))
            clear l7 b7' b8
            rw [← hz.out]
            go_wp2_with fail
            refine (busy_any _ _ h t L _ l8.out.a (by omega) (by omega)).mono ?_
            rintro e w9 ⟨rfl, b9⟩
            have l9 := Lib.hid (l8.out.below b9)
            have s9 := b9.size
            have b9' := b8'.trans (b9.mono (by omega))
            clear l8 b8' b9
            rw [← hz.out]
            go_wp2_with fail
            refine (slot_any _ _ h t (L ++ [m]) _ l9.out.b (by omega) (by omega)).mono ?_
            rintro e w10 ⟨rfl, b10⟩
            have l10 := Lib.hid (l9.out.below b10)
            have s10 := b10.size
            have b10' := b9'.trans (b10.mono (by omega))
            clear l9 b9' b10
            rw [HS.out]
            go_wp2_with fail
            refine (busy_any _ _ h t (L ++ [m]) _ l10.out.b (by omega) (by omega)).mono ?_
            rintro e w11 ⟨rfl, b11⟩
            have l11 := Lib.hid (l10.out.below b11)
            have s11 := b11.size
            have b11' := b10'.trans (b11.mono (by omega))
            clear l10 b10' b11
            rw [HB.out]
            go_wp2_with fail
            refine (busy_any _ _ h t L _ l11.out.a (by omega) (by omega)).mono ?_
            rintro e w12 ⟨rfl, b12⟩
            have s12 := b12.size
            have b12' := b11'.trans (b12.mono (by omega))
            clear l11 b11' b12
            rw [← hz.out]
            go_wp2_with fail
            refine (awake_any _).mono ?_
            rintro e w13 ⟨rfl, b13⟩
            have b13' := b12'.trans (b13.mono (by omega))
            clear b12' b13
            go_wp2
            go_ret
            first | exact ⟨rfl, b13'⟩ | exact ⟨ret_bool (by simp; omega), b13'⟩

end Go.Proofs.Ytneclkneglgfdaa
