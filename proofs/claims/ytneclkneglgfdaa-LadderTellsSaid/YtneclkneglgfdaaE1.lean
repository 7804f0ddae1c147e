/- The walk of the law LadderTells. -/
import Derived.Test.YtneclkneglgfdaaD
namespace Go.Proofs.Ytneclkneglgfdaa
open Go.RowKit Go.Maps


set_option maxHeartbeats 1000000 in
theorem tells_any (host a b t : Int) (u : Value) (xs : List Int) (w : World) (hu : NumsAt .i64 w u xs) (hwx : Hid (∀ x ∈ xs, In64 x)) (ha : In64 a) (hb : In64 b) (ht : In64 t) :
    Calls Try.prog 3 #[.int .i64 host, u, .int .i64 a, .int .i64 b, .int .i64 t] w fun e w' => e = .returned (.bool true) ∧ Below w.heap.size w w' := by
  obtain ⟨ad, ca, hu0, hl, ba, oa, hca⟩ := hu.form
  subst hu0
  obtain ⟨ha1, ha2⟩ := ha
  obtain ⟨hb1, hb2⟩ := hb
  obtain ⟨ht1, ht2⟩ := ht
  by_cases h20 : 20 < xs.length
  · go_enter Try.func3, Try.ntmps3
    go_wp2_with fail
    refine (awake_any _).mono ?_
    rintro e w1 ⟨rfl, b1⟩
    go_wp2
    go_ret
    exact ⟨rfl, b1⟩
  · obtain ⟨i0, hi, hz0, hz1, hz2⟩ := info_parts Try.info3
    go_enter Try.func3, Try.ntmps3
    go_wp2_with fail
    refine (new_lad host _).mono ?_
    rintro e w1 ⟨rfl, hlad1, hbel1, hsz1⟩
    have hlad1 := Lib.hid hlad1
    go_wp2_with fail
    go_loopw [12] (fun i wr => ∃ k : Nat, k ≤ xs.length ∧ i = .int .i64 k ∧ Hid (Lad wr (w.heap.size + 1) w.heap.size host (xs.take k)) ∧ Below w.heap.size w wr ∧ w.heap.size + 2 ≤ wr.heap.size) (fun i _ => xs.length - (intOf i).toNat)
    case atStart => exact ⟨0, Nat.zero_le _, rfl, hlad1, hbel1, hsz1⟩
    case round =>
      obtain ⟨k, hk, rfl, hlad, hbel, hsz⟩ := hrel
      clear hlad1 hbel1 hsz1
      by_cases hlt : k < xs.length
      · obtain ⟨rfl, hc⟩ := hca.out k hlt
        obtain ⟨x, hx⟩ := name_it (xs.getD k 0)
        rw [← hx.out] at hc
        have hb0 : ba < w.heap.size := cell_lt hc
        have hc : wr.cell? ⟨ba, oa + k, none⟩ = some (.int .i64 x) := (hbel.cell hb0).trans hc
        have hxb := hwx.out x (by rw [hx.out]; exact getD_mem hlt)
        go_wp2_with fail
        refine (ask_any _ _ host x _ _ hlad.out (by simp; omega) hxb.1 hxb.2).mono ?_
        rintro e w2 ⟨rfl, hlad2, hgr⟩
        have hlad2 : Hid (Lad w2 (w.heap.size + 1) w.heap.size host (xs.take (k + 1))) := by
          show Lad _ _ _ _ _
          rw [take_snoc hlt hx.out]
          exact hlad2
        have hbel2 := hbel.grown hgr (by omega) (fun j hj => by cases hj; exact Nat.le_refl _)
        have hsz2 := hgr.size
        clear hgr
        go_wp2
        go_roundw
        case rel => exact ⟨k + 1, by omega, by go_num, hlad2, hbel2, by omega⟩
        case measure => simp [intOf]; omega
      · have hlad' := hlad.out
        rw [List.take_of_length_le (by omega)] at hlad'
        clear hlad
        go_wp2_with (at_builtin; refine wpList_append_nums rfl _ _ 22 rfl .i64 (w.heap.size + 2) 3 i0 8 Try.underlying22 hi hz0 hz1 hz2 _ _ [] xs rfl (OwnNums.nil _ _ _ _) rfl (hu.below hbel) (by simp; omega) (by simp; omega) (by omega) ?_; intro v3 w3 hown3 hgr3)
        have s3 := hgr3.size
        have hgr3 : wr.grownBy w3 none := hgr3
        have l3 := Lib.hid (hlad'.grown hgr3 (by simp) (by simp))
        have b3 := hbel.grown hgr3 (by omega) (fun j hj => by cases hj)
        have o3 := Lib.hid hown3
        clear hlad' hgr3 hown3 hbel
        refine (slots_any host a b v3 xs _ o3.out.nums (by omega) hwx ha1 ha2 hb1 hb2).mono ?_
        rintro e w4 ⟨v4, rfl, o4, b4⟩
        have s4 := b4.size
        have l4 := Lib.hid (l3.out.below b4 (by omega) (by omega))
        have o3' := Lib.hid (o3.out.below b4)
        have b4' := b3.trans (b4.mono (by omega))
        have o4 := Lib.hid o4
        clear l3 o3 b3 b4
        go_wp2_with fail
        refine (refSlots_any host a b _ xs _ (hu.below b4') ha1 ha2 hb1 hb2).mono ?_
        rintro e w5 ⟨v5, rfl, o5, b5⟩
        have s5 := b5.size
        have l5 := Lib.hid (l4.out.below b5 (by omega) (by omega))
        have o3 := Lib.hid (o3'.out.below b5)
        have o4' := Lib.hid (o4.out.below b5)
        have b5' := b4'.trans (b5.mono (by omega))
        have o5 := Lib.hid o5
        clear l4 o3' o4 b4' b5
        go_wp2_with fail
        refine (same_is _ _ _ _ true _ o4'.out.nums o5.out.nums (by simp)).mono ?_
        rintro e w6 ⟨rfl, b6⟩
        have s6 := b6.size
        have l6 := Lib.hid (l5.out.below b6 (by omega) (by omega))
        have o3' := Lib.hid (o3.out.below b6)
        have b6' := b5'.trans (b6.mono (by omega))
        clear l5 o3 o4' o5 b5' b6
        go_wp2_with fail
        refine (busy_any _ _ host t xs _ l6.out ht1 ht2).mono ?_
        rintro e w7 ⟨rfl, b7⟩
        have s7 := b7.size
        have l7 := Lib.hid (l6.out.below b7 (by omega) (by omega))
        have o3 := Lib.hid (o3'.out.below b7)
        have b7' := b6'.trans (b7.mono (by omega))
        clear l6 o3' b6' b7
        go_wp2_with fail
        refine (refBusy_any _ t xs _ (hu.below b7') ht1 ht2).mono ?_
        rintro e w8 ⟨rfl, rfl⟩
        go_wp2_with fail
        refine (slot_any _ _ host t xs _ l7.out ht1 ht2).mono ?_
        rintro e w9 ⟨rfl, b9⟩
        have s9 := b9.size
        have o3' := Lib.hid (o3.out.below b9)
        have b9' := b7'.trans (b9.mono (by omega))
        clear l7 o3 b7' b9
        go_wp2_with fail
        refine (refSlot_any host t _ xs _ (hu.below b9') ht1 ht2).mono ?_
        rintro e w10 ⟨rfl, rfl⟩
        go_wp2_with fail
        refine (same_is _ _ _ _ true _ o3'.out.nums (hu.below b9') (by simp)).mono ?_
        rintro e w11 ⟨rfl, b11⟩
        have s11 := b11.size
        have b11' := b9'.trans (b11.mono (by omega))
        clear o3' b9' b11
        go_wp2_with fail
        refine (ask_nil 1 _).mono ?_
        rintro e w12 ⟨rfl, rfl⟩
        go_wp2_with fail
        refine (slot_nil 4 _).mono ?_
        rintro e w12 ⟨rfl, rfl⟩
        go_wp2_with fail
        refine (busy_nil 1 _).mono ?_
        rintro e w12 ⟨rfl, rfl⟩
        go_wp2_with fail
        refine (awake_any _).mono ?_
        rintro e w12 ⟨rfl, b12⟩
        have b12' := b11'.trans (b12.mono (by omega))
        clear b11' b12
        go_wp2
        go_ret
        exact ⟨rfl, b12'⟩

end Go.Proofs.Ytneclkneglgfdaa
