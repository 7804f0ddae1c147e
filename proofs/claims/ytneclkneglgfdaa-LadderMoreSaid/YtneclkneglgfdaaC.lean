/- Contracts of Slot and Slots, and of the reference's. -/
import Derived.Test.YtneclkneglgfdaaB
namespace Go.Proofs.Ytneclkneglgfdaa
open Go.RowKit Go.Maps

def slotB (host : Int) (xs : List Int) (t : Int) : Bool := decide (0 ≤ t) && (busyB xs t || decide ((t + 2 * host) % 4 = 0))

theorem slot_arith (host t : Int) : ((wrap64 (t + wrap64 (2 * host))).tmod 4 == 0) = decide ((t + 2 * host) % 4 = 0) := by
  have e1 : ∀ n : Int, wrap64 n = (n + 9223372036854775808) % 18446744073709551616 - 9223372036854775808 := fun n => by
    simp only [wrap64]
  have e2 : ((wrap64 (t + wrap64 (2 * host))).tmod 4 = 0) ↔ ((t + 2 * host) % 4 = 0) := by
    rw [← Int.dvd_iff_tmod_eq_zero, Int.dvd_iff_emod_eq_zero, e1, e1]
    omega
  by_cases h : (t + 2 * host) % 4 = 0
  · simp [h, e2.2 h]
  · have h' : ¬ (wrap64 (t + wrap64 (2 * host))).tmod 4 = 0 := fun e => h (e2.1 e)
    simp [h, h']

set_option maxHeartbeats 400000 in
theorem slot_any (b m : Nat) (host t : Int) (xs : List Int) (w : World) (h : Lad w b m host xs) (h1 : -9223372036854775808 ≤ t) (h2 : t ≤ 9223372036854775807) :
    Calls Try.prog 16 #[.pointer (some ⟨b, 0, none⟩), .int .i64 t] w fun e w' => e = .returned (.bool (slotB host xs t)) ∧ Below w.heap.size w w' := by
  have hl := Lib.hid h
  obtain ⟨lt1, lt2⟩ := h.lt
  clear h
  by_cases h0 : 0 ≤ t
  · cases hb : busyB xs t
    · have HB := Lib.hid hb
      clear hb
      have ha := Lib.hid (slot_arith host t)
      by_cases h4 : (t + 2 * host) % 4 = 0
      · have e4 : ((wrap64 (t + wrap64 (2 * host))).tmod 4 == 0) = true := by rw [ha.out]; simp [h4]
        have HS : Hid (slotB host xs t = true) := by simp [Hid, slotB, h0, h4]
        clear h4
        go_enter Try.func16, Try.ntmps16
        go_wp2_with fail
        refine (busy_any b m host t xs _ hl.out h1 h2).mono ?_
        rintro e w1 ⟨rfl, hbel⟩
        have hc0 := (hl.out.below hbel lt1 lt2).cell0
        rw [HB.out]
        go_wp2
        go_ret
        exact ⟨ret_bool HS.out.symm, hbel⟩
      · have e4 : ((wrap64 (t + wrap64 (2 * host))).tmod 4 == 0) = false := by rw [ha.out]; simp [h4]
        have HS : Hid (slotB host xs t = false) := by simp [Hid, slotB, h4, HB.out]
        clear h4
        go_enter Try.func16, Try.ntmps16
        go_wp2_with fail
        refine (busy_any b m host t xs _ hl.out h1 h2).mono ?_
        rintro e w1 ⟨rfl, hbel⟩
        have hc0 := (hl.out.below hbel lt1 lt2).cell0
        rw [HB.out]
        go_wp2
        go_ret
        exact ⟨ret_bool HS.out.symm, hbel⟩
    · have HS : Hid (slotB host xs t = true) := by simp [Hid, slotB, h0, hb]
      have HB := Lib.hid hb
      clear hb
      go_enter Try.func16, Try.ntmps16
      go_wp2_with fail
      refine (busy_any b m host t xs _ hl.out h1 h2).mono ?_
      rintro e w1 ⟨rfl, hbel⟩
      rw [HB.out]
      go_wp2
      go_ret
      exact ⟨ret_bool HS.out.symm, hbel⟩
  · have HB : Hid (slotB host xs t = false) := by simp [Hid, slotB, h0]
    go_enter Try.func16, Try.ntmps16
    go_wp2
    go_ret
    exact ⟨ret_bool HB.out.symm, Below.refl _ _⟩

theorem slot_nil (t : Int) (w : World) :
    Calls Try.prog 16 #[.pointer none, .int .i64 t] w fun e w' => e = .returned (.bool false) ∧ w = w' := by
  go_enter Try.func16, Try.ntmps16
  go_wp2
  go_ret
  exact ⟨rfl, rfl⟩

theorem refslot_arith (host t : Int) : (t % 4 == (IntKind.u64.wrap (4 - IntKind.u64.wrap ((IntKind.u64.wrap host).tmod 2 * 2))).tmod 4) = decide ((t + 2 * host) % 4 = 0) := by
  simp only [IntKind.wrap_u64]
  rw [Int.tmod_eq_emod_of_nonneg (a := host % 18446744073709551616) (by omega), Int.tmod_eq_emod_of_nonneg (by omega)]
  rw [Bool.eq_iff_iff]
  simp
  omega

set_option maxHeartbeats 400000 in
theorem refSlot_any (host t : Int) (u : Value) (xs : List Int) (w : World) (hu : NumsAt .i64 w u xs) (h1 : -9223372036854775808 ≤ t) (h2 : t ≤ 9223372036854775807) :
    Calls Try.prog 17 #[.int .i64 host, u, .int .i64 t] w fun e w' => e = .returned (.bool (slotB host xs t)) ∧ w = w' := by
  by_cases h0 : 0 ≤ t
  · cases hb : busyB xs t
    · have HB := Lib.hid hb
      clear hb
      go_enter Try.func17, Try.ntmps17
      go_wp2_with fail
      refine (refBusy_any u t xs _ hu h1 h2).mono ?_
      rintro e w1 ⟨rfl, rfl⟩
      rw [HB.out]
      go_wp2
      go_ret
      refine ⟨ret_bool ?_, rfl⟩
      rw [refslot_arith]
      simp [slotB, h0, HB.out]
    · have HS : Hid (slotB host xs t = true) := by simp [Hid, slotB, h0, hb]
      have HB := Lib.hid hb
      clear hb
      go_enter Try.func17, Try.ntmps17
      go_wp2_with fail
      refine (refBusy_any u t xs _ hu h1 h2).mono ?_
      rintro e w1 ⟨rfl, rfl⟩
      rw [HB.out]
      go_wp2
      go_ret
      exact ⟨ret_bool HS.out.symm, rfl⟩
  · have HB : Hid (slotB host xs t = false) := by simp [Hid, slotB, h0]
    go_enter Try.func17, Try.ntmps17
    go_wp2
    go_ret
    exact ⟨ret_bool HB.out.symm, rfl⟩

/-- The ticks that are slots. -/
def slotsL (host : Int) (xs : List Int) (a b : Int) : List Int :=
  if b < a ∨ 10000 ≤ b - a then [] else ((List.range (b - a + 1).toNat).map (fun (k : Nat) => a + (k : Int))).filter (slotB host xs)

/-- .. behind k rounds. -/
def slotsTo (host : Int) (xs : List Int) (a : Int) (k : Nat) : List Int := ((List.range k).map (fun (k : Nat) => a + (k : Int))).filter (slotB host xs)
theorem slotsTo_succ (host : Int) (xs : List Int) (a : Int) (k : Nat) : slotsTo host xs a (k + 1) = slotsTo host xs a k ++ if slotB host xs (a + k) then [a + k] else [] := by
  simp only [slotsTo, List.range_succ, List.map_append, List.filter_append, List.map_cons, List.map_nil, List.filter_cons, List.filter_nil]
theorem slotsTo_hit {host : Int} {xs : List Int} {a : Int} {k : Nat} (h : slotB host xs (a + k) = true) : slotsTo host xs a (k + 1) = slotsTo host xs a k ++ [a + k] := by rw [slotsTo_succ, h]; rfl
theorem slotsTo_miss {host : Int} {xs : List Int} {a : Int} {k : Nat} (h : slotB host xs (a + k) = false) : slotsTo host xs a (k + 1) = slotsTo host xs a k := by rw [slotsTo_succ, h]; simp
theorem slotsTo_le (host : Int) (xs : List Int) (a : Int) (k : Nat) : (slotsTo host xs a k).length ≤ k := by
  have := List.length_filter_le (slotB host xs) ((List.range k).map (fun (k : Nat) => a + (k : Int)))
  simpa [slotsTo] using this

theorem Lad.grown {w w' : World} {b m : Nat} {host : Int} {xs : List Int} {row : Option Nat} (h : Lad w b m host xs) (hg : w.grownBy w' row) (h1 : some b ≠ row) (h2 : some m ≠ row) : Lad w' b m host xs :=
  ⟨(hg.block b h.lt.1 h1).trans h.cells, h.set.kept hg h2⟩

theorem Try.info3 : (Try.prog.info? 3).map (fun i => (i.zero, i.size, i.bytes)) = some (some (.int .i64 0), 1, 8) := by kernel_rfl

theorem range_arith {a b : Int} (ha : -9223372036854775808 ≤ a) (h : a ≤ b) (hb : b ≤ 9223372036854775807) : IntKind.u64.wrap (IntKind.u64.wrap b - IntKind.u64.wrap a) = b - a := by
  simp only [IntKind.wrap_u64]; omega

set_option maxHeartbeats 800000 in
theorem slots_any (host a b : Int) (u : Value) (xs : List Int) (w : World) (hu : NumsAt .i64 w u xs) (hx : xs.length < 4611686018427387904) (hwx : Hid (∀ x ∈ xs, -9223372036854775808 ≤ x ∧ x ≤ 9223372036854775807))
    (ha1 : -9223372036854775808 ≤ a) (ha2 : a ≤ 9223372036854775807) (hb1 : -9223372036854775808 ≤ b) (hb2 : b ≤ 9223372036854775807) :
    Calls Try.prog 11 #[.int .i64 host, u, .int .i64 a, .int .i64 b] w fun e w' => ∃ v, e = .returned v ∧ OwnNums .i64 3 w' w.heap.size v (slotsL host xs a b) ∧ Below w.heap.size w w' := by
  by_cases hab : b < a
  · have HS : Hid (slotsL host xs a b = []) := by simp [Hid, slotsL, hab]
    go_enter Try.func11, Try.ntmps11
    go_wp2
    go_ret
    exact ⟨_, rfl, by rw [HS.out]; exact World.ownsRow_nil _ _ _ _, Below.refl _ _⟩
  have hr := range_arith ha1 (by omega) hb2
  by_cases hbig : 10000 ≤ b - a
  · have HS : Hid (slotsL host xs a b = []) := by simp [Hid, slotsL, hbig]
    go_enter Try.func11, Try.ntmps11
    go_wp2
    go_ret
    exact ⟨_, rfl, by rw [HS.out]; exact World.ownsRow_nil _ _ _ _, Below.refl _ _⟩
  · obtain ⟨ad, ca, rfl, hl, ba, oa, hca⟩ := hu.form
    obtain ⟨n, hn⟩ : ∃ n : Nat, b = a + n := ⟨(b - a).toNat, by omega⟩
    have HS : Hid (slotsL host xs a b = slotsTo host xs a (n + 1)) := by
      have e : (b - a + 1).toNat = n + 1 := by omega
      simp [Hid, slotsL, slotsTo, hab, hbig, e]
    subst hn
    have e0 : a + (n : Int) - a = n := by omega
    rw [e0] at hr
    have hn : n < 10000 := by omega
    obtain ⟨i0, hi, hz0, hz1, hz2⟩ := info_parts Try.info3
    clear hab hbig
    go_enter Try.func11, Try.ntmps11
    go_wp2_with fail
    refine (new_lad host _).mono ?_
    rintro e w1 ⟨rfl, hlad1, hbel1, hsz1⟩
    have hlad1 := Lib.hid hlad1
    go_wp2_with fail
    go_loopw [29] (fun i wr => ∃ k : Nat, k ≤ xs.length ∧ i = .int .i64 k ∧ Hid (Lad wr (w.heap.size + 1) w.heap.size host (xs.take k)) ∧ Below w.heap.size w wr ∧ w.heap.size + 2 ≤ wr.heap.size) (fun i _ => xs.length - (intOf i).toNat)
    case atStart => exact ⟨0, Nat.zero_le _, rfl, hlad1, hbel1, hsz1⟩
    case round =>
      obtain ⟨k, hk, rfl, hlad, hbel, hsz⟩ := hrel
      clear hlad1 hbel1 hsz1
      by_cases hlt : k < xs.length
      · obtain ⟨rfl, hc⟩ := hca.out k hlt
        obtain ⟨x, hx⟩ := name_it (xs.getD k 0)
        rw [← hx.out] at hc
        have hb0 : ba < w.heap.size := cell_lt hc
        have hc : wr.cell? ⟨ba, oa + k, none⟩ = some (.int .i64 x) := (hbel.cell hb0).trans hc
        have hxb := hwx.out x (by rw [hx.out]; exact getD_mem hlt)
        go_wp2_with fail
        refine (ask_any _ _ host x _ _ hlad.out (by simp; omega) hxb.1 hxb.2).mono ?_
        rintro e w2 ⟨rfl, hlad2, hgr⟩
        have hlad2 : Hid (Lad w2 (w.heap.size + 1) w.heap.size host (xs.take (k + 1))) := by
          have e : xs.take (k + 1) = xs.take k ++ [x] := by
            rw [List.take_add_one, hx.out]; simp [List.getD, List.getElem?_eq_getElem hlt]
          show Lad _ _ _ _ _
          rw [e]
          exact hlad2
        have hbel2 := hbel.grown hgr (by omega) (fun j hj => by cases hj; exact Nat.le_refl _)
        have hsz2 := hgr.size
        clear hgr
        go_wp2
        go_roundw
        case rel => exact ⟨k + 1, by omega, by go_num, hlad2, hbel2, by omega⟩
        case measure => simp [intOf]; omega
      · have hlad' : Hid (Lad wr (w.heap.size + 1) w.heap.size host xs) := by
          have := hlad.out
          rwa [List.take_of_length_le (by omega)] at this
        clear hlad
        obtain ⟨wo, hwo⟩ : ∃ wo : World, Hid (wo = wr) := ⟨_, rfl⟩
        go_wp2_with fail
        go_loopw [41, 12] (fun i v w2 => ∃ k : Nat, k ≤ n + 1 ∧ i = .int .i64 k ∧ Hid (OwnNums .i64 3 w2 (w.heap.size + 2) v (slotsTo host xs a k)) ∧ Hid (Lad w2 (w.heap.size + 1) w.heap.size host xs) ∧ Below w.heap.size w w2 ∧ w.heap.size + 2 ≤ w2.heap.size) (fun i _ _ => n + 1 - (intOf i).toNat)
        case atStart => exact ⟨0, Nat.zero_le _, rfl, World.ownsRow_nil _ _ _ _, hlad', hbel, hsz⟩
        case round =>
          clear hlad' hbel hsz
          obtain ⟨j, hj, rfl, hown, hlad, hbel, hsz⟩ := hrel
          by_cases hjl : j < n + 1
          · have hsl := slotsTo_le host xs a j
            go_wp2_with fail
            refine (slot_any _ _ host _ xs _ hlad.out (by omega) (by omega)).mono ?_
            rintro e w3 ⟨rfl, hbel3⟩
            have hsz3 := hbel3.size
            have hown3 := hown.out.below hbel3
            have hlad3 := Lib.hid (hlad.out.below hbel3 (by omega) (by omega))
            have hbel4 := hbel.trans (hbel3.mono (by omega))
            clear hown hlad hbel hbel3
            cases hsb : slotB host xs (a + j)
            · have HM := Lib.hid (slotsTo_miss hsb)
              clear hsb
              have hown3 := Lib.hid hown3
              go_wp2
              go_roundw
              case rel => exact ⟨j + 1, by omega, by go_num, by rw [HM.out]; exact hown3, hlad3, hbel4, by omega⟩
              case measure => simp [intOf]; omega
            · have HM := Lib.hid (slotsTo_hit hsb)
              clear hsb
              go_wp2_with (first
                | (at_builtin; refine wpList_append_own _ rfl _ _ 22 rfl (w.heap.size + 2) 3 i0 (.int .i64 0) 1 8 Try.underlying22 hi hz0 hz1 hz2 rfl (by decide) _ _ _ rfl (World.ownsRow.alloc hown3 _) ⟨w3.heap.size, 0, none⟩ 1 1 [.int .i64 (a + j)] rfl rfl (cell_one_new _ _ _) (ints_oneCell .i64 [a + j]) (by unfold maxLen; omega) (by omega) (by simp; omega) ?_; intro v4 w4 hown4 hgr4 _)
                | go_in)
              have hs4 := hgr4.size
              simp at hs4
              go_roundw
              case rel =>
                refine ⟨j + 1, by omega, by go_num, ?_, ?_, ?_, by omega⟩
                · show OwnNums _ _ _ _ _ _
                  rw [HM.out]
                  simpa [OwnNums] using hown4
                · have hlt1 : ∀ k, Value.ownBlock _ = some k → w.heap.size + 2 ≤ k := fun k hk => (World.ownsRow.lt hown3 k hk).1
                  exact (hlad3.out.grown (World.grownBy_alloc w3 _ none) (by simp) (by simp)).grown hgr4 (fun e => by have := hlt1 _ e.symm; omega) (fun e => by have := hlt1 _ e.symm; omega)
                · exact (hbel4.alloc (by omega) _).grown hgr4 (by simp; omega) (fun k hk => by have := (World.ownsRow.lt hown3 k hk).1; omega)
              case measure => simp [intOf]; omega
          · have HE : slotsTo host xs a j = slotsL host xs a (a + n) := by rw [HS.out]; congr 1; omega
            have HE := Lib.hid HE
            go_wp2
            go_ret
            refine ⟨_, rfl, ?_, hbel⟩
            rw [← HE.out]
            exact ⟨hown.out.1, hown.out.2.imp id (fun ⟨g, cap, cur, h1, h2, h3⟩ => ⟨g, cap, cur, h1, by omega, h3⟩)⟩

set_option maxHeartbeats 800000 in
theorem refSlots_any (host a b : Int) (u : Value) (xs : List Int) (w : World) (hu : NumsAt .i64 w u xs)
    (ha1 : -9223372036854775808 ≤ a) (ha2 : a ≤ 9223372036854775807) (hb1 : -9223372036854775808 ≤ b) (hb2 : b ≤ 9223372036854775807) :
    Calls Try.prog 13 #[.int .i64 host, u, .int .i64 a, .int .i64 b] w fun e w' => ∃ v, e = .returned v ∧ OwnNums .i64 3 w' w.heap.size v (slotsL host xs a b) ∧ Below w.heap.size w w' := by
  by_cases hab : b < a
  · have HS : Hid (slotsL host xs a b = []) := by simp [Hid, slotsL, hab]
    go_enter Try.func13, Try.ntmps13
    go_wp2
    go_ret
    exact ⟨_, rfl, by rw [HS.out]; exact World.ownsRow_nil _ _ _ _, Below.refl _ _⟩
  have hr := range_arith ha1 (by omega) hb2
  by_cases hbig : 10000 ≤ b - a
  · have HS : Hid (slotsL host xs a b = []) := by simp [Hid, slotsL, hbig]
    go_enter Try.func13, Try.ntmps13
    go_wp2
    go_ret
    exact ⟨_, rfl, by rw [HS.out]; exact World.ownsRow_nil _ _ _ _, Below.refl _ _⟩
  · obtain ⟨n, hn⟩ : ∃ n : Nat, b = a + n := ⟨(b - a).toNat, by omega⟩
    have HS : Hid (slotsL host xs a b = slotsTo host xs a (n + 1)) := by
      have e : (b - a + 1).toNat = n + 1 := by omega
      simp [Hid, slotsL, slotsTo, hab, hbig, e]
    subst hn
    have e0 : a + (n : Int) - a = n := by omega
    rw [e0] at hr
    have hn : n < 10000 := by omega
    obtain ⟨i0, hi, hz0, hz1, hz2⟩ := info_parts Try.info3
    clear hab hbig
    go_enter Try.func13, Try.ntmps13
    go_wp2_with fail
    go_loopw [10, 9] (fun i v w2 => ∃ k : Nat, k ≤ n + 1 ∧ i = .int .i64 k ∧ Hid (OwnNums .i64 3 w2 w.heap.size v (slotsTo host xs a k)) ∧ Below w.heap.size w w2) (fun i _ _ => n + 1 - (intOf i).toNat)
    case atStart => exact ⟨0, Nat.zero_le _, rfl, World.ownsRow_nil _ _ _ _, Below.refl _ _⟩
    case round =>
      obtain ⟨j, hj, rfl, hown, hbel⟩ := hrel
      have hsz := hbel.size
      by_cases hjl : j < n + 1
      · have hsl := slotsTo_le host xs a j
        go_wp2_with fail
        refine (refSlot_any host _ u xs _ (hu.below hbel) (by omega) (by omega)).mono ?_
        rintro e w3 ⟨rfl, rfl⟩
        have hown3 := hown.out
        clear hown
        cases hsb : slotB host xs (a + j)
        · have HM := Lib.hid (slotsTo_miss hsb)
          clear hsb
          have hown3 := Lib.hid hown3
          go_wp2
          go_roundw
          case rel => exact ⟨j + 1, by omega, by go_num, by rw [HM.out]; exact hown3, hbel⟩
          case measure => simp [intOf]; omega
        · have HM := Lib.hid (slotsTo_hit hsb)
          clear hsb
          go_wp2_with (first
            | (at_builtin; refine wpList_append_own _ rfl _ _ 22 rfl w.heap.size 3 i0 (.int .i64 0) 1 8 Try.underlying22 hi hz0 hz1 hz2 rfl (by decide) _ _ _ rfl (World.ownsRow.alloc hown3 _) ⟨World.heap _ |>.size, 0, none⟩ 1 1 [.int .i64 (a + j)] rfl rfl (cell_one_new _ _ _) (ints_oneCell .i64 [a + j]) (by unfold maxLen; omega) (by omega) (by simp; omega) ?_; intro v4 w4 hown4 hgr4 _)
            | go_in)
          have hs4 := hgr4.size
          simp at hs4
          go_roundw
          case rel =>
            refine ⟨j + 1, by omega, by go_num, ?_, ?_⟩
            · show OwnNums _ _ _ _ _ _
              rw [HM.out]
              simpa [OwnNums] using hown4
            · exact (hbel.alloc (by omega) _).grown hgr4 (by simp; omega) (fun k hk => by have := (World.ownsRow.lt hown3 k hk).1; omega)
          case measure => simp [intOf]; omega
      · have HE : slotsTo host xs a j = slotsL host xs a (a + n) := by rw [HS.out]; congr 1; omega
        have HE := Lib.hid HE
        go_wp2
        go_ret
        refine ⟨_, rfl, ?_, hbel⟩
        rw [← HE.out]
        exact hown.out

end Go.Proofs.Ytneclkneglgfdaa
