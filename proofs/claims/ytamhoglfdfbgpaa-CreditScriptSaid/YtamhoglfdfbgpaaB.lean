/- Read, and the reference's calls. -/
import Derived.Test.YtamhoglfdfbgpaaA
import Derived.BigRegion
namespace Go.Proofs.Ytamhoglfdfbgpaa
open Go.RowKit

set_option maxHeartbeats 800000 in
theorem read_any (b : Nat) (c : Cr) (n : Int) (w : World) (h : CrAt 42 w b c) (hc : c.ok) :
    Calls Try.prog 15 #[.pointer (some ⟨b, 0, none⟩), .int .i64 n] w fun e w' => e = .returned (.tuple #[.int .i64 (c.read n).l, .bool (c.more n)]) ∧ CrAt 42 w' b (c.read n) ∧ w.grownBy w' (some b) := by
  obtain ⟨s1, s2, s3⟩ := seen_bd hc n
  obtain ⟨g0, g0', g1, g2, g3, g4, g5, g6⟩ := hc
  have h0 := h.c0
  have h1 := h.c1
  have h3 := h.c3
  have f1 := h.fr 1
  have f3 := h.fr 3
  have H := Lib.hid h
  clear h
  obtain ⟨s, hs⟩ := name_it (c.seen n)
  rw [← hs.out] at s1 s2 s3
  have hs' : max c.r (min n 549755813888) = s := hs.out.symm
  have E1 : IntKind.i64.wrap (s + c.w) = s + c.w := IntWalk.i64_in _ ⟨by omega, by omega⟩
  have E2 : IntKind.i64.wrap (s + c.w - c.l) = s + c.w - c.l := IntWalk.i64_in _ ⟨by omega, by omega⟩
  have E3 : c.w.tdiv 2 = c.w / 2 := Int.tdiv_eq_ediv_of_nonneg (by omega)
  have E4 : IntKind.i64.wrap (c.w / 2) = c.w / 2 := IntWalk.i64_in _ ⟨by omega, by omega⟩
  have E5 : IntKind.i64.wrap (c.l + c.w / 2) = c.l + c.w / 2 := IntWalk.i64_in _ ⟨by omega, by omega⟩
  by_cases m1 : c.l < s + c.w
  · by_cases m2 : c.w / 2 ≤ s + c.w - c.l
    · have k1 : decide (s + c.w ≤ c.l) = false := by simp; omega
      have k2 : decide (s + c.w - c.l < c.w / 2) = false := by simp; omega
      have k3 : decide (s + c.w < c.l + c.w / 2) = false := by simp; omega
      have HM : Hid (c.more n = true) := by show _ = _; unfold Cr.more; rw [← hs.out]; simp [m1, m2]
      have HR : Hid (c.read n = { c with r := s, l := s + c.w }) := by show _ = _; unfold Cr.read; rw [if_pos HM.out, ← hs.out]
      go_enter Try.func15, Try.ntmps15
      go_wp2
      go_quiet (fail)
      go_wp2
      go_quiet (fail)
      go_wp2
      go_ret2
      rw [HM.out, HR.out]
      refine ⟨rfl, setCell_block (setCell_block H.out), ?_⟩
      exact grown_drewN (grown_setCell (grown_setCell (grown_refl _ _) _) _) _
    · have k1 : decide (s + c.w ≤ c.l) = false := by simp; omega
      have k2 : decide (s + c.w - c.l < c.w / 2) = true := by simp; omega
      have k3 : decide (s + c.w < c.l + c.w / 2) = true := by simp; omega
      have HM : Hid (c.more n = false) := by show _ = _; unfold Cr.more; rw [← hs.out]; simp [m2]
      have HR : Hid (c.read n = { c with r := s }) := by show _ = _; unfold Cr.read; rw [if_neg (by rw [HM.out]; simp), ← hs.out]
      go_enter Try.func15, Try.ntmps15
      go_wp2
      go_quiet (fail)
      go_wp2
      go_quiet (fail)
      go_wp2
      go_ret2
      rw [HM.out, HR.out]
      refine ⟨rfl, setCell_block H.out, ?_⟩
      exact grown_drewN (grown_setCell (grown_refl _ _) _) _
  · have hd : decide (c.l < s + c.w) = false := by simpa using m1
    have hd' : decide (s + c.w ≤ c.l) = true := by simp; omega
    have HM : Hid (c.more n = false) := by show _ = _; unfold Cr.more; rw [← hs.out]; simp [m1]
    have HR : Hid (c.read n = { c with r := s }) := by show _ = _; unfold Cr.read; rw [if_neg (by rw [HM.out]; simp), ← hs.out]
    go_enter Try.func15, Try.ntmps15
    go_wp2
    go_quiet (fail)
    go_wp2
    go_quiet (fail)
    go_wp2
    go_ret2
    rw [HM.out, HR.out]
    refine ⟨rfl, setCell_block H.out, ?_⟩
    exact grown_drewN (grown_setCell (grown_refl _ _) _) _

set_option maxHeartbeats 800000 in
theorem refTake_any (b : Nat) (c : Cr) (n : Int) (w : World) (h : CrAt 35 w b c) (hc : c.ok) :
    Calls Try.prog 13 #[.pointer (some ⟨b, 0, none⟩), .int .i64 n] w fun e w' => e = .returned (.bool (c.mayTake n)) ∧ CrAt 35 w' b (c.take n) ∧ w.grownBy w' (some b) := by
  obtain ⟨g0, g0', g1, g2, g3, g4, g5, g6⟩ := hc
  have h1 := h.c1
  have h2 := h.c2
  have f2 := h.fr 2
  have H := Lib.hid h
  clear h
  by_cases h0 : 0 ≤ n
  · have hd : decide (n < 0) = false := by simp; omega
    by_cases h1 : n ≤ c.l - c.t
    · have HT : Hid (c.mayTake n = true) := by simp [Hid, Cr.mayTake, h0, h1]
      have HC : Hid (c.take n = { c with t := c.t + n }) := by show _ = _; unfold Cr.take; rw [if_pos HT.out]
      go_enter Try.func13, Try.ntmps13
      go_wp2
      go_quiet (fail)
      go_wp2
      go_ret
      refine ⟨ret_bool HT.out.symm, ?_, grown_drewN (grown_setCell (grown_refl _ _) _) _⟩
      rw [HC.out]
      exact setCell_block H.out
    · have HT : Hid (c.mayTake n = false) := by simp [Hid, Cr.mayTake, h1]
      have HC : Hid (c.take n = c) := by show _ = _; unfold Cr.take; rw [if_neg (by rw [HT.out]; simp)]
      go_enter Try.func13, Try.ntmps13
      go_wp2
      go_quiet (fail)
      go_wp2
      go_ret
      exact ⟨ret_bool HT.out.symm, by rw [HC.out]; exact H.out, grown_drewN (grown_refl _ _) _⟩
  · have hd : decide (n < 0) = true := by simp; omega
    have HT : Hid (c.mayTake n = false) := by simp [Hid, Cr.mayTake, h0]
    have HC : Hid (c.take n = c) := by show _ = _; unfold Cr.take; rw [if_neg (by rw [HT.out]; simp)]
    go_enter Try.func13, Try.ntmps13
    go_wp2
    go_quiet (fail)
    go_wp2
    go_ret
    exact ⟨ret_bool HT.out.symm, by rw [HC.out]; exact H.out, grown_drewN (grown_refl _ _) _⟩

theorem refRaise_any (b : Nat) (c : Cr) (n : Int) (w : World) (h : CrAt 35 w b c) :
    Calls Try.prog 14 #[.pointer (some ⟨b, 0, none⟩), .int .i64 n] w fun e w' => e = .returned (.bool (c.mayRaise n)) ∧ CrAt 35 w' b (c.raise n) ∧ w.grownBy w' (some b) := by
  have h1 := h.c1
  have f1 := h.fr 1
  have H := Lib.hid h
  clear h
  by_cases h0 : c.l < n
  · by_cases h2 : n ≤ 1099511627776
    · have HT : Hid (c.mayRaise n = true) := by simp [Hid, Cr.mayRaise, h0, h2]
      have HC : Hid (c.raise n = { c with l := n }) := by show _ = _; unfold Cr.raise; rw [if_pos HT.out]
      go_enter Try.func14, Try.ntmps14
      go_wp2
      go_ret
      refine ⟨ret_bool HT.out.symm, ?_, grown_setCell (grown_refl _ _) _⟩
      rw [HC.out]
      exact setCell_block H.out
    · have HT : Hid (c.mayRaise n = false) := by simp [Hid, Cr.mayRaise, h2]
      have HC : Hid (c.raise n = c) := by show _ = _; unfold Cr.raise; rw [if_neg (by rw [HT.out]; simp)]
      go_enter Try.func14, Try.ntmps14
      go_wp2
      go_ret
      exact ⟨ret_bool HT.out.symm, by rw [HC.out]; exact H.out, grown_refl _ _⟩
  · have HT : Hid (c.mayRaise n = false) := by simp [Hid, Cr.mayRaise, h0]
    have HC : Hid (c.raise n = c) := by show _ = _; unfold Cr.raise; rw [if_neg (by rw [HT.out]; simp)]
    go_enter Try.func14, Try.ntmps14
    go_wp2
    go_ret
    exact ⟨ret_bool HT.out.symm, by rw [HC.out]; exact H.out, grown_refl _ _⟩

set_option maxHeartbeats 1600000 in
theorem refRead_any (b : Nat) (c : Cr) (n : Int) (w : World) (h : CrAt 35 w b c) (hc : c.ok) :
    Calls Try.prog 16 #[.pointer (some ⟨b, 0, none⟩), .int .i64 n] w fun e w' => e = .returned (.tuple #[.int .i64 (c.read n).l, .bool (c.more n)]) ∧ CrAt 35 w' b (c.read n) ∧ w.grownBy w' (some b) := by
  obtain ⟨s1, s2, s3⟩ := seen_bd hc n
  obtain ⟨g0, g0', g1, g2, g3, g4, g5, g6⟩ := hc
  have h0 := h.c0
  have h1 := h.c1
  have h3 := h.c3
  have f1 := h.fr 1
  have f3 := h.fr 3
  have H := Lib.hid h
  clear h
  obtain ⟨s, hs⟩ := name_it (c.seen n)
  rw [← hs.out] at s1 s2 s3
  have hs' : max c.r (min n 549755813888) = s := hs.out.symm
  have E1 : IntKind.i64.wrap (s + c.w) = s + c.w := IntWalk.i64_in _ ⟨by omega, by omega⟩
  have E2 : IntKind.i64.wrap (s + c.w - c.l) = s + c.w - c.l := IntWalk.i64_in _ ⟨by omega, by omega⟩
  have E3 : c.w.tdiv 2 = c.w / 2 := Int.tdiv_eq_ediv_of_nonneg (by omega)
  have E4 : IntKind.i64.wrap (c.w / 2) = c.w / 2 := IntWalk.i64_in _ ⟨by omega, by omega⟩
  have E5 : IntKind.i64.wrap (c.l + c.w / 2) = c.l + c.w / 2 := IntWalk.i64_in _ ⟨by omega, by omega⟩
  by_cases m1 : c.l < s + c.w
  · by_cases m2 : c.w / 2 ≤ s + c.w - c.l
    · have k1 : decide (s + c.w ≤ c.l) = false := by simp; omega
      have k2 : decide (s + c.w - c.l < c.w / 2) = false := by simp; omega
      have k3 : decide (s + c.w < c.l + c.w / 2) = false := by simp; omega
      have HM : Hid (c.more n = true) := by show _ = _; unfold Cr.more; rw [← hs.out]; simp [m1, m2]
      have HR : Hid (c.read n = { c with r := s, l := s + c.w }) := by show _ = _; unfold Cr.read; rw [if_pos HM.out, ← hs.out]
      go_enter Try.func16, Try.ntmps16
      go_wp2
      go_quiet (fail)
      go_wp2
      go_region
      go_wp2
      go_ret2
      rw [HM.out, HR.out]
      refine ⟨rfl, setCell_block (setCell_block H.out), ?_⟩
      repeat (first | exact grown_refl _ _ | apply grown_drewN | apply grown_drew | apply grown_setCell)
    · have k1 : decide (s + c.w ≤ c.l) = false := by simp; omega
      have k2 : decide (s + c.w - c.l < c.w / 2) = true := by simp; omega
      have k3 : decide (s + c.w < c.l + c.w / 2) = true := by simp; omega
      have HM : Hid (c.more n = false) := by show _ = _; unfold Cr.more; rw [← hs.out]; simp [m2]
      have HR : Hid (c.read n = { c with r := s }) := by show _ = _; unfold Cr.read; rw [if_neg (by rw [HM.out]; simp), ← hs.out]
      go_enter Try.func16, Try.ntmps16
      go_wp2
      go_quiet (fail)
      go_wp2
      go_ret2
      rw [HM.out, HR.out]
      refine ⟨rfl, setCell_block H.out, ?_⟩
      exact grown_drewN (grown_setCell (grown_refl _ _) _) _
  · have hd : decide (c.l < s + c.w) = false := by simpa using m1
    have hd' : decide (s + c.w ≤ c.l) = true := by simp; omega
    have HM : Hid (c.more n = false) := by show _ = _; unfold Cr.more; rw [← hs.out]; simp [m1]
    have HR : Hid (c.read n = { c with r := s }) := by show _ = _; unfold Cr.read; rw [if_neg (by rw [HM.out]; simp), ← hs.out]
    go_enter Try.func16, Try.ntmps16
    go_wp2
    go_quiet (fail)
    go_wp2
    go_ret2
    rw [HM.out, HR.out]
    refine ⟨rfl, setCell_block H.out, ?_⟩
    exact grown_drewN (grown_setCell (grown_refl _ _) _) _

end Go.Proofs.Ytamhoglfdfbgpaa
