/- Sample, of the clock and of the reference's. -/
import Derived.Test.YtefabmpiimddoaaA
import Derived.BigRegion
namespace Go.Proofs.Ytefabmpiimddoaa
open Go.RowKit

theorem setCell_block {w : World} {b o : Nat} {cs : Array Value} {t : TypeId} {v : Value} (h : w.heap[b]? = some (.cells cs t (0, 0))) :
    (w.setCell ⟨b, o, none⟩ v).heap[b]? = some (.cells (cs.setIfInBounds o v) t (0, 0)) := by
  have hlt := lt_of_block h
  have h' : w.heap[b] = .cells cs t (0, 0) := by simpa [Array.getElem?_eq_getElem hlt] using h
  show (w.heap.modify b _)[b]? = _
  rw [Array.getElem?_eq_getElem (by simpa using hlt), Array.getElem_modify_self, h']
  rfl
theorem grown_setCell {a w : World} {b o : Nat} (h : a.grownBy w (some b)) (v : Value) : a.grownBy (w.setCell ⟨b, o, none⟩ v) (some b) :=
  ⟨h.os, h.tape, h.output, by simpa [World.setCell] using h.size, fun i hi hne => (Below.heap_setCell w _ v i (by rintro rfl; exact hne rfl)).trans (h.block i hi hne)⟩
theorem grown_drewN' {a w : World} {row : Option Nat} (h : a.grownBy w row) (n : Nat) : a.grownBy (w.drewN n) row := ⟨h.os, h.tape, h.output, h.size, h.block⟩
theorem grown_drew' {a w : World} {row : Option Nat} (h : a.grownBy w row) : a.grownBy w.drew row := ⟨h.os, h.tape, h.output, h.size, h.block⟩
theorem grown_refl' (w : World) (row : Option Nat) : w.grownBy w row := ⟨rfl, rfl, rfl, Nat.le_refl _, fun _ _ _ => rfl⟩

set_option maxHeartbeats 800000 in
theorem sample_any (b : Nat) (c : Clk) (r d : Int) (w : World) (h : ClkAt w b c) (hc : c.ok) :
    Calls Try.prog 10 #[.pointer (some ⟨b, 0, none⟩), .int .i64 r, .int .i64 d] w fun e w' => e = .returned (.tuple #[]) ∧ ClkAt w' b (c.told r d) ∧ w.grownBy w' (some b) := by
  have c0 := h.c0
  have c1 := h.c1
  have c2 := h.c2
  have c3 := h.c3
  have f0 : w.frozen? ⟨b, 0, none⟩ = false := by simp [World.frozen?, show w.heap[b]? = _ from h]
  have f1 : w.frozen? ⟨b, 1, none⟩ = false := by simp [World.frozen?, show w.heap[b]? = _ from h]
  have f2 : w.frozen? ⟨b, 2, none⟩ = false := by simp [World.frozen?, show w.heap[b]? = _ from h]
  have f3 : w.frozen? ⟨b, 3, none⟩ = false := by simp [World.frozen?, show w.heap[b]? = _ from h]
  have H := Lib.hid h
  clear h
  obtain ⟨g1, g2, g3, g4, g5, g6⟩ := hc
  by_cases hr0 : 0 ≤ r
  case neg =>
    have HT : Hid (c.told r d = c) := by show _ = _; unfold Clk.told; rw [if_pos (by omega)]
    go_enter Try.func10, Try.ntmps10
    go_wp2
    refine bodyPost_ret (results_none rfl _ _ _) rfl ?_
    exact ⟨rfl, by rw [HT.out]; exact H.out, grown_refl' _ _⟩
  by_cases hr1 : r ≤ 1048576
  case neg =>
    have HT : Hid (c.told r d = c) := by show _ = _; unfold Clk.told; rw [if_pos (by omega)]
    go_enter Try.func10, Try.ntmps10
    go_wp2
    refine bodyPost_ret (results_none rfl _ _ _) rfl ?_
    exact ⟨rfl, by rw [HT.out]; exact H.out, grown_refl' _ _⟩
  by_cases hd0 : 0 ≤ d
  case neg =>
    have HT : Hid (c.told r d = c) := by show _ = _; unfold Clk.told; rw [if_pos (by omega)]
    go_enter Try.func10, Try.ntmps10
    go_wp2
    refine bodyPost_ret (results_none rfl _ _ _) rfl ?_
    exact ⟨rfl, by rw [HT.out]; exact H.out, grown_refl' _ _⟩
  obtain ⟨any, s, v, l⟩ := c
  simp only at c0 c1 c2 c3 g1 g2 g3 g4 g5 g6
  cases any
  · have HT : Hid (Clk.told ⟨false, s, v, l⟩ r d = ⟨true, r, r / 2, r⟩) := by show _ = _; unfold Clk.told; rw [if_neg (by omega)]; rfl
    go_enter Try.func10, Try.ntmps10
    go_wp2
    refine bodyPost_ret (results_none rfl _ _ _) rfl ?_
    refine ⟨rfl, ?_, ?_⟩
    · rw [HT.out]
      exact setCell_block (setCell_block (setCell_block (setCell_block H.out)))
    · exact grown_setCell (grown_setCell (grown_setCell (grown_setCell (grown_refl' _ _) _) _) _) _
  · by_cases hcut : min l r ≤ r - min d 25
    · have HC : cutF l r d = r - min d 25 := by unfold cutF; rw [if_pos hcut]
      have HT : Hid (Clk.told ⟨true, s, v, l⟩ r d = ⟨true, (7 * s + (r - min d 25)) / 8, (3 * v + max (s - (r - min d 25)) (r - min d 25 - s)) / 4, min l r⟩) := by
        show _ = _; unfold Clk.told; rw [if_neg (by omega)]; simp only [HC]; rfl
      clear HC
      go_enter Try.func10, Try.ntmps10
      go_wp2
      go_region
      go_wp2
      go_end0
      refine ⟨rfl, ?_, ?_⟩
      · rw [HT.out]
        exact setCell_block (setCell_block (setCell_block H.out))
      · exact grown_drew' (grown_setCell (grown_setCell (grown_setCell (grown_refl' _ _) _) _) _)
    · have HC : cutF l r d = r := by unfold cutF; rw [if_neg hcut]
      have HT : Hid (Clk.told ⟨true, s, v, l⟩ r d = ⟨true, (7 * s + r) / 8, (3 * v + max (s - r) (r - s)) / 4, min l r⟩) := by
        show _ = _; unfold Clk.told; rw [if_neg (by omega)]; simp only [HC]; rfl
      clear HC
      go_enter Try.func10, Try.ntmps10
      go_wp2
      go_region
      go_wp2
      go_end0
      refine ⟨rfl, ?_, ?_⟩
      · rw [HT.out]
        exact setCell_block (setCell_block (setCell_block H.out))
      · exact grown_drew' (grown_setCell (grown_setCell (grown_setCell (grown_refl' _ _) _) _) _)

/-- The reference's clock at block b: how many samples it took stands in its last cell. -/
def RefAt (w : World) (b : Nat) (c : Clk) (n : Nat) : Prop := w.heap[b]? = some (.cells #[.int .i64 c.s, .int .i64 c.v, .int .i64 c.l, .int .i64 n] 31 (0, 0)) ∧ c.any = decide (0 < n)
theorem RefAt.below {w w' : World} {b : Nat} {c : Clk} {n : Nat} (h : RefAt w b c n) {B : Nat} (hb : Below B w w') (h1 : b < B) : RefAt w' b c n := ⟨(hb.block b h1).trans h.1, h.2⟩
theorem RefAt.lt {w : World} {b : Nat} {c : Clk} {n : Nat} (h : RefAt w b c n) : b < w.heap.size := lt_of_block h.1

theorem refNew_any (w : World) :
    Calls Try.prog 9 #[] w fun e w' => e = .returned (.pointer (some ⟨w.heap.size, 0, none⟩)) ∧ RefAt w' w.heap.size Clk.start 0 ∧ Below w.heap.size w w' ∧ w'.heap.size = w.heap.size + 1 := by
  go_enter Try.func9, Try.ntmps9
  go_wp2
  go_ret
  refine ⟨rfl, ⟨?_, rfl⟩, (Below.refl _ _).alloc (Nat.le_refl _) _, by simp⟩
  exact heap_alloc_new w _

set_option maxHeartbeats 800000 in
theorem refSample_any (b : Nat) (c : Clk) (n : Nat) (r d : Int) (w : World) (h : RefAt w b c n) (hc : c.ok) (hn : n < 1000000) :
    Calls Try.prog 11 #[.pointer (some ⟨b, 0, none⟩), .int .i64 r, .int .i64 d] w fun e w' => e = .returned (.tuple #[]) ∧ (∃ m, m ≤ n + 1 ∧ RefAt w' b (c.told r d) m) ∧ w.grownBy w' (some b) := by
  obtain ⟨hb, hany⟩ := h
  have c0 : w.cell? ⟨b, 0, none⟩ = some (.int .i64 c.s) := by simp [World.cell?, hb]
  have c1 : w.cell? ⟨b, 1, none⟩ = some (.int .i64 c.v) := by simp [World.cell?, hb]
  have c2 : w.cell? ⟨b, 2, none⟩ = some (.int .i64 c.l) := by simp [World.cell?, hb]
  have c3 : w.cell? ⟨b, 3, none⟩ = some (.int .i64 n) := by simp [World.cell?, hb]
  have f0 : w.frozen? ⟨b, 0, none⟩ = false := by simp [World.frozen?, hb]
  have f1 : w.frozen? ⟨b, 1, none⟩ = false := by simp [World.frozen?, hb]
  have f2 : w.frozen? ⟨b, 2, none⟩ = false := by simp [World.frozen?, hb]
  have f3 : w.frozen? ⟨b, 3, none⟩ = false := by simp [World.frozen?, hb]
  have H := Lib.hid hb
  have HA := Lib.hid hany
  clear hb hany
  obtain ⟨g1, g2, g3, g4, g5, g6⟩ := hc
  by_cases hr0 : 0 ≤ r
  case neg =>
    have HT : Hid (c.told r d = c) := by show _ = _; unfold Clk.told; rw [if_pos (by omega)]
    go_enter Try.func11, Try.ntmps11
    go_wp2
    refine bodyPost_ret (results_none rfl _ _ _) rfl ?_
    exact ⟨rfl, ⟨n, by omega, by rw [HT.out]; exact ⟨H.out, HA.out⟩⟩, grown_refl' _ _⟩
  by_cases hr1 : r ≤ 1048576
  case neg =>
    have HT : Hid (c.told r d = c) := by show _ = _; unfold Clk.told; rw [if_pos (by omega)]
    go_enter Try.func11, Try.ntmps11
    go_wp2
    refine bodyPost_ret (results_none rfl _ _ _) rfl ?_
    exact ⟨rfl, ⟨n, by omega, by rw [HT.out]; exact ⟨H.out, HA.out⟩⟩, grown_refl' _ _⟩
  by_cases hd0 : 0 ≤ d
  case neg =>
    have HT : Hid (c.told r d = c) := by show _ = _; unfold Clk.told; rw [if_pos (by omega)]
    go_enter Try.func11, Try.ntmps11
    go_wp2
    refine bodyPost_ret (results_none rfl _ _ _) rfl ?_
    exact ⟨rfl, ⟨n, by omega, by rw [HT.out]; exact ⟨H.out, HA.out⟩⟩, grown_refl' _ _⟩
  obtain ⟨any, s, v, l⟩ := c
  simp only at c0 c1 c2 c3 g1 g2 g3 g4 g5 g6
  by_cases hn0 : n = 0
  · subst hn0
    have hf : any = false := by simpa [Hid] using HA
    subst hf
    have HT : Hid (Clk.told ⟨false, s, v, l⟩ r d = ⟨true, r, r / 2, r⟩) := by show _ = _; unfold Clk.told; rw [if_neg (by omega)]; rfl
    go_enter Try.func11, Try.ntmps11
    go_wp2
    refine bodyPost_ret (results_none rfl _ _ _) rfl ?_
    refine ⟨rfl, ⟨1, by omega, ?_⟩, ?_⟩
    · rw [HT.out]
      exact ⟨setCell_block (setCell_block (setCell_block (setCell_block H.out))), rfl⟩
    · exact grown_setCell (grown_setCell (grown_setCell (grown_setCell (grown_refl' _ _) _) _) _) _
  · have hf : any = true := by have := HA.out; simp at this; rw [this]; simp; omega
    subst hf
    have hne : ((n : Int) + 1 == 1) = false := by simp; omega
    by_cases hcut : min l r ≤ r - min d 25
    · have HC : cutF l r d = r - min d 25 := by unfold cutF; rw [if_pos hcut]
      have HT : Hid (Clk.told ⟨true, s, v, l⟩ r d = ⟨true, (7 * s + (r - min d 25)) / 8, (3 * v + max (s - (r - min d 25)) (r - min d 25 - s)) / 4, min l r⟩) := by
        show _ = _; unfold Clk.told; rw [if_neg (by omega)]; simp only [HC]; rfl
      clear HC
      go_enter Try.func11, Try.ntmps11
      go_wp2
      go_region
      go_wp2
      go_end0
      refine ⟨rfl, ⟨n + 1, by omega, ?_⟩, ?_⟩
      · rw [HT.out]
        refine ⟨?_, by simp⟩
        exact setCell_block (setCell_block (setCell_block (setCell_block H.out)))
      · exact grown_drew' (grown_setCell (grown_setCell (grown_setCell (grown_setCell (grown_refl' _ _) _) _) _) _)
    · have HC : cutF l r d = r := by unfold cutF; rw [if_neg hcut]
      have HT : Hid (Clk.told ⟨true, s, v, l⟩ r d = ⟨true, (7 * s + r) / 8, (3 * v + max (s - r) (r - s)) / 4, min l r⟩) := by
        show _ = _; unfold Clk.told; rw [if_neg (by omega)]; simp only [HC]; rfl
      clear HC
      go_enter Try.func11, Try.ntmps11
      go_wp2
      go_region
      go_wp2
      go_end0
      refine ⟨rfl, ⟨n + 1, by omega, ?_⟩, ?_⟩
      · rw [HT.out]
        refine ⟨?_, by simp⟩
        exact setCell_block (setCell_block (setCell_block (setCell_block H.out)))
      · exact grown_drew' (grown_setCell (grown_setCell (grown_setCell (grown_setCell (grown_refl' _ _) _) _) _) _)

end Go.Proofs.Ytefabmpiimddoaa
