/- Contracts of the credit, and of the reference's. -/
import Derived.Test.YtamhoglfdfbgpaaProg
import Derived.Test.YtamhoglfdfbgpaaGen
import Derived.Lib.MinMax
namespace Go.Proofs.Ytamhoglfdfbgpaa
open Go.RowKit

/-- What a credit holds: window, limit, taken, read. -/
structure Cr where
  w : Int
  l : Int
  t : Int
  r : Int
structure Cr.ok (c : Cr) : Prop where
  w0 : 1 ≤ c.w
  w1 : c.w ≤ 1048576
  l0 : c.w ≤ c.l
  l1 : c.l ≤ 1099511627776
  t0 : 0 ≤ c.t
  t1 : c.t ≤ c.l
  r0 : 0 ≤ c.r
  r1 : c.r ≤ 549755813888
def Cr.start (w : Int) : Cr := ⟨w, w, 0, 0⟩
theorem start_ok {w : Int} (h0 : 1 ≤ w) (h1 : w ≤ 1048576) : (Cr.start w).ok :=
  ⟨h0, h1, Int.le_refl _, by simp [Cr.start]; omega, Int.le_refl _, by simp [Cr.start]; omega, Int.le_refl _, by simp [Cr.start]⟩
def Cr.mayTake (c : Cr) (n : Int) : Bool := decide (0 ≤ n) && decide (n ≤ c.l - c.t)
def Cr.take (c : Cr) (n : Int) : Cr := if c.mayTake n then { c with t := c.t + n } else c
def Cr.mayRaise (c : Cr) (k : Int) : Bool := decide (c.l < k) && decide (k ≤ 1099511627776)
def Cr.raise (c : Cr) (k : Int) : Cr := if c.mayRaise k then { c with l := k } else c
def Cr.seen (c : Cr) (n : Int) : Int := max c.r (min n 549755813888)
def Cr.more (c : Cr) (n : Int) : Bool := decide (c.l < c.seen n + c.w) && decide (c.w / 2 ≤ c.seen n + c.w - c.l)
def Cr.read (c : Cr) (n : Int) : Cr := if c.more n then { c with r := c.seen n, l := c.seen n + c.w } else { c with r := c.seen n }

theorem take_ok {c : Cr} (h : c.ok) (n : Int) : (c.take n).ok := by
  obtain ⟨h1, h2, h3, h4, h5, h6, h7, h8⟩ := h
  unfold Cr.take
  split
  · rename_i hm
    simp [Cr.mayTake] at hm
    exact ⟨h1, h2, h3, h4, by simp; omega, by simp; omega, h7, h8⟩
  · exact ⟨h1, h2, h3, h4, h5, h6, h7, h8⟩
theorem raise_ok {c : Cr} (h : c.ok) (k : Int) : (c.raise k).ok := by
  obtain ⟨h1, h2, h3, h4, h5, h6, h7, h8⟩ := h
  unfold Cr.raise
  split
  · rename_i hm
    simp [Cr.mayRaise] at hm
    exact ⟨h1, h2, by simp; omega, by simp; omega, h5, by simp; omega, h7, h8⟩
  · exact ⟨h1, h2, h3, h4, h5, h6, h7, h8⟩
theorem seen_bd {c : Cr} (h : c.ok) (n : Int) : 0 ≤ c.seen n ∧ c.seen n ≤ 549755813888 ∧ c.r ≤ c.seen n := by
  obtain ⟨h1, h2, h3, h4, h5, h6, h7, h8⟩ := h
  unfold Cr.seen; omega
theorem read_ok {c : Cr} (h : c.ok) (n : Int) : (c.read n).ok := by
  obtain ⟨s1, s2, s3⟩ := seen_bd h n
  obtain ⟨h1, h2, h3, h4, h5, h6, h7, h8⟩ := h
  unfold Cr.read
  split
  · rename_i hm
    simp [Cr.more] at hm
    exact ⟨h1, h2, by simp; omega, by simp; omega, h5, by simp; omega, by simp; omega, by simp; omega⟩
  · exact ⟨h1, h2, h3, h4, h5, h6, by simp; omega, by simp; omega⟩

/-- A credit at block b (of the program: type 42; of the reference: type 35). -/
def CrAt (ty : TypeId) (w : World) (b : Nat) (c : Cr) : Prop := w.heap[b]? = some (.cells #[.int .i64 c.w, .int .i64 c.l, .int .i64 c.t, .int .i64 c.r] ty (0, 0))
section
variable {ty : TypeId} {w : World} {b : Nat} {c : Cr}
theorem CrAt.below {w' : World} (h : CrAt ty w b c) {B : Nat} (hb : Below B w w') (h1 : b < B) : CrAt ty w' b c := (hb.block b h1).trans h
theorem CrAt.grown {w' : World} {row : Option Nat} (h : CrAt ty w b c) (hg : w.grownBy w' row) (h1 : some b ≠ row) : CrAt ty w' b c := (hg.block b (lt_of_block h) h1).trans h
theorem CrAt.lt (h : CrAt ty w b c) : b < w.heap.size := lt_of_block h
theorem CrAt.c0 (h : CrAt ty w b c) : w.cell? ⟨b, 0, none⟩ = some (.int .i64 c.w) := by simp [World.cell?, show w.heap[b]? = _ from h]
theorem CrAt.c1 (h : CrAt ty w b c) : w.cell? ⟨b, 1, none⟩ = some (.int .i64 c.l) := by simp [World.cell?, show w.heap[b]? = _ from h]
theorem CrAt.c2 (h : CrAt ty w b c) : w.cell? ⟨b, 2, none⟩ = some (.int .i64 c.t) := by simp [World.cell?, show w.heap[b]? = _ from h]
theorem CrAt.c3 (h : CrAt ty w b c) : w.cell? ⟨b, 3, none⟩ = some (.int .i64 c.r) := by simp [World.cell?, show w.heap[b]? = _ from h]
theorem CrAt.fr (h : CrAt ty w b c) (j : Nat) : w.frozen? ⟨b, j, none⟩ = false := by simp [World.frozen?, show w.heap[b]? = _ from h]
end
theorem setCell_block {w : World} {b o : Nat} {cs : Array Value} {t : TypeId} {v : Value} (h : w.heap[b]? = some (.cells cs t (0, 0))) :
    (w.setCell ⟨b, o, none⟩ v).heap[b]? = some (.cells (cs.setIfInBounds o v) t (0, 0)) := by
  have hlt := lt_of_block h
  have h' : w.heap[b] = .cells cs t (0, 0) := by simpa [Array.getElem?_eq_getElem hlt] using h
  show (w.heap.modify b _)[b]? = _
  rw [Array.getElem?_eq_getElem (by simpa using hlt), Array.getElem_modify_self, h']
  rfl
theorem grown_setCell {a w : World} {b o : Nat} (h : a.grownBy w (some b)) (v : Value) : a.grownBy (w.setCell ⟨b, o, none⟩ v) (some b) :=
  ⟨h.os, h.tape, h.output, by simpa [World.setCell] using h.size, fun i hi hne => (Below.heap_setCell w _ v i (by rintro rfl; exact hne rfl)).trans (h.block i hi hne)⟩
theorem grown_drewN {a w : World} {row : Option Nat} (h : a.grownBy w row) (n : Nat) : a.grownBy (w.drewN n) row := ⟨h.os, h.tape, h.output, h.size, h.block⟩
theorem grown_drew {a w : World} {row : Option Nat} (h : a.grownBy w row) : a.grownBy w.drew row := ⟨h.os, h.tape, h.output, h.size, h.block⟩
theorem grown_refl (w : World) (row : Option Nat) : w.grownBy w row := ⟨rfl, rfl, rfl, Nat.le_refl _, fun _ _ _ => rfl⟩

theorem new_any (n : Int) (w : World) (h0 : 1 ≤ n) (h1 : n ≤ 1048576) :
    Calls Try.prog 8 #[.int .i64 n] w fun e w' => e = .returned (.pointer (some ⟨w.heap.size, 0, none⟩)) ∧ CrAt 42 w' w.heap.size (Cr.start n) ∧ Below w.heap.size w w' ∧ w'.heap.size = w.heap.size + 1 := by
  go_enter Try.func8, Try.ntmps8
  go_wp2
  go_ret
  refine ⟨rfl, ?_, (Below.refl _ _).alloc (Nat.le_refl _) _, by simp⟩
  exact heap_alloc_new w _
theorem new_no (n : Int) (w : World) (h : n < 1 ∨ 1048576 < n) :
    Calls Try.prog 8 #[.int .i64 n] w fun e w' => e = .returned (.pointer none) ∧ w = w' := by
  by_cases h0 : n < 1
  · go_enter Try.func8, Try.ntmps8
    go_wp2
    go_ret
    exact ⟨rfl, rfl⟩
  · have h1 : 1048576 < n := by omega
    clear h
    go_enter Try.func8, Try.ntmps8
    go_wp2
    go_ret
    exact ⟨rfl, rfl⟩
theorem refNew_any (n : Int) (w : World) (h0 : 1 ≤ n) (h1 : n ≤ 1048576) :
    Calls Try.prog 9 #[.int .i64 n] w fun e w' => e = .returned (.pointer (some ⟨w.heap.size, 0, none⟩)) ∧ CrAt 35 w' w.heap.size (Cr.start n) ∧ Below w.heap.size w w' ∧ w'.heap.size = w.heap.size + 1 := by
  go_enter Try.func9, Try.ntmps9
  go_wp2
  go_ret
  refine ⟨rfl, ?_, (Below.refl _ _).alloc (Nat.le_refl _) _, by simp⟩
  exact heap_alloc_new w _
theorem refNew_no (n : Int) (w : World) (h : n < 1 ∨ 1048576 < n) :
    Calls Try.prog 9 #[.int .i64 n] w fun e w' => e = .returned (.pointer none) ∧ w = w' := by
  by_cases h0 : n < 1
  · go_enter Try.func9, Try.ntmps9
    go_wp2
    go_ret
    exact ⟨rfl, rfl⟩
  · have h1 : 1048576 < n := by omega
    clear h
    go_enter Try.func9, Try.ntmps9
    go_wp2
    go_ret
    exact ⟨rfl, rfl⟩

theorem limit_any (b : Nat) (c : Cr) (w : World) (h : CrAt 42 w b c) :
    Calls Try.prog 17 #[.pointer (some ⟨b, 0, none⟩)] w fun e w' => e = .returned (.int .i64 c.l) ∧ w = w' := by
  have h1 := h.c1
  clear h
  go_enter Try.func17, Try.ntmps17
  go_wp2
  go_ret
  exact ⟨rfl, rfl⟩
theorem room_any (b : Nat) (c : Cr) (w : World) (h : CrAt 42 w b c) (hc : c.ok) :
    Calls Try.prog 11 #[.pointer (some ⟨b, 0, none⟩)] w fun e w' => e = .returned (.int .i64 (c.l - c.t)) ∧ ∃ n, w' = w.drewN n := by
  have h1 := h.c1
  have h2 := h.c2
  obtain ⟨_, _, g1, g2, g3, g4, _, _⟩ := hc
  clear h
  go_enter Try.func11, Try.ntmps11
  go_wp2
  go_quiet (fail)
  go_wp2
  go_ret
  exact ⟨rfl, _, rfl⟩
theorem room_nil (w : World) :
    Calls Try.prog 11 #[.pointer none] w fun e w' => e = .returned (.int .i64 0) ∧ w = w' := by
  go_enter Try.func11, Try.ntmps11
  go_wp2
  go_ret
  exact ⟨rfl, rfl⟩
theorem take_nil (n : Int) (w : World) :
    Calls Try.prog 10 #[.pointer none, .int .i64 n] w fun e w' => e = .returned (.bool false) ∧ w = w' := by
  go_enter Try.func10, Try.ntmps10
  go_wp2
  go_ret
  exact ⟨rfl, rfl⟩
theorem raise_nil (n : Int) (w : World) :
    Calls Try.prog 12 #[.pointer none, .int .i64 n] w fun e w' => e = .returned (.bool false) ∧ w = w' := by
  go_enter Try.func12, Try.ntmps12
  go_wp2
  go_ret
  exact ⟨rfl, rfl⟩

theorem take_any (b : Nat) (c : Cr) (n : Int) (w : World) (h : CrAt 42 w b c) (hc : c.ok) :
    Calls Try.prog 10 #[.pointer (some ⟨b, 0, none⟩), .int .i64 n] w fun e w' => e = .returned (.bool (c.mayTake n)) ∧ CrAt 42 w' b (c.take n) ∧ w.grownBy w' (some b) := by
  by_cases h0 : 0 ≤ n
  · by_cases h1 : n ≤ c.l - c.t
    · have HT : Hid (c.mayTake n = true) := by simp [Hid, Cr.mayTake, h0, h1]
      have HC : Hid (c.take n = { c with t := c.t + n }) := by show _ = _; unfold Cr.take; rw [if_pos HT.out]
      have H := Lib.hid h
      clear h
      go_enter Try.func10, Try.ntmps10
      go_wp2_with fail
      refine (room_any b c _ H.out hc).mono ?_
      rintro e w1 ⟨rfl, m, rfl⟩
      have H' : CrAt 42 (w.drewN m) b c := H.out
      have g : w.grownBy (w.drewN m) (some b) := grown_drewN (grown_refl _ _) m
      generalize w.drewN m = w1 at H' g ⊢
      have h2 := H'.c2
      have f2 := H'.fr 2
      have H' := Lib.hid H'
      obtain ⟨_, _, g1, g2, g3, g4, _, _⟩ := hc
      go_wp2
      go_ret
      refine ⟨ret_bool HT.out.symm, ?_, grown_setCell g _⟩
      rw [HC.out]
      exact setCell_block H'.out
    · have HT : Hid (c.mayTake n = false) := by simp [Hid, Cr.mayTake, h1]
      have HC : Hid (c.take n = c) := by show _ = _; unfold Cr.take; rw [if_neg (by rw [HT.out]; simp)]
      have H := Lib.hid h
      clear h
      go_enter Try.func10, Try.ntmps10
      go_wp2_with fail
      refine (room_any b c _ H.out hc).mono ?_
      rintro e w1 ⟨rfl, m, rfl⟩
      go_wp2
      go_ret
      exact ⟨ret_bool HT.out.symm, by rw [HC.out]; exact H.out, grown_drewN (grown_refl _ _) m⟩
  · have HT : Hid (c.mayTake n = false) := by simp [Hid, Cr.mayTake, h0]
    have HC : Hid (c.take n = c) := by show _ = _; unfold Cr.take; rw [if_neg (by rw [HT.out]; simp)]
    have H := Lib.hid h
    clear h
    go_enter Try.func10, Try.ntmps10
    go_wp2
    go_ret
    exact ⟨ret_bool HT.out.symm, by rw [HC.out]; exact H.out, grown_refl _ _⟩

theorem raise_any (b : Nat) (c : Cr) (n : Int) (w : World) (h : CrAt 42 w b c) :
    Calls Try.prog 12 #[.pointer (some ⟨b, 0, none⟩), .int .i64 n] w fun e w' => e = .returned (.bool (c.mayRaise n)) ∧ CrAt 42 w' b (c.raise n) ∧ w.grownBy w' (some b) := by
  have h1 := h.c1
  have f1 := h.fr 1
  have H := Lib.hid h
  clear h
  by_cases h0 : c.l < n
  · by_cases h2 : n ≤ 1099511627776
    · have HT : Hid (c.mayRaise n = true) := by simp [Hid, Cr.mayRaise, h0, h2]
      have HC : Hid (c.raise n = { c with l := n }) := by show _ = _; unfold Cr.raise; rw [if_pos HT.out]
      go_enter Try.func12, Try.ntmps12
      go_wp2
      go_ret
      refine ⟨ret_bool HT.out.symm, ?_, grown_setCell (grown_refl _ _) _⟩
      rw [HC.out]
      exact setCell_block H.out
    · have HT : Hid (c.mayRaise n = false) := by simp [Hid, Cr.mayRaise, h2]
      have HC : Hid (c.raise n = c) := by show _ = _; unfold Cr.raise; rw [if_neg (by rw [HT.out]; simp)]
      go_enter Try.func12, Try.ntmps12
      go_wp2
      go_ret
      exact ⟨ret_bool HT.out.symm, by rw [HC.out]; exact H.out, grown_refl _ _⟩
  · have HT : Hid (c.mayRaise n = false) := by simp [Hid, Cr.mayRaise, h0]
    have HC : Hid (c.raise n = c) := by show _ = _; unfold Cr.raise; rw [if_neg (by rw [HT.out]; simp)]
    go_enter Try.func12, Try.ntmps12
    go_wp2
    go_ret
    exact ⟨ret_bool HT.out.symm, by rw [HC.out]; exact H.out, grown_refl _ _⟩

end Go.Proofs.Ytamhoglfdfbgpaa
