/- Contracts of the clock, and of the reference's. -/
import Derived.Test.YtefabmpiimddoaaProg
import Derived.Test.YtefabmpiimddoaaGen
import Derived.Lib.MinMax
namespace Go.Proofs.Ytefabmpiimddoaa
open Go.RowKit

/-- What a clock holds. -/
structure Clk where
  any : Bool
  s : Int
  v : Int
  l : Int

def Clk.start : Clk := ⟨false, 16, 8, 0⟩
/-- The time that counts. -/
def cutF (l rtt delay : Int) : Int := if min l rtt ≤ rtt - min delay 25 then rtt - min delay 25 else rtt
def Clk.told (c : Clk) (rtt delay : Int) : Clk :=
  if rtt < 0 ∨ 1048576 < rtt ∨ delay < 0 then c
  else if c.any then ⟨true, (7 * c.s + cutF c.l rtt delay) / 8, (3 * c.v + max (c.s - cutF c.l rtt delay) (cutF c.l rtt delay - c.s)) / 4, min c.l rtt⟩
  else ⟨true, rtt, rtt / 2, rtt⟩
def Clk.pto (c : Clk) (times : Int) : Int := if times ≤ 0 then min (max (c.s + max (4 * c.v) 1) 40) 64 else 64
/-- Its numbers are times. -/
structure Clk.ok (c : Clk) : Prop where
  s0 : 0 ≤ c.s
  s1 : c.s ≤ 1048576
  v0 : 0 ≤ c.v
  v1 : c.v ≤ 1048576
  l0 : 0 ≤ c.l
  l1 : c.l ≤ 1048576
theorem start_ok : Clk.start.ok := ⟨by decide, by decide, by decide, by decide, by decide, by decide⟩
theorem cutF_bd {l rtt delay : Int} (hl : 0 ≤ l) (h0 : 0 ≤ rtt) (hd : 0 ≤ delay) : 0 ≤ cutF l rtt delay ∧ cutF l rtt delay ≤ rtt ∧ min l rtt ≤ cutF l rtt delay := by
  unfold cutF; split <;> omega
theorem told_ok {c : Clk} (h : c.ok) (rtt delay : Int) : (c.told rtt delay).ok := by
  obtain ⟨h1, h2, h3, h4, h5, h6⟩ := h
  unfold Clk.told
  split
  · exact ⟨h1, h2, h3, h4, h5, h6⟩
  · rename_i hn
    split
    · obtain ⟨k1, k2, _⟩ := cutF_bd (l := c.l) (rtt := rtt) (delay := delay) (by omega) (by omega) (by omega)
      generalize cutF c.l rtt delay = r at *
      exact ⟨by simp; omega, by simp; omega, by simp; omega, by simp; omega, by simp; omega, by simp; omega⟩
    · exact ⟨by simp; omega, by simp; omega, by simp; omega, by simp; omega, by simp; omega, by simp; omega⟩

/-- The program's clock at block b. -/
def ClkAt (w : World) (b : Nat) (c : Clk) : Prop := w.heap[b]? = some (.cells #[.bool c.any, .int .i64 c.s, .int .i64 c.v, .int .i64 c.l] 39 (0, 0))

theorem new_any (w : World) :
    Calls Try.prog 8 #[] w fun e w' => e = .returned (.pointer (some ⟨w.heap.size, 0, none⟩)) ∧ ClkAt w' w.heap.size Clk.start ∧ Below w.heap.size w w' ∧ w'.heap.size = w.heap.size + 1 := by
  go_enter Try.func8, Try.ntmps8
  go_wp2
  go_ret
  refine ⟨rfl, ?_, (Below.refl _ _).alloc (Nat.le_refl _) _, by simp⟩
  exact heap_alloc_new w _

theorem ClkAt.below {w w' : World} {b : Nat} {c : Clk} (h : ClkAt w b c) {B : Nat} (hb : Below B w w') (h1 : b < B) : ClkAt w' b c := (hb.block b h1).trans h
theorem ClkAt.lt {w : World} {b : Nat} {c : Clk} (h : ClkAt w b c) : b < w.heap.size := lt_of_block h
theorem ClkAt.c0 {w : World} {b : Nat} {c : Clk} (h : ClkAt w b c) : w.cell? ⟨b, 0, none⟩ = some (.bool c.any) := by simp [World.cell?, show w.heap[b]? = _ from h]
theorem ClkAt.c1 {w : World} {b : Nat} {c : Clk} (h : ClkAt w b c) : w.cell? ⟨b, 1, none⟩ = some (.int .i64 c.s) := by simp [World.cell?, show w.heap[b]? = _ from h]
theorem ClkAt.c2 {w : World} {b : Nat} {c : Clk} (h : ClkAt w b c) : w.cell? ⟨b, 2, none⟩ = some (.int .i64 c.v) := by simp [World.cell?, show w.heap[b]? = _ from h]
theorem ClkAt.c3 {w : World} {b : Nat} {c : Clk} (h : ClkAt w b c) : w.cell? ⟨b, 3, none⟩ = some (.int .i64 c.l) := by simp [World.cell?, show w.heap[b]? = _ from h]

theorem smoothed_any (b : Nat) (c : Clk) (w : World) (h : ClkAt w b c) :
    Calls Try.prog 12 #[.pointer (some ⟨b, 0, none⟩)] w fun e w' => e = .returned (.int .i64 c.s) ∧ w = w' := by
  have h1 := h.c1
  clear h
  go_enter Try.func12, Try.ntmps12
  go_wp2
  go_ret
  exact ⟨rfl, rfl⟩
theorem varies_any (b : Nat) (c : Clk) (w : World) (h : ClkAt w b c) :
    Calls Try.prog 13 #[.pointer (some ⟨b, 0, none⟩)] w fun e w' => e = .returned (.int .i64 c.v) ∧ w = w' := by
  have h1 := h.c2
  clear h
  go_enter Try.func13, Try.ntmps13
  go_wp2
  go_ret
  exact ⟨rfl, rfl⟩
theorem least_any (b : Nat) (c : Clk) (w : World) (h : ClkAt w b c) :
    Calls Try.prog 14 #[.pointer (some ⟨b, 0, none⟩)] w fun e w' => e = .returned (.int .i64 c.l) ∧ w = w' := by
  have h1 := h.c3
  clear h
  go_enter Try.func14, Try.ntmps14
  go_wp2
  go_ret
  exact ⟨rfl, rfl⟩
theorem smoothed_nil (w : World) :
    Calls Try.prog 12 #[.pointer none] w fun e w' => e = .returned (.int .i64 0) ∧ w = w' := by
  go_enter Try.func12, Try.ntmps12
  go_wp2
  go_ret
  exact ⟨rfl, rfl⟩
theorem pto_nil (t : Int) (w : World) :
    Calls Try.prog 15 #[.pointer none, .int .i64 t] w fun e w' => e = .returned (.int .i64 0) ∧ w = w' := by
  go_enter Try.func15, Try.ntmps15
  go_wp2
  go_ret
  exact ⟨rfl, rfl⟩
theorem sample_nil (r d : Int) (w : World) :
    Calls Try.prog 10 #[.pointer none, .int .i64 r, .int .i64 d] w fun e w' => e = .returned (.tuple #[]) ∧ w = w' := by
  go_enter Try.func10, Try.ntmps10
  go_wp2
  refine bodyPost_ret (results_none rfl _ _ _) rfl ?_
  exact ⟨rfl, rfl⟩

theorem shl_zero (n : Int) (h0 : 40 ≤ n) (h1 : n ≤ 8000000) (k : Int) (hk : k = 0) : wrap64 (n * 2 ^ k.toNat) = n := by
  subst hk
  simp
  exact IntWalk.wrap64_in _ ⟨by omega, by omega⟩
theorem shl_big (n : Int) (h0 : 40 ≤ n) (h1 : n ≤ 8000000) (k : Int) (hk : 1 ≤ k) (hk2 : k ≤ 10) : min (wrap64 (n * 2 ^ k.toNat)) 64 = 64 := by
  have hk' : k = 1 ∨ k = 2 ∨ k = 3 ∨ k = 4 ∨ k = 5 ∨ k = 6 ∨ k = 7 ∨ k = 8 ∨ k = 9 ∨ k = 10 := by omega
  rcases hk' with rfl | rfl | rfl | rfl | rfl | rfl | rfl | rfl | rfl | rfl
  all_goals
    simp
    rw [IntWalk.wrap64_in _ ⟨by omega, by omega⟩]
    omega

theorem pto_any (b : Nat) (c : Clk) (t : Int) (w : World) (h : ClkAt w b c) (hc : c.ok) :
    Calls Try.prog 15 #[.pointer (some ⟨b, 0, none⟩), .int .i64 t] w fun e w' => e = .returned (.int .i64 (c.pto t)) ∧ ∃ n, w' = w.drewN n := by
  have h1 := h.c1
  have h2 := h.c2
  obtain ⟨g1, g2, g3, g4, _, _⟩ := hc
  clear h
  obtain ⟨n, hn⟩ := name_it (max (c.s + max (4 * c.v) 1) 40)
  have n1 : 40 ≤ n := by rw [hn.out]; omega
  have n2 : n ≤ 8000000 := by rw [hn.out]; omega
  obtain ⟨k, hk⟩ := name_it (min (max t 0) 10)
  have k1 : 0 ≤ k := by rw [hk.out]; omega
  have k2 : k ≤ 10 := by rw [hk.out]; omega
  have hp : Hid (min (wrap64 (n * 2 ^ k.toNat)) 64 = c.pto t) := by
    show _ = _
    unfold Clk.pto
    by_cases ht : t ≤ 0
    · rw [if_pos ht, shl_zero n n1 n2 k (by rw [hk.out]; omega), hn.out]
    · rw [if_neg ht, shl_big n n1 n2 k (by rw [hk.out]; omega) k2]
  have hn' := hn.out.symm
  have hk' := hk.out.symm
  go_enter Try.func15, Try.ntmps15
  go_wp2
  go_quiet (fail)
  go_wp2
  go_ret
  exact ⟨ret_int hp.out, _, rfl⟩

end Go.Proofs.Ytefabmpiimddoaa
