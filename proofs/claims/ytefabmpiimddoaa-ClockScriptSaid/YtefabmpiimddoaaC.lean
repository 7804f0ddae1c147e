/- The reference's PTO; what every program answers. -/
import Derived.Test.YtefabmpiimddoaaB
namespace Go.Proofs.Ytefabmpiimddoaa
open Go.RowKit

theorem low_arith (x n : Int) (hn : 0 < n) (hn2 : n < 9223372036854775807) : wrap64 ((IntKind.u64.wrap x).tmod n) = x % 18446744073709551616 % n := by
  have e : IntKind.u64.wrap x = x % 18446744073709551616 := by simp [IntKind.wrap, IntKind.signed, IntKind.bits]
  rw [e, Int.tmod_eq_emod_of_nonneg (by omega)]
  have h1 := Int.emod_nonneg (x % 18446744073709551616) (show n ≠ 0 by omega)
  have h2 := Int.emod_lt_of_pos (x % 18446744073709551616) hn
  exact IntWalk.wrap64_in _ ⟨by omega, by omega⟩
def lowF (x n : Int) : Int := (x % 18446744073709551616) % n
theorem lowF_bd (x n : Int) (hn : 0 < n) : 0 ≤ lowF x n ∧ lowF x n < n := ⟨Int.emod_nonneg _ (by omega), Int.emod_lt_of_pos _ hn⟩
theorem low_name (x n : Int) (hn : 0 < n) : ∃ r, Hid (lowF x n = r) ∧ 0 ≤ r ∧ r < n := ⟨_, rfl, lowF_bd x n hn⟩
theorem low_r (x n r : Int) (w : World) (hr : Hid (lowF x n = r)) (hn : 0 < n) (hn2 : n < 9223372036854775807) :
    Calls Try.prog 17 #[.int .i64 x, .int .i64 n] w fun e w' => e = .returned (.int .i64 r) ∧ w = w' := by
  have H := Lib.hid (low_arith x n hn hn2)
  go_enter Try.func17, Try.ntmps17
  go_wp2
  go_ret
  exact ⟨ret_int (H.out.trans hr.out), rfl⟩

set_option maxHeartbeats 400000 in
theorem refPto_any (b : Nat) (c : Clk) (q : Nat) (t : Int) (w : World) (h : RefAt w b c q) (hc : c.ok) :
    Calls Try.prog 16 #[.pointer (some ⟨b, 0, none⟩), .int .i64 t] w fun e w' => e = .returned (.int .i64 (c.pto t)) ∧ ∃ n, w' = w.drewN n := by
  have h1 : w.cell? ⟨b, 0, none⟩ = some (.int .i64 c.s) := by simp [World.cell?, h.1]
  have h2 : w.cell? ⟨b, 1, none⟩ = some (.int .i64 c.v) := by simp [World.cell?, h.1]
  obtain ⟨g1, g2, g3, g4, _, _⟩ := hc
  clear h
  obtain ⟨n, hn⟩ := name_it (max (c.s + max (4 * c.v) 1) 40)
  have n1 : 40 ≤ n := by rw [hn.out]; omega
  have n2 : n ≤ 8000000 := by rw [hn.out]; omega
  have hn' := hn.out.symm
  have HP : Hid (c.pto t = if t ≤ 0 then min n 64 else 64) := by show _ = _; rw [hn.out]; rfl
  go_enter Try.func16, Try.ntmps16
  go_wp2
  go_quiet (fail)
  go_wp2
  go_loopw [6, 5] (fun i m wr => ∃ (k : Nat) (x : Int), k ≤ 10 ∧ i = .int .i64 k ∧ m = .int .i64 x ∧ 40 ≤ x ∧ x ≤ 8000000 * 2 ^ k ∧ (k = 0 → x = n) ∧ (1 ≤ k → 80 ≤ x ∧ 1 ≤ t) ∧ ∃ j, wr = w.drewN j) (fun i _ _ => 10 - (intOf i).toNat)
  case atStart => exact ⟨0, n, by omega, rfl, rfl, by omega, by omega, fun _ => rfl, by omega, _, rfl⟩
  case round =>
    obtain ⟨k, x, hk, rfl, rfl, hx1, hx2, hx3, hx4, j, rfl⟩ := hrel
    have hx3 := Lib.hid hx3
    have hx4 := Lib.hid hx4
    by_cases hin : (k : Int) < min t 10
    · have hx5 : x ≤ 8000000 * 512 := by
        have : k ≤ 9 := by omega
        have h3 : (2 : Int) ^ k ≤ 2 ^ 9 := by exact_mod_cast Nat.pow_le_pow_right (by decide) this
        omega
      have hx6 : Hid (x * 2 ≤ 8000000 * 2 ^ (k + 1)) := by
        show _ ≤ _
        rw [Int.pow_succ]; omega
      clear hx2
      go_wp2
      go_roundw
      case rel => exact ⟨k + 1, x * 2, by omega, by go_num, rfl, by omega, hx6.out, by omega, fun _ => ⟨by omega, by omega⟩, _, rfl⟩
      case measure => simp [intOf]; omega
    · have HR : Hid (min x 64 = c.pto t) := by
        show _ = _
        rw [HP.out]
        have a3 := hx3.out
        have a4 := hx4.out
        by_cases ht : t ≤ 0
        · rw [if_pos ht]
          by_cases hk0 : k = 0
          · rw [a3 hk0]
          · have := (a4 (by omega)).2; omega
        · rw [if_neg ht]
          have := (a4 (by omega)).1
          omega
      clear hx2
      go_wp2
      go_ret
      exact ⟨ret_int HR.out, _, rfl⟩

end Go.Proofs.Ytefabmpiimddoaa
