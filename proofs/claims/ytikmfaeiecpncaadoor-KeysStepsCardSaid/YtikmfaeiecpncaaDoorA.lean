/- Turning a word: the library's, the program's, the reference's. -/
import Derived.Test.YtikmfaeiecpncaaDoorProg
import Derived.Test.YtikmfaeiecpncaaDoorW
namespace Go.Proofs.YtikmfaeiecpncaaDoor
open Go.RowKit

theorem turn_any (x : BitVec 32) (n : Nat) (w : World) (h1 : 1 ≤ n) (h2 : n ≤ 31) :
    Calls Tryd.prog 57 #[.int .u32 (V x), .int .i64 n] w fun e w' => e = .returned (.int .u32 (V (rot x n))) ∧ ∃ m, w' = w.drewN m := by
  have e1 : V x * 2 ^ (32 - n) % 4294967296 = V (x <<< (32 - n)) := by rw [← V_shl, IntKind.wrap_u32']
  have e2 : V x / 2 ^ n = V (x >>> n) := V_shr x n
  have e3 : bits .or .u32 (V (x >>> n)) (V (x <<< (32 - n))) = V (rot x n) := V_or _ _
  go_enter Tryd.func57, Tryd.ntmps57
  go_wp2
  go_quiet (fail)
  go_wp2
  go_ret
  exact ⟨rfl, _, rfl⟩

theorem and31 (n : Nat) (h1 : 1 ≤ n) (h2 : n ≤ 31) : bits .and .u64 (IntKind.u64.wrap (-(n : Int))) 31 = 32 - (n : Int) := by
  have e : IntKind.u64.wrap (-(n : Int)) = 18446744073709551616 - n := by rw [IntKind.wrap_u64]; omega
  rw [e]
  have := bits_mask .u64 64 (by decide) (fun m h0 h1 => by rw [IntKind.wrap_u64]; omega) 5 (by decide) (18446744073709551616 - (n : Int)) (by omega) (by omega)
  rw [show (31 : Int) = 2 ^ 5 - 1 by decide, this]
  omega

theorem rotl_any (x : BitVec 32) (n : Nat) (w : World) (h1 : 1 ≤ n) (h2 : n ≤ 31) :
    Calls Tryd.prog 58 #[.int .u32 (V x), .int .i64 (-n)] w fun e w' => e = .returned (.int .u32 (V (rot x n))) ∧ w = w' := by
  have hb := and31 n h1 h2
  have e1 : V x * 2 ^ (32 - n) % 4294967296 = V (x <<< (32 - n)) := by rw [← V_shl, IntKind.wrap_u32']
  have e2 : V x / 2 ^ (32 - (32 - n)) = V (x >>> n) := by rw [show 32 - (32 - n) = n by omega]; exact V_shr x n
  have e3 : bits .or .u32 (V (x <<< (32 - n))) (V (x >>> n)) = V (rot x n) := by rw [V_or, BitVec.or_comm]; rfl
  go_enter Tryd.func58, Tryd.ntmps58
  go_wp2
  go_ret
  exact ⟨rfl, rfl⟩

theorem right_any (x : BitVec 32) (n : Nat) (w : World) (h1 : 1 ≤ n) (h2 : n ≤ 31) :
    Calls Tryd.prog 52 #[.int .u32 (V x), .int .i64 n] w fun e w' => e = .returned (.int .u32 (V (rot x n))) ∧ w = w' := by
  go_enter Tryd.func52, Tryd.ntmps52
  go_wp2_with fail
  refine (rotl_any x n w h1 h2).mono ?_
  rintro e w1 ⟨rfl, rfl⟩
  go_wp2
  go_ret
  exact ⟨rfl, rfl⟩
end Go.Proofs.YtikmfaeiecpncaaDoor
