/- Words of 32 bits, as the model's integers; and how numbers are laid in blocks. -/
import Derived.Test.YtikmfaeiecpncaaDoorGen
import Derived.Laws.BitsAllLaws
namespace Go.Proofs.YtikmfaeiecpncaaDoor
open Go.RowKit

/-- A word as the model's integer. -/
def V (x : BitVec 32) : Int := (x.toNat : Int)
theorem V_ge (x : BitVec 32) : 0 ≤ V x := by unfold V; omega
theorem V_lt (x : BitVec 32) : V x < 4294967296 := by unfold V; have := x.isLt; omega
theorem V_inj {x y : BitVec 32} (h : V x = V y) : x = y := BitVec.eq_of_toNat_eq (by unfold V at h; omega)
theorem ofInt_V (x : BitVec 32) : BitVec.ofInt 32 (V x) = x := by unfold V; rw [BitVec.ofInt_natCast]; simp
theorem wrap_V (x : BitVec 32) : IntKind.u32.wrap (V x) = V x := by rw [IntKind.wrap_u32']; have := V_ge x; have := V_lt x; omega
theorem V_xor (a b : BitVec 32) : bits .xor .u32 (V a) (V b) = V (a ^^^ b) := by
  show IntKind.u32.wrap ((BitVec.ofInt 32 (V a) ^^^ BitVec.ofInt 32 (V b)).toNat : Int) = _
  rw [ofInt_V, ofInt_V]; exact wrap_V _
theorem V_and (a b : BitVec 32) : bits .and .u32 (V a) (V b) = V (a &&& b) := by
  show IntKind.u32.wrap ((BitVec.ofInt 32 (V a) &&& BitVec.ofInt 32 (V b)).toNat : Int) = _
  rw [ofInt_V, ofInt_V]; exact wrap_V _
theorem V_or (a b : BitVec 32) : bits .or .u32 (V a) (V b) = V (a ||| b) := by
  show IntKind.u32.wrap ((BitVec.ofInt 32 (V a) ||| BitVec.ofInt 32 (V b)).toNat : Int) = _
  rw [ofInt_V, ofInt_V]; exact wrap_V _
theorem V_not (a : BitVec 32) : bits .xor .u32 4294967295 (V a) = V (~~~a) := by
  show IntKind.u32.wrap ((BitVec.ofInt 32 4294967295 ^^^ BitVec.ofInt 32 (V a)).toNat : Int) = _
  rw [ofInt_V, show BitVec.ofInt 32 4294967295 = BitVec.allOnes 32 by decide, BitVec.allOnes_xor]; exact wrap_V _
theorem V_add (a b : BitVec 32) : IntKind.u32.wrap (V a + V b) = V (a + b) := by
  rw [IntKind.wrap_u32']; unfold V; rw [BitVec.toNat_add]; omega
theorem V_shr (a : BitVec 32) (n : Nat) : V a / 2 ^ n = V (a >>> n) := by
  unfold V; rw [BitVec.toNat_ushiftRight, Nat.shiftRight_eq_div_pow]; simp
theorem V_shl (a : BitVec 32) (n : Nat) : IntKind.u32.wrap (V a * 2 ^ n) = V (a <<< n) := by
  rw [IntKind.wrap_u32']; unfold V; rw [BitVec.toNat_shiftLeft, Nat.shiftLeft_eq]; simp
def rot (x : BitVec 32) (k : Nat) : BitVec 32 := (x >>> k) ||| (x <<< (32 - k))
end Go.Proofs.YtikmfaeiecpncaaDoor
