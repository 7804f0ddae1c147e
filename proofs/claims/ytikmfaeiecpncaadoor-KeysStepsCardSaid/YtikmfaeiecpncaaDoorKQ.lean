/- Facts on digests that the kernel works out. -/
import Derived.Test.YtikmfaeiecpncaaDoorKK
namespace Go.Proofs.YtikmfaeiecpncaaDoor
open Go Go.RowKit

theorem aw_reset : (resetL [97] [] == zb 16) = false := by kernel_rfl
theorem aw_first : (packetL (lab (mac [100] [107]) ⟨#[99, 108, 105, 101, 110, 116, 32, 105, 110]⟩ [] 32) == packetL (lab (mac [100] [107]) ⟨#[115, 101, 114, 118, 101, 114, 32, 105, 110]⟩ [] 32)) = false := by kernel_rfl
theorem aw_data : (dataL [107] [104] 0 == dataL [107] [104] 1) = false := by kernel_rfl
end Go.Proofs.YtikmfaeiecpncaaDoor
