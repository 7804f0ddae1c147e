/-
  No cell of these rows narrows 'for every input' (looked for: loops, veiled, ifaces, maps, wideKeys, modest, calm, conditions, laid).
  DERIVED. THE GIVEN ROWS OF THIS SEAT. 4 by the template 'for every input the law returns true; each argument reads behind the call as it read before'; 0 by the template 'total and deterministic' (their statements: YtamhoglfdfbgpaaTotals.lean).
  GIVEN WITH THE SEED: the statements are not yours to turn. If you find one false, say at which input.
  Laid BY PROGRAM, IN A SANDBOX (cutbox-rows.mjs): the forced cells as the released guide's own fill.sh prints them over the translation d02bb43f6ba1657e… (all of the seat's roots in one cut). By AI agents, Wed Nov 11 2026. No macro, syntax, notation, axiom, sorry.
-/
import Derived.Test.YtamhoglfdfbgpaaChecked
import GoSem.Claim
import GoSem.ClaimJoined
import GoSem.ClaimMapViews
import Derived.JoinedTies
import Derived.KernelRfl
namespace Go.Proofs.Ytamhoglfdfbgpaa
/- THE CELL 'sum', in the pinned program and in every row, IS THE sha256 OF THE DUMP (.gsa) THAT YtamhoglfdfbgpaaProg.lean LOADS. Nothing in Lean hashes anything: it is a label: what it is worth is what the hold of that sum in a sandbox is worth. -/
noncomputable def Try.pinned : Pinned := { name := "ytamhoglfdfbgpaa", sum := "d02bb43f6ba1657ed9345ce0219485cc964df4bc6a50ecc26a59b18960dbfecd", checked := Try.checked }
namespace Rows
def none {H : Type} : Left H := { results := [], args := [] }

/-- 'mantillalaw13.CreditScript': WHATEVER THE INPUT: true; the input reads as it did. -/
def creditScriptSpec : ChangeSpec := { name := "creditScript", fn := fun _ => fun
  | [d1, d2] => { results := [.lit (.bool true)], args := [d1, d2] }
  | _ => none }
def creditScriptRow : OpenClaim := { program := "ytamhoglfdfbgpaa", sum := "d02bb43f6ba1657ed9345ce0219485cc964df4bc6a50ecc26a59b18960dbfecd", func := "mantilla/mantillalaw13.CreditScript", spec := "creditScript", apart := false }
def CreditScriptSaid : Prop := creditScriptRow.holds Try.pinned (OpenSpec.ofChange creditScriptSpec)

/-- ITS FALSE NEIGHBOUR: 'it returns false'. Refute it at one input. -/
def creditScriptWrong : ChangeSpec := { name := "creditScript", fn := fun _ => fun
  | [d1, d2] => { results := [.lit (.bool false)], args := [d1, d2] }
  | _ => none }
def CreditScriptWrongFalsely : Prop := creditScriptRow.holds Try.pinned (OpenSpec.ofChange creditScriptWrong)

/-- 'mantillalaw13.CreditFlows': WHATEVER THE INPUT: true; the input reads as it did. -/
def creditFlowsSpec : ChangeSpec := { name := "creditFlows", fn := fun _ => fun
  | [d1, d2, d3] => { results := [.lit (.bool true)], args := [d1, d2, d3] }
  | _ => none }
def creditFlowsRow : OpenClaim := { program := "ytamhoglfdfbgpaa", sum := "d02bb43f6ba1657ed9345ce0219485cc964df4bc6a50ecc26a59b18960dbfecd", func := "mantilla/mantillalaw13.CreditFlows", spec := "creditFlows", apart := false }
def CreditFlowsSaid : Prop := creditFlowsRow.holds Try.pinned (OpenSpec.ofChange creditFlowsSpec)

/-- ITS FALSE NEIGHBOUR: 'it returns false'. Refute it at one input. -/
def creditFlowsWrong : ChangeSpec := { name := "creditFlows", fn := fun _ => fun
  | [d1, d2, d3] => { results := [.lit (.bool false)], args := [d1, d2, d3] }
  | _ => none }
def CreditFlowsWrongFalsely : Prop := creditFlowsRow.holds Try.pinned (OpenSpec.ofChange creditFlowsWrong)

/-- 'mantillalaw13.CreditMeets': WHATEVER THE INPUT: true; the input reads as it did. -/
def creditMeetsSpec : ChangeSpec := { name := "creditMeets", fn := fun _ => fun
  | [d1, d2] => { results := [.lit (.bool true)], args := [d1, d2] }
  | _ => none }
def creditMeetsRow : OpenClaim := { program := "ytamhoglfdfbgpaa", sum := "d02bb43f6ba1657ed9345ce0219485cc964df4bc6a50ecc26a59b18960dbfecd", func := "mantilla/mantillalaw13.CreditMeets", spec := "creditMeets", apart := false }
def CreditMeetsSaid : Prop := creditMeetsRow.holds Try.pinned (OpenSpec.ofChange creditMeetsSpec)

/-- ITS FALSE NEIGHBOUR: 'it returns false'. Refute it at one input. -/
def creditMeetsWrong : ChangeSpec := { name := "creditMeets", fn := fun _ => fun
  | [d1, d2] => { results := [.lit (.bool false)], args := [d1, d2] }
  | _ => none }
def CreditMeetsWrongFalsely : Prop := creditMeetsRow.holds Try.pinned (OpenSpec.ofChange creditMeetsWrong)

/-- 'mantillalaw13.CreditLimits': WHATEVER THE INPUT: true; the input reads as it did. -/
def creditLimitsSpec : ChangeSpec := { name := "creditLimits", fn := fun _ => fun
  | [d1, d2] => { results := [.lit (.bool true)], args := [d1, d2] }
  | _ => none }
def creditLimitsRow : OpenClaim := { program := "ytamhoglfdfbgpaa", sum := "d02bb43f6ba1657ed9345ce0219485cc964df4bc6a50ecc26a59b18960dbfecd", func := "mantilla/mantillalaw13.CreditLimits", spec := "creditLimits", apart := false }
def CreditLimitsSaid : Prop := creditLimitsRow.holds Try.pinned (OpenSpec.ofChange creditLimitsSpec)

/-- ITS FALSE NEIGHBOUR: 'it returns false'. Refute it at one input. -/
def creditLimitsWrong : ChangeSpec := { name := "creditLimits", fn := fun _ => fun
  | [d1, d2] => { results := [.lit (.bool false)], args := [d1, d2] }
  | _ => none }
def CreditLimitsWrongFalsely : Prop := creditLimitsRow.holds Try.pinned (OpenSpec.ofChange creditLimitsWrong)

/- THE SECOND FORM. 'bulk': how many values and letters a reading holds, each counted each time it is reached (what is shared counts as often as it is met; a slice's spare places count too). A statement '..UptoSaid' is the law's where the arguments, and the package variables that the reading takes, are together of bulk at most 1048576: NARROWER than '..Said'. Prove '..Said' where nothing that the law and all that it calls make is longer than what came in: it says more and counts as full. Else prove '..UptoSaid'. A law counts once. -/
mutual
def uptoBulk {H : Type} : DataW H → Nat
  | .lit (.string bytes) => bytes.length + 1
  | .lit _ => 1
  | .nil => 1
  | .ptr d => uptoBulk d + 1
  | .slice elems spare => uptoBulkAll elems + uptoBulkAll spare + 1
  | .agg parts => uptoBulkAll parts + 1
  | .iface _ d => uptoBulk d + 1
  | .map entries => uptoBulkEntries entries + 1
  | .held _ => 1
def uptoBulkAll {H : Type} : List (DataW H) → Nat
  | [] => 0
  | d :: r => uptoBulk d + uptoBulkAll r
def uptoBulkEntries {H : Type} : List (Lit × DataW H) → Nat
  | [] => 0
  | x :: r => uptoBulkEntry x + uptoBulkEntries r
def uptoBulkEntry {H : Type} : Lit × DataW H → Nat
  | (.string bytes, d) => bytes.length + uptoBulk d + 1
  | (_, d) => uptoBulk d + 1
 end
def uptoSmall : (H : Type) → List (DataW H) → Bool := fun _ ds => decide (uptoBulkAll ds ≤ 1048576)
def OpenSpec.upto (s : _root_.Go.ChangeSpec) : _root_.Go.OpenSpec := { _root_.Go.OpenSpec.ofChange s with cond := some uptoSmall }

/-- 'mantillalaw13.CreditScript', WHERE WHAT IT READS IS OF BULK AT MOST 1048576: true; the input reads as it did. -/
def creditScriptUptoRow : OpenClaim := { program := "ytamhoglfdfbgpaa", sum := "d02bb43f6ba1657ed9345ce0219485cc964df4bc6a50ecc26a59b18960dbfecd", func := "mantilla/mantillalaw13.CreditScript", spec := "creditScript", apart := false, narrowed := true }
def CreditScriptUptoSaid : Prop := creditScriptUptoRow.holds Try.pinned (OpenSpec.upto creditScriptSpec)

/-- 'mantillalaw13.CreditFlows', WHERE WHAT IT READS IS OF BULK AT MOST 1048576: true; the input reads as it did. -/
def creditFlowsUptoRow : OpenClaim := { program := "ytamhoglfdfbgpaa", sum := "d02bb43f6ba1657ed9345ce0219485cc964df4bc6a50ecc26a59b18960dbfecd", func := "mantilla/mantillalaw13.CreditFlows", spec := "creditFlows", apart := false, narrowed := true }
def CreditFlowsUptoSaid : Prop := creditFlowsUptoRow.holds Try.pinned (OpenSpec.upto creditFlowsSpec)

/-- 'mantillalaw13.CreditMeets', WHERE WHAT IT READS IS OF BULK AT MOST 1048576: true; the input reads as it did. -/
def creditMeetsUptoRow : OpenClaim := { program := "ytamhoglfdfbgpaa", sum := "d02bb43f6ba1657ed9345ce0219485cc964df4bc6a50ecc26a59b18960dbfecd", func := "mantilla/mantillalaw13.CreditMeets", spec := "creditMeets", apart := false, narrowed := true }
def CreditMeetsUptoSaid : Prop := creditMeetsUptoRow.holds Try.pinned (OpenSpec.upto creditMeetsSpec)

/-- 'mantillalaw13.CreditLimits', WHERE WHAT IT READS IS OF BULK AT MOST 1048576: true; the input reads as it did. -/
def creditLimitsUptoRow : OpenClaim := { program := "ytamhoglfdfbgpaa", sum := "d02bb43f6ba1657ed9345ce0219485cc964df4bc6a50ecc26a59b18960dbfecd", func := "mantilla/mantillalaw13.CreditLimits", spec := "creditLimits", apart := false, narrowed := true }
def CreditLimitsUptoSaid : Prop := creditLimitsUptoRow.holds Try.pinned (OpenSpec.upto creditLimitsSpec)

end Rows
end Go.Proofs.Ytamhoglfdfbgpaa
