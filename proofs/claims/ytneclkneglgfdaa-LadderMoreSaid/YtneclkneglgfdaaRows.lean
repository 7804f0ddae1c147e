/-
  No cell of these rows narrows 'for every input' (looked for: loops, veiled, ifaces, maps, wideKeys, modest, calm, conditions, laid).
  DERIVED. THE GIVEN ROWS OF THIS SEAT. 5 by the template 'for every input the law returns true; each argument reads behind the call as it read before'; 0 by the template 'total and deterministic' (their statements: YtneclkneglgfdaaTotals.lean).
  GIVEN WITH THE SEED: the statements are not yours to turn. If you find one false, say at which input.
  Laid BY PROGRAM, IN A SANDBOX (cutbox-rows.mjs): the forced cells as the released guide's own fill.sh prints them over the translation 293c56383573ca14… (all of the seat's roots in one cut). By AI agents, Wed Nov 11 2026. No macro, syntax, notation, axiom, sorry.
-/
import Derived.Test.YtneclkneglgfdaaChecked
import GoSem.Claim
import GoSem.ClaimJoined
import GoSem.ClaimMapViews
import Derived.JoinedTies
import Derived.KernelRfl
namespace Go.Proofs.Ytneclkneglgfdaa
/- THE CELL 'sum', in the pinned program and in every row, IS THE sha256 OF THE DUMP (.gsa) THAT YtneclkneglgfdaaProg.lean LOADS. Nothing in Lean hashes anything: it is a label: what it is worth is what the hold of that sum in a sandbox is worth. -/
noncomputable def Try.pinned : Pinned := { name := "ytneclkneglgfdaa", sum := "293c56383573ca143eeb4ed59c54d0db0e417899cf07f23fe048dcc07ae53a97", checked := Try.checked }
namespace Rows
def none {H : Type} : Left H := { results := [], args := [] }

/-- 'mantillalaw10.LadderTells': WHATEVER THE INPUT: true; the input reads as it did. -/
def ladderTellsSpec : ChangeSpec := { name := "ladderTells", fn := fun _ => fun
  | [d1, d2, d3, d4, d5] => { results := [.lit (.bool true)], args := [d1, d2, d3, d4, d5] }
  | _ => none }
def ladderTellsRow : OpenClaim := { program := "ytneclkneglgfdaa", sum := "293c56383573ca143eeb4ed59c54d0db0e417899cf07f23fe048dcc07ae53a97", func := "mantilla/mantillalaw10.LadderTells", spec := "ladderTells", apart := false }
def LadderTellsSaid : Prop := ladderTellsRow.holds Try.pinned (OpenSpec.ofChange ladderTellsSpec)

/-- ITS FALSE NEIGHBOUR: 'it returns false'. Refute it at one input. -/
def ladderTellsWrong : ChangeSpec := { name := "ladderTells", fn := fun _ => fun
  | [d1, d2, d3, d4, d5] => { results := [.lit (.bool false)], args := [d1, d2, d3, d4, d5] }
  | _ => none }
def LadderTellsWrongFalsely : Prop := ladderTellsRow.holds Try.pinned (OpenSpec.ofChange ladderTellsWrong)

/-- 'mantillalaw10.LadderRates': WHATEVER THE INPUT: true; the input reads as it did. -/
def ladderRatesSpec : ChangeSpec := { name := "ladderRates", fn := fun _ => fun
  | [d1, d2, d3] => { results := [.lit (.bool true)], args := [d1, d2, d3] }
  | _ => none }
def ladderRatesRow : OpenClaim := { program := "ytneclkneglgfdaa", sum := "293c56383573ca143eeb4ed59c54d0db0e417899cf07f23fe048dcc07ae53a97", func := "mantilla/mantillalaw10.LadderRates", spec := "ladderRates", apart := false }
def LadderRatesSaid : Prop := ladderRatesRow.holds Try.pinned (OpenSpec.ofChange ladderRatesSpec)

/-- ITS FALSE NEIGHBOUR: 'it returns false'. Refute it at one input. -/
def ladderRatesWrong : ChangeSpec := { name := "ladderRates", fn := fun _ => fun
  | [d1, d2, d3] => { results := [.lit (.bool false)], args := [d1, d2, d3] }
  | _ => none }
def LadderRatesWrongFalsely : Prop := ladderRatesRow.holds Try.pinned (OpenSpec.ofChange ladderRatesWrong)

/-- 'mantillalaw10.LadderSums': WHATEVER THE INPUT: true; the input reads as it did. -/
def ladderSumsSpec : ChangeSpec := { name := "ladderSums", fn := fun _ => fun
  | [d1, d2, d3, d4, d5, d6] => { results := [.lit (.bool true)], args := [d1, d2, d3, d4, d5, d6] }
  | _ => none }
def ladderSumsRow : OpenClaim := { program := "ytneclkneglgfdaa", sum := "293c56383573ca143eeb4ed59c54d0db0e417899cf07f23fe048dcc07ae53a97", func := "mantilla/mantillalaw10.LadderSums", spec := "ladderSums", apart := false }
def LadderSumsSaid : Prop := ladderSumsRow.holds Try.pinned (OpenSpec.ofChange ladderSumsSpec)

/-- ITS FALSE NEIGHBOUR: 'it returns false'. Refute it at one input. -/
def ladderSumsWrong : ChangeSpec := { name := "ladderSums", fn := fun _ => fun
  | [d1, d2, d3, d4, d5, d6] => { results := [.lit (.bool false)], args := [d1, d2, d3, d4, d5, d6] }
  | _ => none }
def LadderSumsWrongFalsely : Prop := ladderSumsRow.holds Try.pinned (OpenSpec.ofChange ladderSumsWrong)

/-- 'mantillalaw10.LadderMore': WHATEVER THE INPUT: true; the input reads as it did. -/
def ladderMoreSpec : ChangeSpec := { name := "ladderMore", fn := fun _ => fun
  | [d1, d2, d3, d4] => { results := [.lit (.bool true)], args := [d1, d2, d3, d4] }
  | _ => none }
def ladderMoreRow : OpenClaim := { program := "ytneclkneglgfdaa", sum := "293c56383573ca143eeb4ed59c54d0db0e417899cf07f23fe048dcc07ae53a97", func := "mantilla/mantillalaw10.LadderMore", spec := "ladderMore", apart := false }
def LadderMoreSaid : Prop := ladderMoreRow.holds Try.pinned (OpenSpec.ofChange ladderMoreSpec)

/-- ITS FALSE NEIGHBOUR: 'it returns false'. Refute it at one input. -/
def ladderMoreWrong : ChangeSpec := { name := "ladderMore", fn := fun _ => fun
  | [d1, d2, d3, d4] => { results := [.lit (.bool false)], args := [d1, d2, d3, d4] }
  | _ => none }
def LadderMoreWrongFalsely : Prop := ladderMoreRow.holds Try.pinned (OpenSpec.ofChange ladderMoreWrong)

/-- 'mantillalaw10.LadderBusy': WHATEVER THE INPUT: true; the input reads as it did. -/
def ladderBusySpec : ChangeSpec := { name := "ladderBusy", fn := fun _ => fun
  | [d1, d2, d3, d4] => { results := [.lit (.bool true)], args := [d1, d2, d3, d4] }
  | _ => none }
def ladderBusyRow : OpenClaim := { program := "ytneclkneglgfdaa", sum := "293c56383573ca143eeb4ed59c54d0db0e417899cf07f23fe048dcc07ae53a97", func := "mantilla/mantillalaw10.LadderBusy", spec := "ladderBusy", apart := false }
def LadderBusySaid : Prop := ladderBusyRow.holds Try.pinned (OpenSpec.ofChange ladderBusySpec)

/-- ITS FALSE NEIGHBOUR: 'it returns false'. Refute it at one input. -/
def ladderBusyWrong : ChangeSpec := { name := "ladderBusy", fn := fun _ => fun
  | [d1, d2, d3, d4] => { results := [.lit (.bool false)], args := [d1, d2, d3, d4] }
  | _ => none }
def LadderBusyWrongFalsely : Prop := ladderBusyRow.holds Try.pinned (OpenSpec.ofChange ladderBusyWrong)

/- THE SECOND FORM. 'bulk': how many values and letters a reading holds, each counted each time it is reached (what is shared counts as often as it is met; a slice's spare places count too). A statement '..UptoSaid' is the law's where the arguments, and the package variables that the reading takes, are together of bulk at most 1048576: NARROWER than '..Said'. Prove '..Said' where nothing that the law and all that it calls make is longer than what came in: it says more and counts as full. Else prove '..UptoSaid'. A law counts once. -/
mutual
def uptoBulk {H : Type} : DataW H → Nat
  | .lit (.string bytes) => bytes.length + 1
  | .lit _ => 1
  | .nil => 1
  | .ptr d => uptoBulk d + 1
  | .slice elems spare => uptoBulkAll elems + uptoBulkAll spare + 1
  | .agg parts => uptoBulkAll parts + 1
  | .iface _ d => uptoBulk d + 1
  | .map entries => uptoBulkEntries entries + 1
  | .held _ => 1
def uptoBulkAll {H : Type} : List (DataW H) → Nat
  | [] => 0
  | d :: r => uptoBulk d + uptoBulkAll r
def uptoBulkEntries {H : Type} : List (Lit × DataW H) → Nat
  | [] => 0
  | x :: r => uptoBulkEntry x + uptoBulkEntries r
def uptoBulkEntry {H : Type} : Lit × DataW H → Nat
  | (.string bytes, d) => bytes.length + uptoBulk d + 1
  | (_, d) => uptoBulk d + 1
 end
def uptoSmall : (H : Type) → List (DataW H) → Bool := fun _ ds => decide (uptoBulkAll ds ≤ 1048576)
def OpenSpec.upto (s : _root_.Go.ChangeSpec) : _root_.Go.OpenSpec := { _root_.Go.OpenSpec.ofChange s with cond := some uptoSmall }

/-- 'mantillalaw10.LadderTells', WHERE WHAT IT READS IS OF BULK AT MOST 1048576: true; the input reads as it did. -/
def ladderTellsUptoRow : OpenClaim := { program := "ytneclkneglgfdaa", sum := "293c56383573ca143eeb4ed59c54d0db0e417899cf07f23fe048dcc07ae53a97", func := "mantilla/mantillalaw10.LadderTells", spec := "ladderTells", apart := false, narrowed := true }
def LadderTellsUptoSaid : Prop := ladderTellsUptoRow.holds Try.pinned (OpenSpec.upto ladderTellsSpec)

/-- 'mantillalaw10.LadderRates', WHERE WHAT IT READS IS OF BULK AT MOST 1048576: true; the input reads as it did. -/
def ladderRatesUptoRow : OpenClaim := { program := "ytneclkneglgfdaa", sum := "293c56383573ca143eeb4ed59c54d0db0e417899cf07f23fe048dcc07ae53a97", func := "mantilla/mantillalaw10.LadderRates", spec := "ladderRates", apart := false, narrowed := true }
def LadderRatesUptoSaid : Prop := ladderRatesUptoRow.holds Try.pinned (OpenSpec.upto ladderRatesSpec)

/-- 'mantillalaw10.LadderSums', WHERE WHAT IT READS IS OF BULK AT MOST 1048576: true; the input reads as it did. -/
def ladderSumsUptoRow : OpenClaim := { program := "ytneclkneglgfdaa", sum := "293c56383573ca143eeb4ed59c54d0db0e417899cf07f23fe048dcc07ae53a97", func := "mantilla/mantillalaw10.LadderSums", spec := "ladderSums", apart := false, narrowed := true }
def LadderSumsUptoSaid : Prop := ladderSumsUptoRow.holds Try.pinned (OpenSpec.upto ladderSumsSpec)

/-- 'mantillalaw10.LadderMore', WHERE WHAT IT READS IS OF BULK AT MOST 1048576: true; the input reads as it did. -/
def ladderMoreUptoRow : OpenClaim := { program := "ytneclkneglgfdaa", sum := "293c56383573ca143eeb4ed59c54d0db0e417899cf07f23fe048dcc07ae53a97", func := "mantilla/mantillalaw10.LadderMore", spec := "ladderMore", apart := false, narrowed := true }
def LadderMoreUptoSaid : Prop := ladderMoreUptoRow.holds Try.pinned (OpenSpec.upto ladderMoreSpec)

/-- 'mantillalaw10.LadderBusy', WHERE WHAT IT READS IS OF BULK AT MOST 1048576: true; the input reads as it did. -/
def ladderBusyUptoRow : OpenClaim := { program := "ytneclkneglgfdaa", sum := "293c56383573ca143eeb4ed59c54d0db0e417899cf07f23fe048dcc07ae53a97", func := "mantilla/mantillalaw10.LadderBusy", spec := "ladderBusy", apart := false, narrowed := true }
def LadderBusyUptoSaid : Prop := ladderBusyUptoRow.holds Try.pinned (OpenSpec.upto ladderBusySpec)

end Rows
end Go.Proofs.Ytneclkneglgfdaa
