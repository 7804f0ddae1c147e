/-
  NARROWER THAN 'FOR EVERY INPUT', by the rows' own cells (each row's printed sentence says how): ShaTells: laid · ShaSteps: laid · ShaPads: laid · ShaSplits: laid · HkdfGrows: laid · HkdfInfos: laid · HkdfTells: laid · HkdfParts: laid · HkdfKeys: laid · KeysTells: laid · KeysSteps: laid.
  DERIVED. THE GIVEN ROWS OF THIS SEAT. 11 by the template 'for every input the law returns true; each argument reads behind the call as it read before'; 0 by the template 'total and deterministic' (their statements: YtikmfaeiecpncaaDoorTotals.lean).
  GIVEN WITH THE SEED: the statements are not yours to turn. If you find one false, say at which input.
  Laid BY PROGRAM, IN A SANDBOX (cutbox-rows.mjs): the forced cells as the released guide's own fill.sh prints them over the translation 2659d9d74d65fef7… (all of the seat's roots in one cut). By AI agents, Wed Nov 11 2026. No macro, syntax, notation, axiom, sorry.
-/
import Derived.Test.YtikmfaeiecpncaaDoorChecked
import GoSem.Claim
import GoSem.ClaimJoined
import GoSem.ClaimMapViews
import Derived.JoinedTies
import Derived.KernelRfl
namespace Go.Proofs.YtikmfaeiecpncaaDoor
/- THE CELL 'sum', in the pinned program and in every row, IS THE sha256 OF THE DUMP (.gsa) THAT YtikmfaeiecpncaaDoorProg.lean LOADS. Nothing in Lean hashes anything: it is a label: what it is worth is what the hold of that sum in a sandbox is worth. -/
noncomputable def Tryd.pinned : Pinned := { name := "ytikmfaeiecpncaadoor", sum := "2659d9d74d65fef72ebce802fa128d1b53a3aac4283ffb4d4607d99534f70113", checked := Tryd.checked }
namespace Rows
def none {H : Type} : Left H := { results := [], args := [] }

/- WHAT THE LISTED PACKAGE-LEVEL VARIABLES READ AS WHEN THE CALL BEGINS. Each datum BY PROGRAM (the guide's laid-datum.mjs) off the statement by which the dump's own 'gosem.cut.vars' lays the variable. In a bare row this is a premise. The card (YtikmfaeiecpncaaDoorCards.lean) ties it to the program's text. -/
def laid_mantilla_sha_first {H : Type} : DataW H := .agg [.lit (.int .u32 1779033703), .lit (.int .u32 3144134277), .lit (.int .u32 1013904242), .lit (.int .u32 2773480762), .lit (.int .u32 1359893119), .lit (.int .u32 2600822924), .lit (.int .u32 528734635), .lit (.int .u32 1541459225)]
def laid_mantilla_sha_rounds {H : Type} : DataW H := .agg [.lit (.int .u32 1116352408), .lit (.int .u32 1899447441), .lit (.int .u32 3049323471), .lit (.int .u32 3921009573), .lit (.int .u32 961987163), .lit (.int .u32 1508970993), .lit (.int .u32 2453635748), .lit (.int .u32 2870763221), .lit (.int .u32 3624381080), .lit (.int .u32 310598401), .lit (.int .u32 607225278), .lit (.int .u32 1426881987), .lit (.int .u32 1925078388), .lit (.int .u32 2162078206), .lit (.int .u32 2614888103), .lit (.int .u32 3248222580), .lit (.int .u32 3835390401), .lit (.int .u32 4022224774), .lit (.int .u32 264347078), .lit (.int .u32 604807628), .lit (.int .u32 770255983), .lit (.int .u32 1249150122), .lit (.int .u32 1555081692), .lit (.int .u32 1996064986), .lit (.int .u32 2554220882), .lit (.int .u32 2821834349), .lit (.int .u32 2952996808), .lit (.int .u32 3210313671), .lit (.int .u32 3336571891), .lit (.int .u32 3584528711), .lit (.int .u32 113926993), .lit (.int .u32 338241895), .lit (.int .u32 666307205), .lit (.int .u32 773529912), .lit (.int .u32 1294757372), .lit (.int .u32 1396182291), .lit (.int .u32 1695183700), .lit (.int .u32 1986661051), .lit (.int .u32 2177026350), .lit (.int .u32 2456956037), .lit (.int .u32 2730485921), .lit (.int .u32 2820302411), .lit (.int .u32 3259730800), .lit (.int .u32 3345764771), .lit (.int .u32 3516065817), .lit (.int .u32 3600352804), .lit (.int .u32 4094571909), .lit (.int .u32 275423344), .lit (.int .u32 430227734), .lit (.int .u32 506948616), .lit (.int .u32 659060556), .lit (.int .u32 883997877), .lit (.int .u32 958139571), .lit (.int .u32 1322822218), .lit (.int .u32 1537002063), .lit (.int .u32 1747873779), .lit (.int .u32 1955562222), .lit (.int .u32 2024104815), .lit (.int .u32 2227730452), .lit (.int .u32 2361852424), .lit (.int .u32 2428436474), .lit (.int .u32 2756734187), .lit (.int .u32 3204031479), .lit (.int .u32 3329325298)]

/-- 'mantillalaw2.ShaTells': WHATEVER THE INPUT: true; the input reads as it did. -/
def shaTellsSpec : ChangeSpec := { name := "shaTells", fn := fun _ => fun
  | [d1, d2] => { results := [.lit (.bool true)], args := [d1, d2] }
  | _ => none }
def shaTellsRow : OpenClaim := { program := "ytikmfaeiecpncaadoor", sum := "2659d9d74d65fef72ebce802fa128d1b53a3aac4283ffb4d4607d99534f70113", func := "mantilla/mantillalaw2.ShaTells", spec := "shaTells", named := ["mantilla/sha.first", "mantilla/sha.rounds"], apart := false, laid := [("mantilla/sha.first", laid_mantilla_sha_first), ("mantilla/sha.rounds", laid_mantilla_sha_rounds)] }
def ShaTellsSaid : Prop := shaTellsRow.holds Tryd.pinned (OpenSpec.ofChange shaTellsSpec)

/-- ITS FALSE NEIGHBOUR: 'it returns false'. Refute it at one input. -/
def shaTellsWrong : ChangeSpec := { name := "shaTells", fn := fun _ => fun
  | [d1, d2] => { results := [.lit (.bool false)], args := [d1, d2] }
  | _ => none }
def ShaTellsWrongFalsely : Prop := shaTellsRow.holds Tryd.pinned (OpenSpec.ofChange shaTellsWrong)

/-- 'mantillalaw2.ShaSteps': WHATEVER THE INPUT: true; the input reads as it did. -/
def shaStepsSpec : ChangeSpec := { name := "shaSteps", fn := fun _ => fun
  | [d1, d2, d3, d4] => { results := [.lit (.bool true)], args := [d1, d2, d3, d4] }
  | _ => none }
def shaStepsRow : OpenClaim := { program := "ytikmfaeiecpncaadoor", sum := "2659d9d74d65fef72ebce802fa128d1b53a3aac4283ffb4d4607d99534f70113", func := "mantilla/mantillalaw2.ShaSteps", spec := "shaSteps", named := ["mantilla/sha.rounds", "mantilla/sha.first"], apart := false, laid := [("mantilla/sha.first", laid_mantilla_sha_first), ("mantilla/sha.rounds", laid_mantilla_sha_rounds)] }
def ShaStepsSaid : Prop := shaStepsRow.holds Tryd.pinned (OpenSpec.ofChange shaStepsSpec)

/-- ITS FALSE NEIGHBOUR: 'it returns false'. Refute it at one input. -/
def shaStepsWrong : ChangeSpec := { name := "shaSteps", fn := fun _ => fun
  | [d1, d2, d3, d4] => { results := [.lit (.bool false)], args := [d1, d2, d3, d4] }
  | _ => none }
def ShaStepsWrongFalsely : Prop := shaStepsRow.holds Tryd.pinned (OpenSpec.ofChange shaStepsWrong)

/-- 'mantillalaw2.ShaPads': WHATEVER THE INPUT: true; the input reads as it did. -/
def shaPadsSpec : ChangeSpec := { name := "shaPads", fn := fun _ => fun
  | [d1, d2] => { results := [.lit (.bool true)], args := [d1, d2] }
  | _ => none }
def shaPadsRow : OpenClaim := { program := "ytikmfaeiecpncaadoor", sum := "2659d9d74d65fef72ebce802fa128d1b53a3aac4283ffb4d4607d99534f70113", func := "mantilla/mantillalaw2.ShaPads", spec := "shaPads", named := ["mantilla/sha.first", "mantilla/sha.rounds"], apart := false, laid := [("mantilla/sha.first", laid_mantilla_sha_first), ("mantilla/sha.rounds", laid_mantilla_sha_rounds)] }
def ShaPadsSaid : Prop := shaPadsRow.holds Tryd.pinned (OpenSpec.ofChange shaPadsSpec)

/-- ITS FALSE NEIGHBOUR: 'it returns false'. Refute it at one input. -/
def shaPadsWrong : ChangeSpec := { name := "shaPads", fn := fun _ => fun
  | [d1, d2] => { results := [.lit (.bool false)], args := [d1, d2] }
  | _ => none }
def ShaPadsWrongFalsely : Prop := shaPadsRow.holds Tryd.pinned (OpenSpec.ofChange shaPadsWrong)

/-- 'mantillalaw2.ShaSplits': WHATEVER THE INPUT: true; the input reads as it did. -/
def shaSplitsSpec : ChangeSpec := { name := "shaSplits", fn := fun _ => fun
  | [d1, d2] => { results := [.lit (.bool true)], args := [d1, d2] }
  | _ => none }
def shaSplitsRow : OpenClaim := { program := "ytikmfaeiecpncaadoor", sum := "2659d9d74d65fef72ebce802fa128d1b53a3aac4283ffb4d4607d99534f70113", func := "mantilla/mantillalaw2.ShaSplits", spec := "shaSplits", named := ["mantilla/sha.first", "mantilla/sha.rounds"], apart := false, laid := [("mantilla/sha.first", laid_mantilla_sha_first), ("mantilla/sha.rounds", laid_mantilla_sha_rounds)] }
def ShaSplitsSaid : Prop := shaSplitsRow.holds Tryd.pinned (OpenSpec.ofChange shaSplitsSpec)

/-- ITS FALSE NEIGHBOUR: 'it returns false'. Refute it at one input. -/
def shaSplitsWrong : ChangeSpec := { name := "shaSplits", fn := fun _ => fun
  | [d1, d2] => { results := [.lit (.bool false)], args := [d1, d2] }
  | _ => none }
def ShaSplitsWrongFalsely : Prop := shaSplitsRow.holds Tryd.pinned (OpenSpec.ofChange shaSplitsWrong)

/-- 'mantillalaw3.HkdfGrows': WHATEVER THE INPUT: true; the input reads as it did. -/
def hkdfGrowsSpec : ChangeSpec := { name := "hkdfGrows", fn := fun _ => fun
  | [d1, d2, d3, d4] => { results := [.lit (.bool true)], args := [d1, d2, d3, d4] }
  | _ => none }
def hkdfGrowsRow : OpenClaim := { program := "ytikmfaeiecpncaadoor", sum := "2659d9d74d65fef72ebce802fa128d1b53a3aac4283ffb4d4607d99534f70113", func := "mantilla/mantillalaw3.HkdfGrows", spec := "hkdfGrows", named := ["mantilla/sha.first", "mantilla/sha.rounds"], apart := false, laid := [("mantilla/sha.first", laid_mantilla_sha_first), ("mantilla/sha.rounds", laid_mantilla_sha_rounds)] }
def HkdfGrowsSaid : Prop := hkdfGrowsRow.holds Tryd.pinned (OpenSpec.ofChange hkdfGrowsSpec)

/-- ITS FALSE NEIGHBOUR: 'it returns false'. Refute it at one input. -/
def hkdfGrowsWrong : ChangeSpec := { name := "hkdfGrows", fn := fun _ => fun
  | [d1, d2, d3, d4] => { results := [.lit (.bool false)], args := [d1, d2, d3, d4] }
  | _ => none }
def HkdfGrowsWrongFalsely : Prop := hkdfGrowsRow.holds Tryd.pinned (OpenSpec.ofChange hkdfGrowsWrong)

/-- 'mantillalaw3.HkdfInfos': WHATEVER THE INPUT: true; the input reads as it did. -/
def hkdfInfosSpec : ChangeSpec := { name := "hkdfInfos", fn := fun _ => fun
  | [d1, d2, d3, d4] => { results := [.lit (.bool true)], args := [d1, d2, d3, d4] }
  | _ => none }
def hkdfInfosRow : OpenClaim := { program := "ytikmfaeiecpncaadoor", sum := "2659d9d74d65fef72ebce802fa128d1b53a3aac4283ffb4d4607d99534f70113", func := "mantilla/mantillalaw3.HkdfInfos", spec := "hkdfInfos", named := ["mantilla/sha.first", "mantilla/sha.rounds"], apart := false, laid := [("mantilla/sha.first", laid_mantilla_sha_first), ("mantilla/sha.rounds", laid_mantilla_sha_rounds)] }
def HkdfInfosSaid : Prop := hkdfInfosRow.holds Tryd.pinned (OpenSpec.ofChange hkdfInfosSpec)

/-- ITS FALSE NEIGHBOUR: 'it returns false'. Refute it at one input. -/
def hkdfInfosWrong : ChangeSpec := { name := "hkdfInfos", fn := fun _ => fun
  | [d1, d2, d3, d4] => { results := [.lit (.bool false)], args := [d1, d2, d3, d4] }
  | _ => none }
def HkdfInfosWrongFalsely : Prop := hkdfInfosRow.holds Tryd.pinned (OpenSpec.ofChange hkdfInfosWrong)

/-- 'mantillalaw3.HkdfTells': WHATEVER THE INPUT: true; the input reads as it did. -/
def hkdfTellsSpec : ChangeSpec := { name := "hkdfTells", fn := fun _ => fun
  | [d1, d2, d3, d4, d5] => { results := [.lit (.bool true)], args := [d1, d2, d3, d4, d5] }
  | _ => none }
def hkdfTellsRow : OpenClaim := { program := "ytikmfaeiecpncaadoor", sum := "2659d9d74d65fef72ebce802fa128d1b53a3aac4283ffb4d4607d99534f70113", func := "mantilla/mantillalaw3.HkdfTells", spec := "hkdfTells", named := ["mantilla/sha.first", "mantilla/sha.rounds"], apart := false, laid := [("mantilla/sha.first", laid_mantilla_sha_first), ("mantilla/sha.rounds", laid_mantilla_sha_rounds)] }
def HkdfTellsSaid : Prop := hkdfTellsRow.holds Tryd.pinned (OpenSpec.ofChange hkdfTellsSpec)

/-- ITS FALSE NEIGHBOUR: 'it returns false'. Refute it at one input. -/
def hkdfTellsWrong : ChangeSpec := { name := "hkdfTells", fn := fun _ => fun
  | [d1, d2, d3, d4, d5] => { results := [.lit (.bool false)], args := [d1, d2, d3, d4, d5] }
  | _ => none }
def HkdfTellsWrongFalsely : Prop := hkdfTellsRow.holds Tryd.pinned (OpenSpec.ofChange hkdfTellsWrong)

/-- 'mantillalaw3.HkdfParts': WHATEVER THE INPUT: true; the input reads as it did. -/
def hkdfPartsSpec : ChangeSpec := { name := "hkdfParts", fn := fun _ => fun
  | [d1, d2, d3, d4] => { results := [.lit (.bool true)], args := [d1, d2, d3, d4] }
  | _ => none }
def hkdfPartsRow : OpenClaim := { program := "ytikmfaeiecpncaadoor", sum := "2659d9d74d65fef72ebce802fa128d1b53a3aac4283ffb4d4607d99534f70113", func := "mantilla/mantillalaw3.HkdfParts", spec := "hkdfParts", named := ["mantilla/sha.first", "mantilla/sha.rounds"], apart := false, laid := [("mantilla/sha.first", laid_mantilla_sha_first), ("mantilla/sha.rounds", laid_mantilla_sha_rounds)] }
def HkdfPartsSaid : Prop := hkdfPartsRow.holds Tryd.pinned (OpenSpec.ofChange hkdfPartsSpec)

/-- ITS FALSE NEIGHBOUR: 'it returns false'. Refute it at one input. -/
def hkdfPartsWrong : ChangeSpec := { name := "hkdfParts", fn := fun _ => fun
  | [d1, d2, d3, d4] => { results := [.lit (.bool false)], args := [d1, d2, d3, d4] }
  | _ => none }
def HkdfPartsWrongFalsely : Prop := hkdfPartsRow.holds Tryd.pinned (OpenSpec.ofChange hkdfPartsWrong)

/-- 'mantillalaw3.HkdfKeys': WHATEVER THE INPUT: true; the input reads as it did. -/
def hkdfKeysSpec : ChangeSpec := { name := "hkdfKeys", fn := fun _ => fun
  | [d1, d2, d3] => { results := [.lit (.bool true)], args := [d1, d2, d3] }
  | _ => none }
def hkdfKeysRow : OpenClaim := { program := "ytikmfaeiecpncaadoor", sum := "2659d9d74d65fef72ebce802fa128d1b53a3aac4283ffb4d4607d99534f70113", func := "mantilla/mantillalaw3.HkdfKeys", spec := "hkdfKeys", named := ["mantilla/sha.first", "mantilla/sha.rounds"], apart := false, laid := [("mantilla/sha.first", laid_mantilla_sha_first), ("mantilla/sha.rounds", laid_mantilla_sha_rounds)] }
def HkdfKeysSaid : Prop := hkdfKeysRow.holds Tryd.pinned (OpenSpec.ofChange hkdfKeysSpec)

/-- ITS FALSE NEIGHBOUR: 'it returns false'. Refute it at one input. -/
def hkdfKeysWrong : ChangeSpec := { name := "hkdfKeys", fn := fun _ => fun
  | [d1, d2, d3] => { results := [.lit (.bool false)], args := [d1, d2, d3] }
  | _ => none }
def HkdfKeysWrongFalsely : Prop := hkdfKeysRow.holds Tryd.pinned (OpenSpec.ofChange hkdfKeysWrong)

/-- 'mantillalaw18.KeysTells': WHATEVER THE INPUT: true; the input reads as it did. -/
def keysTellsSpec : ChangeSpec := { name := "keysTells", fn := fun _ => fun
  | [d1, d2, d3] => { results := [.lit (.bool true)], args := [d1, d2, d3] }
  | _ => none }
def keysTellsRow : OpenClaim := { program := "ytikmfaeiecpncaadoor", sum := "2659d9d74d65fef72ebce802fa128d1b53a3aac4283ffb4d4607d99534f70113", func := "mantilla/mantillalaw18.KeysTells", spec := "keysTells", named := ["mantilla/sha.first", "mantilla/sha.rounds"], apart := false, laid := [("mantilla/sha.first", laid_mantilla_sha_first), ("mantilla/sha.rounds", laid_mantilla_sha_rounds)] }
def KeysTellsSaid : Prop := keysTellsRow.holds Tryd.pinned (OpenSpec.ofChange keysTellsSpec)

/-- ITS FALSE NEIGHBOUR: 'it returns false'. Refute it at one input. -/
def keysTellsWrong : ChangeSpec := { name := "keysTells", fn := fun _ => fun
  | [d1, d2, d3] => { results := [.lit (.bool false)], args := [d1, d2, d3] }
  | _ => none }
def KeysTellsWrongFalsely : Prop := keysTellsRow.holds Tryd.pinned (OpenSpec.ofChange keysTellsWrong)

/-- 'mantillalaw18.KeysSteps': WHATEVER THE INPUT: true; the input reads as it did. -/
def keysStepsSpec : ChangeSpec := { name := "keysSteps", fn := fun _ => fun
  | [d1, d2, d3] => { results := [.lit (.bool true)], args := [d1, d2, d3] }
  | _ => none }
def keysStepsRow : OpenClaim := { program := "ytikmfaeiecpncaadoor", sum := "2659d9d74d65fef72ebce802fa128d1b53a3aac4283ffb4d4607d99534f70113", func := "mantilla/mantillalaw18.KeysSteps", spec := "keysSteps", named := ["mantilla/sha.first", "mantilla/sha.rounds"], apart := false, laid := [("mantilla/sha.first", laid_mantilla_sha_first), ("mantilla/sha.rounds", laid_mantilla_sha_rounds)] }
def KeysStepsSaid : Prop := keysStepsRow.holds Tryd.pinned (OpenSpec.ofChange keysStepsSpec)

/-- ITS FALSE NEIGHBOUR: 'it returns false'. Refute it at one input. -/
def keysStepsWrong : ChangeSpec := { name := "keysSteps", fn := fun _ => fun
  | [d1, d2, d3] => { results := [.lit (.bool false)], args := [d1, d2, d3] }
  | _ => none }
def KeysStepsWrongFalsely : Prop := keysStepsRow.holds Tryd.pinned (OpenSpec.ofChange keysStepsWrong)

/- THE SECOND FORM. 'bulk': how many values and letters a reading holds, each counted each time it is reached (what is shared counts as often as it is met; a slice's spare places count too). A statement '..UptoSaid' is the law's where the arguments, and the package variables that the reading takes, are together of bulk at most 1048576: NARROWER than '..Said'. Prove '..Said' where nothing that the law and all that it calls make is longer than what came in: it says more and counts as full. Else prove '..UptoSaid'. A law counts once. -/
mutual
def uptoBulk {H : Type} : DataW H → Nat
  | .lit (.string bytes) => bytes.length + 1
  | .lit _ => 1
  | .nil => 1
  | .ptr d => uptoBulk d + 1
  | .slice elems spare => uptoBulkAll elems + uptoBulkAll spare + 1
  | .agg parts => uptoBulkAll parts + 1
  | .iface _ d => uptoBulk d + 1
  | .map entries => uptoBulkEntries entries + 1
  | .held _ => 1
def uptoBulkAll {H : Type} : List (DataW H) → Nat
  | [] => 0
  | d :: r => uptoBulk d + uptoBulkAll r
def uptoBulkEntries {H : Type} : List (Lit × DataW H) → Nat
  | [] => 0
  | x :: r => uptoBulkEntry x + uptoBulkEntries r
def uptoBulkEntry {H : Type} : Lit × DataW H → Nat
  | (.string bytes, d) => bytes.length + uptoBulk d + 1
  | (_, d) => uptoBulk d + 1
 end
def uptoSmall : (H : Type) → List (DataW H) → Bool := fun _ ds => decide (uptoBulkAll ds ≤ 1048576)
def OpenSpec.upto (s : _root_.Go.ChangeSpec) : _root_.Go.OpenSpec := { _root_.Go.OpenSpec.ofChange s with cond := some uptoSmall }

/-- 'mantillalaw2.ShaTells', WHERE WHAT IT READS IS OF BULK AT MOST 1048576: true; the input reads as it did. -/
def shaTellsUptoRow : OpenClaim := { program := "ytikmfaeiecpncaadoor", sum := "2659d9d74d65fef72ebce802fa128d1b53a3aac4283ffb4d4607d99534f70113", func := "mantilla/mantillalaw2.ShaTells", spec := "shaTells", named := ["mantilla/sha.first", "mantilla/sha.rounds"], apart := false, laid := [("mantilla/sha.first", laid_mantilla_sha_first), ("mantilla/sha.rounds", laid_mantilla_sha_rounds)], narrowed := true }
def ShaTellsUptoSaid : Prop := shaTellsUptoRow.holds Tryd.pinned (OpenSpec.upto shaTellsSpec)

/-- 'mantillalaw2.ShaSteps', WHERE WHAT IT READS IS OF BULK AT MOST 1048576: true; the input reads as it did. -/
def shaStepsUptoRow : OpenClaim := { program := "ytikmfaeiecpncaadoor", sum := "2659d9d74d65fef72ebce802fa128d1b53a3aac4283ffb4d4607d99534f70113", func := "mantilla/mantillalaw2.ShaSteps", spec := "shaSteps", named := ["mantilla/sha.rounds", "mantilla/sha.first"], apart := false, laid := [("mantilla/sha.first", laid_mantilla_sha_first), ("mantilla/sha.rounds", laid_mantilla_sha_rounds)], narrowed := true }
def ShaStepsUptoSaid : Prop := shaStepsUptoRow.holds Tryd.pinned (OpenSpec.upto shaStepsSpec)

/-- 'mantillalaw2.ShaPads', WHERE WHAT IT READS IS OF BULK AT MOST 1048576: true; the input reads as it did. -/
def shaPadsUptoRow : OpenClaim := { program := "ytikmfaeiecpncaadoor", sum := "2659d9d74d65fef72ebce802fa128d1b53a3aac4283ffb4d4607d99534f70113", func := "mantilla/mantillalaw2.ShaPads", spec := "shaPads", named := ["mantilla/sha.first", "mantilla/sha.rounds"], apart := false, laid := [("mantilla/sha.first", laid_mantilla_sha_first), ("mantilla/sha.rounds", laid_mantilla_sha_rounds)], narrowed := true }
def ShaPadsUptoSaid : Prop := shaPadsUptoRow.holds Tryd.pinned (OpenSpec.upto shaPadsSpec)

/-- 'mantillalaw2.ShaSplits', WHERE WHAT IT READS IS OF BULK AT MOST 1048576: true; the input reads as it did. -/
def shaSplitsUptoRow : OpenClaim := { program := "ytikmfaeiecpncaadoor", sum := "2659d9d74d65fef72ebce802fa128d1b53a3aac4283ffb4d4607d99534f70113", func := "mantilla/mantillalaw2.ShaSplits", spec := "shaSplits", named := ["mantilla/sha.first", "mantilla/sha.rounds"], apart := false, laid := [("mantilla/sha.first", laid_mantilla_sha_first), ("mantilla/sha.rounds", laid_mantilla_sha_rounds)], narrowed := true }
def ShaSplitsUptoSaid : Prop := shaSplitsUptoRow.holds Tryd.pinned (OpenSpec.upto shaSplitsSpec)

/-- 'mantillalaw3.HkdfGrows', WHERE WHAT IT READS IS OF BULK AT MOST 1048576: true; the input reads as it did. -/
def hkdfGrowsUptoRow : OpenClaim := { program := "ytikmfaeiecpncaadoor", sum := "2659d9d74d65fef72ebce802fa128d1b53a3aac4283ffb4d4607d99534f70113", func := "mantilla/mantillalaw3.HkdfGrows", spec := "hkdfGrows", named := ["mantilla/sha.first", "mantilla/sha.rounds"], apart := false, laid := [("mantilla/sha.first", laid_mantilla_sha_first), ("mantilla/sha.rounds", laid_mantilla_sha_rounds)], narrowed := true }
def HkdfGrowsUptoSaid : Prop := hkdfGrowsUptoRow.holds Tryd.pinned (OpenSpec.upto hkdfGrowsSpec)

/-- 'mantillalaw3.HkdfInfos', WHERE WHAT IT READS IS OF BULK AT MOST 1048576: true; the input reads as it did. -/
def hkdfInfosUptoRow : OpenClaim := { program := "ytikmfaeiecpncaadoor", sum := "2659d9d74d65fef72ebce802fa128d1b53a3aac4283ffb4d4607d99534f70113", func := "mantilla/mantillalaw3.HkdfInfos", spec := "hkdfInfos", named := ["mantilla/sha.first", "mantilla/sha.rounds"], apart := false, laid := [("mantilla/sha.first", laid_mantilla_sha_first), ("mantilla/sha.rounds", laid_mantilla_sha_rounds)], narrowed := true }
def HkdfInfosUptoSaid : Prop := hkdfInfosUptoRow.holds Tryd.pinned (OpenSpec.upto hkdfInfosSpec)

/-- 'mantillalaw3.HkdfTells', WHERE WHAT IT READS IS OF BULK AT MOST 1048576: true; the input reads as it did. -/
def hkdfTellsUptoRow : OpenClaim := { program := "ytikmfaeiecpncaadoor", sum := "2659d9d74d65fef72ebce802fa128d1b53a3aac4283ffb4d4607d99534f70113", func := "mantilla/mantillalaw3.HkdfTells", spec := "hkdfTells", named := ["mantilla/sha.first", "mantilla/sha.rounds"], apart := false, laid := [("mantilla/sha.first", laid_mantilla_sha_first), ("mantilla/sha.rounds", laid_mantilla_sha_rounds)], narrowed := true }
def HkdfTellsUptoSaid : Prop := hkdfTellsUptoRow.holds Tryd.pinned (OpenSpec.upto hkdfTellsSpec)

/-- 'mantillalaw3.HkdfParts', WHERE WHAT IT READS IS OF BULK AT MOST 1048576: true; the input reads as it did. -/
def hkdfPartsUptoRow : OpenClaim := { program := "ytikmfaeiecpncaadoor", sum := "2659d9d74d65fef72ebce802fa128d1b53a3aac4283ffb4d4607d99534f70113", func := "mantilla/mantillalaw3.HkdfParts", spec := "hkdfParts", named := ["mantilla/sha.first", "mantilla/sha.rounds"], apart := false, laid := [("mantilla/sha.first", laid_mantilla_sha_first), ("mantilla/sha.rounds", laid_mantilla_sha_rounds)], narrowed := true }
def HkdfPartsUptoSaid : Prop := hkdfPartsUptoRow.holds Tryd.pinned (OpenSpec.upto hkdfPartsSpec)

/-- 'mantillalaw3.HkdfKeys', WHERE WHAT IT READS IS OF BULK AT MOST 1048576: true; the input reads as it did. -/
def hkdfKeysUptoRow : OpenClaim := { program := "ytikmfaeiecpncaadoor", sum := "2659d9d74d65fef72ebce802fa128d1b53a3aac4283ffb4d4607d99534f70113", func := "mantilla/mantillalaw3.HkdfKeys", spec := "hkdfKeys", named := ["mantilla/sha.first", "mantilla/sha.rounds"], apart := false, laid := [("mantilla/sha.first", laid_mantilla_sha_first), ("mantilla/sha.rounds", laid_mantilla_sha_rounds)], narrowed := true }
def HkdfKeysUptoSaid : Prop := hkdfKeysUptoRow.holds Tryd.pinned (OpenSpec.upto hkdfKeysSpec)

/-- 'mantillalaw18.KeysTells', WHERE WHAT IT READS IS OF BULK AT MOST 1048576: true; the input reads as it did. -/
def keysTellsUptoRow : OpenClaim := { program := "ytikmfaeiecpncaadoor", sum := "2659d9d74d65fef72ebce802fa128d1b53a3aac4283ffb4d4607d99534f70113", func := "mantilla/mantillalaw18.KeysTells", spec := "keysTells", named := ["mantilla/sha.first", "mantilla/sha.rounds"], apart := false, laid := [("mantilla/sha.first", laid_mantilla_sha_first), ("mantilla/sha.rounds", laid_mantilla_sha_rounds)], narrowed := true }
def KeysTellsUptoSaid : Prop := keysTellsUptoRow.holds Tryd.pinned (OpenSpec.upto keysTellsSpec)

/-- 'mantillalaw18.KeysSteps', WHERE WHAT IT READS IS OF BULK AT MOST 1048576: true; the input reads as it did. -/
def keysStepsUptoRow : OpenClaim := { program := "ytikmfaeiecpncaadoor", sum := "2659d9d74d65fef72ebce802fa128d1b53a3aac4283ffb4d4607d99534f70113", func := "mantilla/mantillalaw18.KeysSteps", spec := "keysSteps", named := ["mantilla/sha.first", "mantilla/sha.rounds"], apart := false, laid := [("mantilla/sha.first", laid_mantilla_sha_first), ("mantilla/sha.rounds", laid_mantilla_sha_rounds)], narrowed := true }
def KeysStepsUptoSaid : Prop := keysStepsUptoRow.holds Tryd.pinned (OpenSpec.upto keysStepsSpec)

end Rows
end Go.Proofs.YtikmfaeiecpncaaDoor
