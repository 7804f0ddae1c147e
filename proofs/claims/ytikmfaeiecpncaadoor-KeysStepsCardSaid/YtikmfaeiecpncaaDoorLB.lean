/- What the cards' condition gives the walks: the two variables of the package. -/
import Derived.Test.YtikmfaeiecpncaaDoorRows
import Derived.Test.YtikmfaeiecpncaaDoorJ
import Derived.ProofKit
import Derived.LaidMore
import Derived.OpenShut
import Derived.Stop.Joined
import Derived.Lib.LaidTab
namespace Go.Proofs.YtikmfaeiecpncaaDoor
open Go.ChangeShapes Go.WideShapes Go.ChangeAt Go.RowKit Go.Lib

theorem own : ownKnob Tryd.prog.godebug = none := by kernel_rfl
theorem laidOut : laidOutB Tryd.prog = true := by kernel_rfl
theorem gFirst : Tryd.prog.globalNamed "mantilla/sha.first" = some 0 := by kernel_rfl
theorem gRounds : Tryd.prog.globalNamed "mantilla/sha.rounds" = some 1 := by kernel_rfl
theorem tFirst : (Tryd.prog.globals[0]?).map (·.type) = some 32 := by kernel_rfl
theorem tRounds : (Tryd.prog.globals[1]?).map (·.type) = some 75 := by kernel_rfl
theorem un31 : Tryd.prog.underlying 31 = some (.int .u32) := by kernel_rfl
theorem ce31 : Tryd.prog.cellsOf 31 = 1 := by kernel_rfl
theorem ce32 : Tryd.prog.cellsOf 32 = 8 := by kernel_rfl
theorem ce75 : Tryd.prog.cellsOf 75 = 64 := by kernel_rfl
abbrev laid2 : List (String × DataW Unit) := [("mantilla/sha.first", Rows.laid_mantilla_sha_first), ("mantilla/sha.rounds", Rows.laid_mantilla_sha_rounds)]

set_option maxRecDepth 100000 in
/-- The door's own heap meets the condition. -/
theorem door_met (os : Os) (args : Array Value) : laidMetH Tryd.prog laid2 ((World.doorLaid Tryd.prog 400 os).forCall (fun _ _ => 0) ⟨#[], args, []⟩).memory :=
  laidMetH_of_parts3 (fuel := 8) (laidMet_of_run' 8 (by kernel_rfl) (by kernel_rfl)) (by kernel_rfl) (by kernel_rfl)

theorem first_tab : (Rows.laid_mantilla_sha_first : DataW Unit) = tabData .u32 (H0.list.map V) := by kernel_rfl
theorem rounds_tab : (Rows.laid_mantilla_sha_rounds : DataW Unit) = tabData .u32 (Kc.map V) := by kernel_rfl
theorem wds_map (xs : Ws) : (xs.map V).map (fun z => Value.int .u32 z) = xs.map wd := by rw [List.map_map]; rfl
theorem of_laid {W : World} (h : laidMetH Tryd.prog laid2 W) : Gl W := by
  rw [MakeChecks.laidMetH_plain _ _ _ (by kernel_rfl)] at h
  obtain ⟨ps, ⟨g0, t0, cs0, f0, p0, q0, hg0, ht0, hv0, hd0, ⟨g1, t1, cs1, f1, p1, q1, hg1, ht1, hv1, hd1, _, _⟩, _⟩, _, _⟩ := h
  obtain rfl := Option.some.inj (gFirst.symm.trans hg0)
  obtain rfl := Option.some.inj (gRounds.symm.trans hg1)
  obtain rfl := Option.some.inj (tFirst.symm.trans ht0)
  obtain rfl := Option.some.inj (tRounds.symm.trans ht1)
  rw [first_tab] at hd0
  rw [rounds_tab] at hd1
  have h0 := cells_of_tab arr32 un31 ce31 ce32 hd0
  have h1 := cells_of_tab arr75 un31 ce31 ce75 hd1
  rw [wds_map] at h0 h1
  refine ⟨fun i hi => ?_, ?_⟩
  · rw [World.var?_cell hg1 hv1 i, ← Array.getElem?_toList, h1]
    have := wds_at Kc i hi
    simpa [wds] using this
  · have hv := hv0
    simp only [World.var?, hg0, Option.bind_some] at hv
    split at hv
    · rename_i cs ty fr heq
      obtain rfl : cs = cs0 := by simpa using hv
      refine ⟨ty, fr, ?_⟩
      rw [heq]
      have : cs = wds H0.list := by
        have h2 := congrArg List.toArray h0
        simpa [wds] using h2
      rw [this]
    · cases hv
end Go.Proofs.YtikmfaeiecpncaaDoor
