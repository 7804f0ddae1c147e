/- Arrays of numbers that come in by value. -/
import Derived.Test.YtikmfaeiecpncaaDoorLB
namespace Go.Proofs.YtikmfaeiecpncaaDoor
open Go.ChangeShapes Go.WideShapes Go.ChangeAt Go.RowKit Go.Lib

theorem cells_of_nums {H : Type} {enc : TypeId × Value → H} {P : Program} {w : World} {base : Nat} {sp : Nat → Bool} {held : Bool} {fuel : Nat} {t e : TypeId} {n : Nat} {k : IntKind} {cs : List Value} {x : DataW H × List MemPlace}
    (ht : P.underlying t = some (.array n e)) (he : P.underlying e = some (.int k)) (hce : P.cellsOf e = 1) (hct : P.cellsOf t = n)
    (h : DataW.trod enc P w base sp held fuel t cs = some x) : cs.length = n ∧ ∀ i, i < n → ∃ z, cs[i]? = some (.int k z) ∧ (Lit.int k z).wf = true := by
  cases fuel with
  | zero => simp [DataW.trod] at h
  | succ fuel =>
    simp only [DataW.trod, ht, hce, hct, Nat.mul_one] at h
    split at h
    · rename_i hl
      obtain ⟨xs, hm, hx⟩ := Option.map_eq_some_iff.1 h
      refine ⟨by simpa using hl, fun i hi => ?_⟩
      obtain ⟨b, hb, hf⟩ := mapM_at hm i i (by simp [hi])
      obtain ⟨z, hc, _, hw⟩ := DataW.trod_int he hf
      refine ⟨z, ?_, hw⟩
      have := congrArg (·[0]?) hc
      simpa [List.getElem?_take, List.getElem?_drop] using this
    · cases h
theorem open_nums {H : Type} {enc : TypeId × Value → H} {P : Program} {w : World} {base b0 : Nat} {r : Reach} {sp : Nat → Bool} {held : Bool} {t e : TypeId} {n : Nat} {k : IntKind} {v : Value} {d : DataW H} {ps : List MemPlace}
    (ht : P.underlying t = some (.array n e)) (he : P.underlying e = some (.int k)) (hce : P.cellsOf e = 1) (hct : P.cellsOf t = n)
    (hval : Value.okWide P w r b0 t v) (hd : DataW.Trod enc P w base sp held t v d ps) : ∃ zs : List Int, v = .agg (zs.map (Value.int k)).toArray ∧ zs.length = n ∧ ∀ z ∈ zs, (Lit.int k z).wf = true := by
  unfold Value.okWide at hval
  rw [ht] at hval
  obtain ⟨cs, rfl, hsz, _⟩ := hval
  obtain ⟨fuel, hf⟩ := hd
  have hf : DataW.trod enc P w base sp held fuel t cs.toList = some (d, ps) := by simpa [Value.cells] using hf
  obtain ⟨hl, hz⟩ := cells_of_nums ht he hce hct hf
  refine ⟨cs.toList.map fun v => match v with | .int _ z => z | _ => 0, ?_, by simpa using hl, ?_⟩
  · congr 1
    apply Array.ext_getElem?
    intro i
    by_cases hi : i < n
    · obtain ⟨z, hc, _⟩ := hz i hi
      have : cs[i]? = some (.int k z) := by simpa using hc
      simp [this]
    · have : cs[i]? = none := Array.getElem?_eq_none (by simp at hl; omega)
      simp [this]
  · intro z hzm
    obtain ⟨v, hv, rfl⟩ := List.mem_map.1 hzm
    obtain ⟨i, hi, rfl⟩ := List.getElem_of_mem hv
    obtain ⟨z, hc, hw⟩ := hz i (by simp at hi hl; omega)
    rw [List.getElem?_eq_getElem hi] at hc
    rw [Option.some.inj hc]
    exact hw
theorem ce5 : Tryd.prog.cellsOf 5 = 1 := by kernel_rfl
theorem ce33 : Tryd.prog.cellsOf 33 = 64 := by kernel_rfl
/-- Eight numbers of 32 bits are a state. -/
theorem st_of (zs : List Int) (h : zs.length = 8) (hw : ∀ z ∈ zs, (Lit.int .u32 z).wf = true) : ∃ s : St, (zs.map (Value.int .u32)).toArray = wds s.list := by
  have hz : ∀ z ∈ zs, ∃ x : BitVec 32, z = V x := by
    intro z hz
    have := hw z hz
    simp [Lit.wf, IntKind.min, IntKind.max, IntKind.signed, IntKind.bits] at this
    refine ⟨BitVec.ofInt 32 z, ?_⟩
    obtain ⟨n, rfl⟩ := Int.eq_ofNat_of_zero_le this.1
    unfold V; rw [BitVec.ofInt_natCast, BitVec.toNat_ofNat]; omega
  match zs, h with
  | [a, b, c, d, e, f, g, i], _ =>
    obtain ⟨a, rfl⟩ := hz a (by simp)
    obtain ⟨b, rfl⟩ := hz b (by simp)
    obtain ⟨c, rfl⟩ := hz c (by simp)
    obtain ⟨d, rfl⟩ := hz d (by simp)
    obtain ⟨e, rfl⟩ := hz e (by simp)
    obtain ⟨f, rfl⟩ := hz f (by simp)
    obtain ⟨g, rfl⟩ := hz g (by simp)
    obtain ⟨i, rfl⟩ := hz i (by simp)
    exact ⟨⟨a, b, c, d, e, f, g, i⟩, rfl⟩
end Go.Proofs.YtikmfaeiecpncaaDoor
