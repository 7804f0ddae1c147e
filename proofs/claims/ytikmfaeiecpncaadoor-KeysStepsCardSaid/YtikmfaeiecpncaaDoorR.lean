/- A region that draws its order, by an invariant over what is done: one step an operation, no ways. -/
import Derived.Test.YtikmfaeiecpncaaDoorD
import Derived.Orders
import Derived.BigFrame
namespace Go.Proofs.YtikmfaeiecpncaaDoor
open Go

def upd (d : Nat → Bool) (i : Nat) : Nat → Bool := fun j => if j = i then true else d j
/-- What operation i of a region does, once what it waits for is done. -/
theorem region_inv {P : Program} {id : Nat} {ops : Array Oper} {Q : Exit → Act → World → Prop} {a : Act} {w : World} (hm : P.follows .mixedOrders = true)
    (hord : (List.range ops.size).all (fun i => ((ops[i]?).map fun o => o.after.all fun e => !Region.binds .any e || decide (e.on < i)).getD true) = true)
    (I : (Nat → Bool) → Act → World → Prop)
    (h0 : I (fun _ => false) a w.drew)
    (hs : ∀ (d : Nat → Bool) (a : Act) (w : World) (i : Nat) (o : Oper), ops[i]? = some o → I d a w → (o.after.all fun e => !Region.binds .any e || d e.on) = true → d i = false → wpOp P ops Q i (I (upd d i)) a w)
    (he : ∀ (d : Nat → Bool) (a : Act) (w : World), (∀ i, i < ops.size → d i = true) → I d a w → Q .normal a w) : (Code.region id ops true).wp P Q a w := by
  refine wp_region_any hm ?_
  have ready_nil : ∀ listed : Array Bool, listed.size = ops.size → Region.ready .any ops listed = [] → ∀ i, i < ops.size → listed.getD i false = true := by
    intro listed hsz hr i hi
    induction i using Nat.strongRecOn with
    | _ i ih =>
      cases hl : listed.getD i false with
      | true => rfl
      | false =>
        exfalso
        have : i ∈ Region.ready .any ops listed := by
          unfold Region.ready
          rw [List.mem_filter]
          refine ⟨List.mem_range.2 hi, ?_⟩
          have hl' : listed.getD i true = false := by
            simp only [Array.getD, hsz, hi, dif_pos] at hl ⊢
            exact hl
          rw [hl', Array.getElem?_eq_getElem hi]
          simp only [Bool.not_false, Bool.true_and, Option.map_some, Option.getD_some]
          have ho := List.all_eq_true.1 hord i (List.mem_range.2 hi)
          rw [Array.getElem?_eq_getElem hi] at ho
          simp only [Option.map_some, Option.getD_some] at ho
          rw [Array.all_eq_true_iff_forall_mem] at ho ⊢
          intro e hee
          have h1 := ho e hee
          cases hb : Region.binds .any e with
          | false => rfl
          | true =>
            rw [hb] at h1
            simp only [Bool.not_true, Bool.false_or, decide_eq_true_eq] at h1 ⊢
            exact ih e.on h1 (by omega)
        rw [hr] at this
        cases this
  have main : ∀ (fuel : Nat) (listed : Array Bool) (a : Act) (w : World), listed.size = ops.size → (listed.toList.count false ≤ fuel) → I (fun i => listed.getD i false) a w → wpAny P .any ops Q fuel listed a w := by
    intro fuel
    induction fuel with
    | zero =>
      intro listed a w hsz hc hI
      have hall : ∀ i, i < ops.size → listed.getD i false = true := by
        intro i hi
        have hi' : i < listed.size := by omega
        have : (listed[i]'hi') ≠ false := by
          intro hf
          have : false ∈ listed.toList := by rw [← hf]; exact Array.getElem_mem_toList hi'
          have := List.count_pos_iff.2 this
          omega
        simp only [Array.getD, hi', dif_pos]
        cases hx : listed[i]'hi' with
        | true => exact hx
        | false => exact absurd hx this
      refine ⟨?_, he _ _ _ hall hI⟩
      apply List.eq_nil_iff_forall_not_mem.2
      intro i hi
      unfold Region.ready at hi
      rw [List.mem_filter] at hi
      have hlt := List.mem_range.1 hi.1
      have h1 := hall i hlt
      have h2 : listed.getD i true = true := by
        simp only [Array.getD, hsz, hlt, dif_pos] at h1 ⊢
        exact h1
      rw [h2] at hi
      simp at hi
    | succ fuel ih =>
      intro listed a w hsz hc hI
      refine ⟨fun hr => he _ _ _ (ready_nil listed hsz hr) hI, ?_⟩
      intro i hi
      unfold Region.ready at hi
      rw [List.mem_filter] at hi
      obtain ⟨hi1, hi2⟩ := hi
      have hlt := List.mem_range.1 hi1
      have hlt' : i < listed.size := by omega
      simp only [Bool.and_eq_true, Bool.not_eq_true', Array.getElem?_eq_getElem hlt, Option.map_some, Option.getD_some] at hi2
      obtain ⟨hi2, hi3⟩ := hi2
      have hf : listed[i]'hlt' = false := by
        simp only [Array.getD, hlt', dif_pos] at hi2
        exact hi2
      refine wpOp_mono ?_ (hs _ a w i _ (Array.getElem?_eq_getElem hlt) hI hi3 (by simp only [Array.getD, hlt', dif_pos]; exact hf))
      intro a' w' hI'
      refine ih _ a' w' (by simp [hsz]) ?_ ?_
      · have h2 : (listed.setIfInBounds i true).toList = listed.toList.set i true := by simp
        rw [h2]
        have hlt2 : i < listed.toList.length := by simpa using hlt'
        have h3 := List.count_set (a := true) (b := false) hlt2
        rw [h3]
        have h4 : listed.toList[i] = false := by simpa using hf
        rw [h4]
        simp
        have : 0 < listed.toList.count false := List.count_pos_iff.2 (by rw [← h4]; exact List.getElem_mem hlt2)
        simp at this hc
        omega
      · have : (fun j => (listed.setIfInBounds i true).getD j false) = upd (fun j => listed.getD j false) i := by
          funext j
          unfold upd
          simp only [Array.getD_eq_getD_getElem?]
          rw [Array.getElem?_setIfInBounds]
          split
          · rename_i hij; subst hij; simp
          · rename_i hij; rw [if_neg (fun e => hij e.symm)]
        rw [this]
        exact hI'
  refine main ops.size _ a _ (by simp) (by simp) ?_
  have : (fun i => (Array.replicate ops.size false).getD i false) = fun _ => false := by
    funext i
    simp only [Array.getD_eq_getD_getElem?]
    by_cases hi : i < ops.size
    · simp [hi]
    · simp [hi]
  rw [this]
  exact h0
theorem region_invA {P : Program} {id : Nat} {ops : Array Oper} {Q : Exit → Act → World → Prop} {a : Act} {w : World} (hm : P.follows .mixedOrders = true)
    (hord : (List.range ops.size).all (fun i => ((ops[i]?).map fun o => o.after.all fun e => !Region.binds .any e || decide (e.on < i)).getD true) = true)
    (I : Act → (Nat → Bool) → Act → World → Prop)
    (h0 : I a (fun _ => false) a w.drew)
    (hs : ∀ (d : Nat → Bool) (a' : Act) (w : World) (i : Nat) (o : Oper), ops[i]? = some o → I a d a' w → (o.after.all fun e => !Region.binds .any e || d e.on) = true → d i = false → wpOp P ops Q i (I a (upd d i)) a' w)
    (he : ∀ (d : Nat → Bool) (a' : Act) (w : World), (∀ i, i < ops.size → d i = true) → I a d a' w → Q .normal a' w) : (Code.region id ops true).wp P Q a w :=
  region_inv hm hord (I a) h0 hs he
theorem wpOp_plain {P : Program} {ops : Array Oper} {Q : Exit → Act → World → Prop} {i : Nat} {o : Oper} {a : Act} {w : World} {K : Act → World → Prop} (ho : ops[i]? = some o) (hg : o.guard = none) (h : o.wp P a w K Q) : wpOp P ops Q i K a w := by
  unfold wpOp
  simp only [ho, Region.wanted, hg, if_true]
  exact .inl h
theorem put_same (a : Act) (i : Nat) (x y : Value) : (a.put (some i) x).put (some i) y = a.put (some i) y := by
  simp [Act.put]
theorem put_swap (a : Act) {i j : Nat} (h : i ≠ j) (x y : Value) : (a.put (some i) x).put (some j) y = (a.put (some j) y).put (some i) x := by
  simp only [Act.put]
  congr 1
  exact Array.setIfInBounds_comm _ _ h
theorem put_none (a : Act) (x : Value) : a.put none x = a := rfl
theorem eval_same (a : Act) (i : Nat) (x : Value) (h : i < a.tmps.size) : (a.put (some i) x).eval (.tmp i) = x := by
  simp [Act.put, Act.eval, h]
theorem eval_ne (a : Act) {i j : Nat} (x : Value) (h : i ≠ j) : (a.put (some i) x).eval (.tmp j) = a.eval (.tmp j) := by
  simp [Act.put, Act.eval, h]
theorem size_put (a : Act) (i : Nat) (x : Value) : (a.put (some i) x).tmps.size = a.tmps.size := by simp [Act.put]
theorem wp_call_go {P : Program} {o : Oper} {a : Act} {w : World} {K : Act → World → Prop} {Q : Exit → Act → World → Prop} {f : FuncId} {fn : Func} {c : Code} {args : Array Operand} {tys : Array TypeId}
    (ho : o.op = .call { callee := .value (.func f), args := args, argTypes := tys }) (hf : P.funcs[f]? = some fn) (hname : (fn.name == "runtime.NumGoroutine") = false) (hb : fn.body = some c)
    (h : Calls P f (args.map a.eval) w fun e w' => ∃ v, e = .returned v ∧ K (a.put o.dst v) w') : o.wp P a w K Q := by
  have h1 : fn.name ≠ "runtime.NumGoroutine" := by simpa using hname
  have hr : (execOp a.eval o).run P w = .ok (.enter f (args.map a.eval)) w := by
    simp [execOp, ho, resolve, Act.eval, Deferred.ofValue, invoke, callFunc, hf, h1, hb]
  unfold Oper.wp
  rw [hr, Oper.upon_enter]
  exact h.mono fun e w' ⟨v, he, hk⟩ => by subst he; exact hk
theorem wp_run {P : Program} {o : Oper} {a : Act} {w w' : World} {K : Act → World → Prop} {Q : Exit → Act → World → Prop} {v : Value} (hr : (execOp a.eval o).run P w = .ok (.value v) w') (h : K (a.put o.dst v) w') : o.wp P a w K Q := by
  unfold Oper.wp
  rw [hr, Oper.upon_value]
  exact h
end Go.Proofs.YtikmfaeiecpncaaDoor
