/- A region that draws its order, in which rows of the call's own are marked too ('[]byte' of a constant). -/
import Derived.Test.YtikmfaeiecpncaaDoorKK
namespace Go.Proofs.YtikmfaeiecpncaaDoor
open Go Go.RowKit

/-- Blocks below N are as they were; of the others each cell that was there is as it was: but for the marks. -/
def Soft (N : Nat) (w w' : World) : Prop := Below N w w' ∧ (∀ (p : Addr) (v : Value), w.cell? p = some v → w'.cell? p = some v) ∧ ∀ (k : Nat) (C : Array Value) (t : TypeId) (fr : Nat × Nat), w.heap[k]? = some (Obj.cells C t fr) → ∃ fr', w'.heap[k]? = some (Obj.cells C t fr')
theorem soft_of {N : Nat} {w w' : World} (hN : N ≤ w.heap.size) (h : Below w.heap.size w w') : Soft N w w' := by
  refine ⟨h.mono hN, fun p v hv => (h.cell (p := p) (World.block_lt_of_cell? w p hv)).trans hv, fun k C t fr hk => ⟨fr, ?_⟩⟩
  have hlt : k < w.heap.size := by
    rcases Nat.lt_or_ge k w.heap.size with h' | h'
    · exact h'
    · rw [Array.getElem?_eq_none h'] at hk; cases hk
  exact (h.block k hlt).trans hk
theorem NumsAt.soft {N : Nat} {w w' : World} {k : IntKind} {v : Value} {xs : List Int} (h : NumsAt k w v xs) (hs : Soft N w w') : NumsAt k w' v xs := by
  obtain ⟨a, cap, e, h1, h2, h3, hc⟩ := h
  refine ⟨a, cap, e, h1, h2, h3, ?_⟩
  rcases hc with h | ⟨b, o, e2, hc⟩
  · exact .inl h
  · exact .inr ⟨b, o, e2, fun i hi => hs.2.1 _ _ (hc i hi)⟩
theorem sl_soft {N : Nat} {W W' : World} {v : Value} {xs : List Int} (h : ∃ a n k, v = Value.slice a n k ∧ NumsAt .u8 W v xs) (hb : Soft N W W') : ∃ a n k, v = Value.slice a n k ∧ NumsAt .u8 W' v xs := by
  obtain ⟨a, n, k, e, h⟩ := h
  exact ⟨a, n, k, e, h.soft hb⟩
/-- A row that the call made: of a block from N on, marked or not. -/
def RowAt (N : Nat) (w : World) (v : Value) (xs : List Int) : Prop := ∃ (b : Nat) (fr : Nat × Nat), v = .slice (some ⟨b, 0, none⟩) xs.length xs.length ∧ N ≤ b ∧ w.heap[b]? = some (Obj.cells (bys xs) 5 fr)
theorem RowAt.soft {N N' : Nat} {w w' : World} {v : Value} {xs : List Int} (h : RowAt N w v xs) (hs : Soft N' w w') : RowAt N w' v xs := by
  obtain ⟨b, fr, e, h1, h2⟩ := h
  obtain ⟨fr', h3⟩ := hs.2.2 _ _ _ _ h2
  exact ⟨b, fr', e, h1, h3⟩
theorem RowAt.nums {N : Nat} {w : World} {v : Value} {xs : List Int} (h : RowAt N w v xs) (hl : xs.length ≤ 1000000) : NumsAt .u8 w v xs := by
  obtain ⟨b, fr, rfl, h1, h2⟩ := h
  refine ⟨_, _, rfl, Nat.le_refl _, by omega, fun h => (by cases h), .inr ⟨b, 0, rfl, fun i hi => ?_⟩⟩
  rw [World.cell?, h2, Nat.zero_add]
  exact bys_at xs i hi
theorem spec_soft {N : Nat} {w w' : World} {p : Prop} (h : p) (_ : Soft N w w') : p := h
/-- '[]byte' of a constant: the row is marked. -/
theorem conv_soft {N : Nat} {w : World} {v : Value} {xs : List Int} (h : RowAt N w v xs) : ∃ w', (convert 22 22 v).run Tryd.prog w = .ok v w' ∧ Soft N w w' := by
  obtain ⟨b, fr, rfl, h1, h2⟩ := h
  have hsh : w.shape? b = some (5, (bys xs).size) := by
    unfold World.shape?
    rw [h2]
  refine ⟨w.freeze ⟨b, (bys xs).size, none⟩ 1, ?_, ?_⟩
  · simp [convert, run_underlying Tryd.underlying22, run_underlying Tryd.underlying5, markStringish, hsh]
  · have hfz : ∃ f : Obj → Obj, w.freeze ⟨b, (bys xs).size, none⟩ 1 = { w with heap := w.heap.modify b f } ∧ ∀ (C : Array Value) (t : TypeId) (r : Nat × Nat), ∃ r', f (Obj.cells C t r) = Obj.cells C t r' := by
      refine ⟨_, by unfold World.freeze; rw [if_neg (by decide)], fun C t r => ?_⟩
      obtain ⟨lo, hi⟩ := r
      exact ⟨_, rfl⟩
    obtain ⟨f, e, hf⟩ := hfz
    rw [e]
    have hlt : b < w.heap.size := by
      rcases Nat.lt_or_ge b w.heap.size with h' | h'
      · exact h'
      · rw [Array.getElem?_eq_none h'] at h2; cases h2
    have hother : ∀ k, k ≠ b → (w.heap.modify b f)[k]? = w.heap[k]? := fun k hk => by
      rw [Array.getElem?_modify, if_neg (fun h => hk h.symm)]
    obtain ⟨r', hr'⟩ := hf (bys xs) 5 fr
    have hself : (w.heap.modify b f)[b]? = some (.cells (bys xs) 5 r') := by
      rw [Array.getElem?_modify, if_pos rfl, h2]
      simp [hr']
    refine ⟨⟨rfl, rfl, rfl, by simp, fun k hk => hother k (by omega)⟩, fun p u hu => ?_, fun k C t r hk => ?_⟩
    · by_cases hp : p.block = b
      · unfold World.cell? at hu ⊢
        rw [hp] at hu ⊢
        rw [h2] at hu
        show (match (w.heap.modify b f)[b]? with | _ => _) = _
        rw [hself]
        exact hu
      · rw [← hu]
        exact World.cell?_of_block (hother _ hp)
    · by_cases hkb : k = b
      · subst hkb
        rw [h2] at hk
        obtain ⟨rfl, rfl, rfl⟩ : bys xs = C ∧ (5 : TypeId) = t ∧ fr = r := by simpa using hk
        exact ⟨r', hself⟩
      · exact ⟨r, (hother k hkb).trans hk⟩
def stepS (N : Nat) (Q : Exit → Act → World → Prop) (o : Oper) (S : World → Value → Prop) (w : World) (A : Act) : Exit → Act → World → Prop
  | .normal, a, w' => ∃ v, a = A.put o.dst v ∧ Soft N w w' ∧ S w' v
  | e, a, w' => Q e a w'
theorem wp_stepS {P : Program} {o o' : Oper} {Q : Exit → Act → World → Prop} {S : World → Value → Prop} {K : Act → World → Prop} {A a : Act} {w w0 : World} {N : Nat} (h : o'.wp P a w K (stepS N Q o S w0 A)) : o'.wp P a w K Q := by
  unfold Oper.wp at *
  generalize (execOp a.eval o').run P w = r at *
  cases r with
  | ok n w' =>
    cases n <;> simp only [Oper.upon] at h ⊢ <;>
      first
        | exact h
        | exact Calls.mono h (fun e w'' he => by cases e <;> exact he)
  | halt x w' => cases x <;> simp only [Oper.upon] at h ⊢ <;> exact h
theorem any_relS {P : Program} {l : List Oper} {Q : Exit → Act → World → Prop} {a0 : Act} {w0 : World} (spec : Nat → World → Value → Prop) (hB : relB l = true)
    (stable : ∀ i w w' v, spec i w v → Soft w0.heap.size w w' → spec i w' v)
    (hs : ∀ i oi, l[i]? = some oi → ∀ x w, Below w0.heap.size w0 w → (∀ j, (ancs l.toArray i).contains j = true → spec j w (x j)) →
      wpList P l.toArray (stepS w0.heap.size Q oi (spec i) w (fill l 0 x a0)) [oi] (fill l 0 x a0) w)
    (he : ∀ x w, Below w0.heap.size w0 w → (∀ j, j < l.length → spec j w (x j)) → Q .normal (fill l 0 x a0) w) :
    wpAny P .any l.toArray Q l.length (Array.replicate l.length false) a0 w0.drew := by
  simp only [relB, Bool.and_eq_true, decide_eq_true_eq] at hB
  obtain ⟨hord, hnd⟩ := hB
  have main : ∀ (fuel : Nat) (listed : Array Bool) (x : Nat → Value) (w : World), listed.size = l.length → listed.toList.count false ≤ fuel → Closed l.toArray (fun j => listed.getD j false) → Below w0.heap.size w0 w → (∀ j, listed.getD j false = true → spec j w (x j)) →
      wpAny P .any l.toArray Q fuel listed (fill l 0 x a0) w := by
    intro fuel
    induction fuel with
    | zero =>
      intro listed x w hsz hc hcl hb hI
      have hall : ∀ i, i < l.length → listed.getD i false = true := by
        intro i hi
        have hi' : i < listed.size := by omega
        have : (listed[i]'hi') ≠ false := by
          intro hf
          have : false ∈ listed.toList := by rw [← hf]; exact Array.getElem_mem_toList hi'
          have := List.count_pos_iff.2 this
          omega
        simp only [Array.getD, hi', dif_pos]
        cases hx : listed[i]'hi' with
        | true => exact hx
        | false => exact absurd hx this
      refine ⟨?_, he x w hb fun j hj => hI j (hall j hj)⟩
      apply List.eq_nil_iff_forall_not_mem.2
      intro i hi
      obtain ⟨h1, h2, _⟩ := ready_iff.1 hi
      have h1' : i < l.length := by simpa using h1
      have := hall i h1'
      simp only [Array.getD_eq_getD_getElem?, Array.getElem?_eq_getElem (show i < listed.size by omega), Option.getD_some] at this h2
      rw [this] at h2; cases h2
    | succ fuel ih =>
      intro listed x w hsz hc hcl hb hI
      refine ⟨fun hr => he x w hb fun j hj => hI j (ready_nil hord (by simpa using hsz) hr j (by simpa using hj)), ?_⟩
      intro i hi
      obtain ⟨h1, h2, oi, hoi, h3⟩ := ready_iff.1 hi
      have h1' : i < l.length := by simpa using h1
      have hi' : i < listed.size := by omega
      have hoi' : l[i]? = some oi := by simpa using hoi
      have hstep := hs i oi hoi' x w hb fun j hj => hI j (clo_sound hcl i _ (deps_of hoi (d := fun j => listed.getD j false) h3) j (by simpa [ancs] using hj))
      have hf : listed[i]'hi' = false := by
        simp only [Array.getD, hi', dif_pos] at h2
        exact h2
      have hnext : ∀ a w', (∃ v, a = (fill l 0 x a0).put oi.dst v ∧ Soft w0.heap.size w w' ∧ spec i w' v) → wpAny P .any l.toArray Q fuel (listed.setIfInBounds i true) a w' := by
        rintro a w' ⟨v, rfl, hb', hv⟩
        rw [fill_put l 0 x a0 hnd i oi v hoi']
        refine ih _ _ w' (by simp [hsz]) ?_ (closed_set hcl hi' hoi h3) (hb.trans hb'.1) ?_
        · have h2 : (listed.setIfInBounds i true).toList = listed.toList.set i true := by simp
          rw [h2]
          have hlt2 : i < listed.toList.length := by simpa using hi'
          have h3 := List.count_set (a := true) (b := false) hlt2
          rw [h3]
          have h4 : listed.toList[i] = false := by simpa using hf
          rw [h4]
          simp
          have : 0 < listed.toList.count false := List.count_pos_iff.2 (by rw [← h4]; exact List.getElem_mem hlt2)
          simp at this hc
          omega
        · intro j hj
          rw [set_getD _ _ _ hi'] at hj
          unfold upd at hj
          by_cases hji : j = i
          · subst hji; simp only [Nat.zero_add, if_true]; exact hv
          · rw [if_neg hji] at hj
            rw [if_neg (by omega)]
            exact stable j w w' _ (hI j hj) hb'
      unfold wpOp
      simp only [hoi]
      unfold wpList at hstep
      split
      · rename_i hw; rw [if_pos hw] at hstep
        exact hstep.imp (fun h => wp_stepS (Oper.wp_mono hnext h)) id
      · rename_i hw; rw [if_neg hw] at hstep; exact hnext _ _ hstep
  obtain ⟨x, hx⟩ := fill_self l 0 a0
  have := main l.length (Array.replicate l.length false) x w0.drew (by simp) (by simp) (closed_none _ _) (below_drewN (Below.refl _ _) 1) (by
    intro j hj
    simp only [Array.getD_eq_getD_getElem?, Array.getElem?_replicate] at hj
    split at hj <;> cases hj)
  rwa [hx] at this

/-- The two together: each operation but the last by what is told of its value; then the last. -/
theorem region_relS {P : Program} {id : Nat} {l : List Oper} {o : Oper} {Q : Exit → Act → World → Prop} {a0 : Act} {w0 : World} (spec : Nat → World → Value → Prop) (hm : P.follows .mixedOrders = true) (hB : lastB l o = true) (hB2 : relB l = true)
    (stable : ∀ i w w' v, spec i w v → Soft w0.heap.size w w' → spec i w' v)
    (hs : ∀ i oi, l[i]? = some oi → ∀ x w, Below w0.heap.size w0 w → (∀ j, (ancs l.toArray i).contains j = true → spec j w (x j)) →
      wpList P l.toArray (stepS w0.heap.size (lastQ P (l ++ [o]).toArray o Q) oi (spec i) w (fill l 0 x a0)) [oi] (fill l 0 x a0) w)
    (he : ∀ x w, Below w0.heap.size w0 w → (∀ j, j < l.length → spec j w (x j)) → wpList P (l ++ [o]).toArray Q [o] (fill l 0 x a0) w) :
    (Code.region id (l ++ [o]).toArray true).wp P Q a0 w0 :=
  region_peel hm hB (any_relS spec hB2 stable hs he)

theorem region_relS_lit {P : Program} {id : Nat} {L l : List Oper} {o : Oper} {Q : Exit → Act → World → Prop} {a0 : Act} {w0 : World} (hS : Split L l o) (spec : Nat → World → Value → Prop) (hm : P.follows .mixedOrders = true) (hB : lastB l o = true) (hB2 : relB l = true)
    (stable : ∀ i w w' v, spec i w v → Soft w0.heap.size w w' → spec i w' v)
    (hs : ∀ i oi, l[i]? = some oi → ∀ x w, Below w0.heap.size w0 w → (∀ j, (ancs l.toArray i).contains j = true → spec j w (x j)) →
      wpList P l.toArray (stepS w0.heap.size (lastQ P L.toArray o Q) oi (spec i) w (fill l 0 x a0)) [oi] (fill l 0 x a0) w)
    (he : ∀ x w, Below w0.heap.size w0 w → (∀ j, j < l.length → spec j w (x j)) → wpList P L.toArray Q [o] (fill l 0 x a0) w) :
    (Code.region id L.toArray true).wp P Q a0 w0 := by
  obtain rfl := hS.eq
  exact region_relS spec hm hB hB2 stable hs he
end Go.Proofs.YtikmfaeiecpncaaDoor
