/- Slices of slices of bytes: what is appended to one. -/
import Derived.Test.YtikmfaeiecpncaaDoorJ
namespace Go.Proofs.YtikmfaeiecpncaaDoor
open Go.RowKit

theorem info22 : (Tryd.prog.info? 22).map (fun i => (i.zero, i.size, i.bytes)) = some (some (.slice none 0 0), 1, 24) := by kernel_rfl
theorem un41 : Tryd.prog.underlying 41 = some (.slice 22) := by kernel_rfl
/-- The cells of a row of slices, one by one. -/
theorem PartsAt.cells {w : World} {u : Value} {ps : List (List Int)} (h : PartsAt w u ps) : ∃ a cap, ∃ us : List Value, u = .slice a ps.length cap ∧ us.length = ps.length ∧ (a = none → cap = 0) ∧ (∀ i, i < ps.length → NumsAt .u8 w (us.getD i undef) (ps.getD i [])) ∧
    (ps = [] ∨ ∃ b off, a = some ⟨b, off, none⟩ ∧ ∀ i, i < ps.length → w.cell? ⟨b, off + i, none⟩ = some (us.getD i undef)) := by
  obtain ⟨a, cap, rfl, _, h2, b, off, h⟩ := h
  refine ⟨a, cap, (List.range ps.length).map fun i => (w.cell? ⟨b, off + i, none⟩).getD undef, rfl, by simp, h2, fun i hi => ?_, ?_⟩
  · obtain ⟨_, v, hc, hn⟩ := h i hi
    rw [getD_of _ _ _ _ hi, hc]; exact hn
  · rcases Nat.eq_zero_or_pos ps.length with h0 | h0
    · exact .inl (List.length_eq_zero_iff.1 h0)
    · refine .inr ⟨b, off, (h 0 h0).1, fun i hi => ?_⟩
      obtain ⟨_, v, hc, _⟩ := h i hi
      rw [getD_of _ _ _ _ hi, hc]; rfl
theorem nums_oneCell {k : IntKind} {w : World} {v : Value} {xs : List Int} (h : NumsAt k w v xs) : v.oneCell' = true := by
  obtain ⟨a, cap, rfl, _⟩ := h; rfl
/-- 'append(v, u...)': v the call's own row of slices, u any. -/
theorem wpList_append_parts {w w1 : World} {ops : Array Oper} {rest : List Oper} {o : Oper} {a : Act} {Q : Exit → Act → World → Prop} (hgd : o.guard = none) (s x : Operand)
    (ho : o.op = .call { callee := .builtin .append, args := #[s, x], argTypes := #[41, 41] }) (base : Nat)
    (v u : Value) (vs : List Value) (ps : List (List Int)) (hs : a.eval s = v) (hown : w.ownsRow base 22 1 v vs.length vs) (hx : a.eval x = u) (hu : PartsAt w1 u ps) (hw : Below w1.heap.size w1 w)
    (hlen : vs.length + ps.length ≤ 100000) (hbase : base ≤ w.heap.size)
    (h : ∀ (us : List Value) v' w', us.length = ps.length → (∀ i, i < ps.length → NumsAt .u8 w1 (us.getD i undef) (ps.getD i [])) → w'.ownsRow base 22 1 v' (vs.length + ps.length) (vs ++ us) → w.grownBy w' v.ownBlock → wpList Tryd.prog ops Q rest (a.put o.dst v') w') : wpList Tryd.prog ops Q (o :: rest) a w := by
  obtain ⟨i0, hi, hz0, hz1, hz2⟩ := info_parts info22
  obtain ⟨ad, cap, us, rfl, hul, hcap, hn, hc⟩ := hu.cells
  have hsome : ∀ p, us.length = ps.length → wpList Tryd.prog ops Q (o :: rest) a w ∨ ad ≠ some p := fun p _ => by
    by_cases hp : ad = some p
    · left
      subst hp
      refine wpList_append_own w hgd s x 41 ho base 22 i0 (.slice none 0 0) 1 24 un41 hi hz0 hz1 hz2 rfl (by decide) v vs.length _ hs hown p ps.length cap us hx (by rw [hul]; simp) ?_ ?_ (by unfold maxLen; omega) (by omega) hbase ?_
      · intro j q hq
        rcases hc with rfl | ⟨b, off, hb, hcell⟩
        · simp at hul; subst hul; simp at hq
        · obtain rfl := Option.some.inj hb
          obtain ⟨hj, rfl⟩ := List.getElem?_eq_some_iff.1 hq
          have := hcell j (by omega)
          replace this := (hw.cell (p := ⟨b, off + j, none⟩) (cell_lt this)).trans this
          simp only [List.getD, List.getElem?_eq_getElem hj, Option.getD_some] at this
          rw [add_plain, this]
      · intro q hq
        obtain ⟨j, hj, rfl⟩ := List.getElem_of_mem hq
        have := nums_oneCell (hn j (by omega))
        simpa only [List.getD, List.getElem?_eq_getElem hj, Option.getD_some] using this
      · intro v' w' h1 h2 _
        exact h us v' w' hul hn h1 h2
    · exact .inr hp
  cases ad with
  | some p => exact (hsome p hul).resolve_right (by simp)
  | none =>
    have hp0 : ps = [] := by
      rcases hc with h0 | ⟨b, off, hb, _⟩
      · exact h0
      · cases hb
    subst hp0
    obtain rfl := hcap rfl
    refine wpList_append_own_none hgd s x 41 ho base 22 i0 1 un41 hi v vs.length _ hs hown hx ?_
    obtain rfl : us = [] := List.length_eq_zero_iff.1 (by simpa using hul)
    refine h [] v w rfl hn ?_ ⟨rfl, rfl, rfl, Nat.le_refl _, fun _ _ _ => rfl⟩
    simpa using hown

/-! A row of slices, each of them owned. -/
def PartsOwn (w : World) (base : Nat) (v : Value) (ps : List (List Int)) : Prop :=
  ∃ us : List Value, us.length = ps.length ∧ w.ownsRow base 22 1 v ps.length us ∧ ∀ i, i < ps.length → OwnNums .u8 5 w base (us.getD i undef) (ps.getD i [])
theorem PartsOwn.nil (w : World) (base : Nat) : PartsOwn w base (.slice none 0 0) [] := ⟨[], rfl, World.ownsRow_nil _ _ _ _, fun i hi => by simp at hi⟩
theorem PartsOwn.below {w w' : World} {base : Nat} {v : Value} {ps : List (List Int)} (h : PartsOwn w base v ps) (hb : Below w.heap.size w w') : PartsOwn w' base v ps := by
  obtain ⟨us, h1, h2, h3⟩ := h
  exact ⟨us, h1, h2.kept (grown_of_below hb) (by cases v.ownBlock <;> simp), fun i hi => (h3 i hi).below hb⟩
theorem PartsOwn.at {w : World} {base : Nat} {v : Value} {ps : List (List Int)} (h : PartsOwn w base v ps) (hl : ps.length ≤ 100000) : PartsAt w v ps := by
  obtain ⟨us, h1, h2, h3⟩ := h
  have h2' := h2
  obtain ⟨_, h2 | ⟨g, cap, cur, rfl, _, hh, hc, hm, _⟩⟩ := h2
  · obtain ⟨rfl, hn⟩ := h2
    obtain rfl := List.length_eq_zero_iff.1 hn
    exact parts_nil w
  · refine ⟨some ⟨g, 0, none⟩, cap, rfl, by omega, fun h => (by cases h), g, 0, fun i hi => ⟨rfl, us.getD i undef, ?_, (h3 i hi).nums⟩⟩
    rw [Nat.zero_add, World.ownsRow.cellAt h2' i (by omega)]
    simp [List.getD, List.getElem?_eq_getElem (show i < us.length by omega)]
theorem parts_of_row {w : World} {base : Nat} {v : Value} {ps : List (List Int)} {us : List Value} (h2 : w.ownsRow base 22 1 v ps.length us) (h1 : us.length = ps.length) (hl : ps.length ≤ 100000) (h3 : ∀ i, i < ps.length → NumsAt .u8 w (us.getD i undef) (ps.getD i [])) : PartsAt w v ps := by
  have h2' := h2
  obtain ⟨_, h2 | ⟨g, cap, cur, rfl, _, hh, hc, hm, _⟩⟩ := h2
  · obtain ⟨rfl, hn⟩ := h2
    obtain rfl := List.length_eq_zero_iff.1 hn
    exact parts_nil w
  · refine ⟨some ⟨g, 0, none⟩, cap, rfl, by omega, fun h => (by cases h), g, 0, fun i hi => ⟨rfl, us.getD i undef, ?_, h3 i hi⟩⟩
    rw [Nat.zero_add, World.ownsRow.cellAt h2' i (by omega)]
    simp [List.getD, List.getElem?_eq_getElem (show i < us.length by omega)]
theorem PartsOwn.form {w : World} {base : Nat} {v : Value} {ps : List (List Int)} (h : PartsOwn w base v ps) : ∃ a n cap, v = .slice a n cap := by
  obtain ⟨us, h1, h2, h3⟩ := h
  obtain ⟨_, ⟨rfl, _⟩ | ⟨g, cap, cur, rfl, _⟩⟩ := h2
  · exact ⟨_, _, _, rfl⟩
  · exact ⟨_, _, _, rfl⟩
theorem PartsOwn.lt {w : World} {base : Nat} {v : Value} {ps : List (List Int)} (h : PartsOwn w base v ps) : ∀ j, v.ownBlock = some j → base ≤ j := by
  obtain ⟨us, h1, h2, h3⟩ := h
  exact fun j hj => (World.ownsRow.lt h2 j hj).1
/-- 'append(v, one)': a slice more. -/
theorem wpList_append_part {w : World} {ops : Array Oper} {rest : List Oper} {o : Oper} {a : Act} {Q : Exit → Act → World → Prop} (hgd : o.guard = none) (s x : Operand)
    (ho : o.op = .call { callee := .builtin .append, args := #[s, x], argTypes := #[41, 41] }) (base : Nat)
    (v u1 : Value) (b : Nat) (ty : TypeId) (ps : List (List Int)) (xs : List Int) (hs : a.eval s = v) (hown : PartsOwn w base v ps) (hx : a.eval x = .slice (some ⟨b, 0, none⟩) 1 1) (hc : Blk w b ty #[u1]) (hu : OwnNums .u8 5 w base u1 xs)
    (hlen : ps.length ≤ 1000) (hbase : base ≤ w.heap.size)
    (h : ∀ v' w', PartsOwn w' base v' (ps ++ [xs]) → w.grownBy w' v.ownBlock → wpList Tryd.prog ops Q rest (a.put o.dst v') w') : wpList Tryd.prog ops Q (o :: rest) a w := by
  obtain ⟨i0, hi, hz0, hz1, hz2⟩ := info_parts info22
  obtain ⟨us, h1, h2, h3⟩ := hown
  refine wpList_append_own w hgd s x 41 ho base 22 i0 (.slice none 0 0) 1 24 un41 hi hz0 hz1 hz2 rfl (by decide) v ps.length _ hs h2 ⟨b, 0, none⟩ 1 1 [u1] hx (by simp) ?_ ?_ (by unfold maxLen; omega) (by omega) hbase ?_
  · intro j q hq
    rcases j with _ | j
    · obtain rfl : u1 = q := by simpa using hq
      rw [add_plain, hc.cell]; rfl
    · simp at hq
  · intro q hq
    obtain rfl : q = u1 := by simpa using hq
    exact nums_oneCell hu.nums
  · intro v' w' h5 h6 _
    have apart : ∀ u zs, OwnNums .u8 5 w base u zs → u.ownBlock = none ∨ u.ownBlock ≠ v.ownBlock := by
      intro u zs hu
      obtain ⟨_, ⟨rfl, _⟩ | ⟨g, cap, cur, rfl, _, hh, _⟩⟩ := hu
      · exact .inl rfl
      · refine .inr fun e => ?_
        obtain ⟨_, ⟨rfl, _⟩ | ⟨g', cap', cur', rfl, _, hh', _⟩⟩ := h2
        · simp [Value.ownBlock] at e
        · obtain rfl : g = g' := by simpa [Value.ownBlock] using e
          rw [hh] at hh'
          simp at hh'
    refine h v' w' ⟨us ++ [u1], by simp [h1], by simpa using h5, fun i hi => ?_⟩ h6
    simp only [List.length_append, List.length_singleton] at hi
    by_cases hlt : i < ps.length
    · have := World.ownsRow.kept (h3 i hlt) h6 (apart _ _ (h3 i hlt))
      have e1 : (us ++ [u1]).getD i undef = us.getD i undef := by simp [List.getD, List.getElem?_append, show i < us.length by omega]
      have e2 : (ps ++ [xs]).getD i [] = ps.getD i [] := by simp [List.getD, List.getElem?_append, hlt]
      rw [e1, e2]; exact this
    · obtain rfl : i = ps.length := by omega
      have e1 : (us ++ [u1]).getD ps.length undef = u1 := by simp [List.getD, ← h1]
      have e2 : (ps ++ [xs]).getD ps.length [] = xs := by simp [List.getD]
      rw [e1, e2]
      exact World.ownsRow.kept hu h6 (apart _ _ hu)
end Go.Proofs.YtikmfaeiecpncaaDoor
