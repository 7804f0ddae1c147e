/- Small lemmas on slices of numbers, on worlds, and on results, without a program. -/
import Derived.WalkKit
import Derived.WalkSpells
import Derived.Lib.Hide
import Derived.Deep.QuietTactic
import Derived.BigQuiet
import Derived.Maps.AppendAt
import Derived.Laws.AppendOwnNone
namespace Go.Proofs.YtikmfaeiecpncaaDoor
open Go.RowKit

theorem ret_int {k : IntKind} {a b : Int} (h : a = b) : Ending.returned (.int k a) = .returned (.int k b) := by rw [h]
theorem ret_bool {a b : Bool} (h : a = b) : Ending.returned (.bool a) = .returned (.bool b) := by rw [h]
theorem name_it {α : Type} (a : α) : ∃ x, Hid (x = a) := ⟨_, rfl⟩

theorem below_drewN {B : Nat} {a w : World} (h : Below B a w) (n : Nat) : Below B a (w.drewN n) := ⟨h.os, h.tape, h.output, h.size, h.block⟩
theorem grown_of_below {w w' : World} (h : Below w.heap.size w w') : w.grownBy w' none := ⟨h.os, h.tape, h.output, h.size, fun q hq _ => h.block q hq⟩
theorem below_grown_none {w0 w w' : World} (hg : w.grownBy w' (Value.ownBlock (.slice none 0 0))) (hs : w0.heap.size ≤ w.heap.size := by simp) : Below w0.heap.size w w' :=
  ⟨hg.os, hg.tape, hg.output, hg.size, fun q hq => hg.block q (by omega) (by simp [Value.ownBlock])⟩
theorem cell_lt {w : World} {a : Addr} {v : Value} (h : w.cell? a = some v) : a.block < w.heap.size := by
  unfold World.cell? at h
  rcases Nat.lt_or_ge a.block w.heap.size with h' | h'
  · exact h'
  · simp [Array.getElem?_eq_none h'] at h

/-- A slice value whose cells read as these numbers. -/
def NumsAt (k : IntKind) (w : World) (v : Value) (xs : List Int) : Prop :=
  ∃ a cap, v = .slice a xs.length cap ∧ xs.length ≤ cap ∧ cap ≤ 9223372036854775807 ∧ (a = none → cap = 0) ∧
    (xs = [] ∨ ∃ b off, a = some ⟨b, off, none⟩ ∧ ∀ i, i < xs.length → w.cell? ⟨b, off + i, none⟩ = some (.int k (xs.getD i 0)))

theorem NumsAt.len {k : IntKind} {w : World} {v : Value} {xs : List Int} (h : NumsAt k w v xs) : xs.length ≤ 9223372036854775807 := by
  obtain ⟨a, cap, _, h1, h2, _⟩ := h; omega
theorem NumsAt.form {k : IntKind} {w : World} {v : Value} {xs : List Int} (h : NumsAt k w v xs) :
    ∃ a cap, v = .slice a xs.length cap ∧ xs.length ≤ 9223372036854775807 ∧ ∃ b off, Hid (∀ i, i < xs.length → a = some ⟨b, off, none⟩ ∧ w.cell? ⟨b, off + i, none⟩ = some (.int k (xs.getD i 0))) := by
  have hl := h.len
  obtain ⟨a, cap, he, _, _, _, h⟩ := h
  refine ⟨a, cap, he, hl, ?_⟩
  rcases h with rfl | ⟨b, off, ha, hc⟩
  · exact ⟨0, 0, fun i hi => by simp at hi⟩
  · exact ⟨b, off, fun i hi => ⟨ha, hc i hi⟩⟩
theorem NumsAt.below {k : IntKind} {w w' : World} {v : Value} {xs : List Int} (h : NumsAt k w v xs) (hb : Below w.heap.size w w') : NumsAt k w' v xs := by
  obtain ⟨a, cap, hv, h1, h2, h3, h⟩ := h
  refine ⟨a, cap, hv, h1, h2, h3, h.imp id fun ⟨b, off, ha, hc⟩ => ⟨b, off, ha, fun i hi => ?_⟩⟩
  have := cell_lt (hc i hi)
  exact (hb.cell (p := ⟨b, off + i, none⟩) this).trans (hc i hi)
theorem nums_nil (k : IntKind) (w : World) : NumsAt k w (.slice none 0 0) [] := ⟨none, 0, rfl, by simp, by omega, fun _ => rfl, .inl rfl⟩
theorem nums_made (k : IntKind) (e : TypeId) (w : World) (xs : List Int) (hl : xs.length ≤ 1000000) : NumsAt k (w.alloc (.cells (xs.map (Value.int k)).toArray e)) (.slice (some ⟨w.heap.size, 0, none⟩) xs.length xs.length) xs := by
  refine ⟨_, _, rfl, Nat.le_refl _, by omega, fun h => (by cases h), .inr ⟨_, _, rfl, fun i hi => ?_⟩⟩
  have := heap_alloc_new w (.cells (xs.map (Value.int k)).toArray e)
  rw [World.cell?, this]
  simp [List.getElem?_eq_getElem hi]

/-- The slice v owns these numbers, in a block from 'base' on. -/
def OwnNums (k : IntKind) (e : TypeId) (w : World) (base : Nat) (v : Value) (xs : List Int) : Prop := w.ownsRow base e 1 v xs.length (xs.map (Value.int k))

theorem OwnNums.nil (k : IntKind) (e : TypeId) (w : World) (base : Nat) : OwnNums k e w base (.slice none 0 0) [] := World.ownsRow_nil _ _ _ _
theorem OwnNums.below {k : IntKind} {e : TypeId} {w w' : World} {base : Nat} {v : Value} {xs : List Int} (h : OwnNums k e w base v xs) (hb : Below w.heap.size w w') : OwnNums k e w' base v xs :=
  World.ownsRow.kept h (grown_of_below hb) (by cases v.ownBlock <;> simp)
theorem OwnNums.alloc {k : IntKind} {e : TypeId} {w : World} {base : Nat} {v : Value} {xs : List Int} (h : OwnNums k e w base v xs) (o : Obj) : OwnNums k e (w.alloc o) base v xs := World.ownsRow.alloc h o
theorem OwnNums.mono {k : IntKind} {e : TypeId} {w : World} {base base' : Nat} {v : Value} {xs : List Int} (h : OwnNums k e w base v xs) (hb : base' ≤ base) : OwnNums k e w base' v xs :=
  ⟨h.1, h.2.imp id (fun ⟨g, cap, cur, h1, h2, h3⟩ => ⟨g, cap, cur, h1, by omega, h3⟩)⟩
theorem OwnNums.lt {k : IntKind} {e : TypeId} {w : World} {base : Nat} {v : Value} {xs : List Int} (h : OwnNums k e w base v xs) : ∀ j, v.ownBlock = some j → base ≤ j := fun j hj => (World.ownsRow.lt h j hj).1
theorem OwnNums.nums {k : IntKind} {e : TypeId} {w : World} {base : Nat} {v : Value} {xs : List Int} (h : OwnNums k e w base v xs) : NumsAt k w v xs := by
  have h' := h
  obtain ⟨h1, h2⟩ := h
  rcases h2 with ⟨hv, hn⟩ | ⟨g, cap, cur, hv, _, hh, hc, hm, _⟩
  · exact ⟨none, 0, by rw [hv, hn], by omega, by omega, fun _ => rfl, .inl (List.length_eq_zero_iff.1 hn)⟩
  · refine ⟨some ⟨g, 0, none⟩, cap, hv, hc, by unfold maxLen at hm; omega, fun h => (by cases h), .inr ⟨g, 0, rfl, fun i hi => ?_⟩⟩
    subst hv
    have := World.ownsRow.cellAt h' i (by omega)
    rw [Nat.zero_add, this]
    simp [List.getElem?_eq_getElem hi]

/-- 'append(v, u...)', v the call's own (or nil), u whatever slice of numbers. -/
theorem wpList_append_nums {P : Program} {w : World} {ops : Array Oper} {rest : List Oper} {o : Oper} {a : Act} {Q : Exit → Act → World → Prop} (hgd : o.guard = none) (s x : Operand) (t : TypeId)
    (ho : o.op = .call { callee := .builtin .append, args := #[s, x], argTypes := #[t, t] })
    (k : IntKind) (base : Nat) (e : TypeId) (i : TypeInfo) (bytes : Nat) (ht : P.underlying t = some (.slice e)) (hi : P.info? e = some i) (hz : i.zero = some (.int k 0))
    (hsize : i.size = 1) (hby : i.bytes = bytes)
    (v u : Value) (xs ys : List Int) (hs : a.eval s = v) (hown : OwnNums k e w base v xs) (hx : a.eval x = u) (hu : NumsAt k w u ys)
    (hlen : xs.length + ys.length ≤ 9223372036854775807) (hbytes : (xs.length + ys.length) * bytes ≤ 140737488355328) (hbase : base ≤ w.heap.size)
    (h : ∀ v' w', OwnNums k e w' base v' (xs ++ ys) → w.grownBy w' v.ownBlock → wpList P ops Q rest (a.put o.dst v') w') : wpList P ops Q (o :: rest) a w := by
  obtain ⟨ad, cap, rfl, hc1, hc2, hc3, hu⟩ := hu
  cases ad with
  | none =>
    have hcap := hc3 rfl
    have hy : ys = [] := List.length_eq_zero_iff.1 (by omega)
    subst hy hcap
    refine wpList_append_own_none hgd s x t ho base e i 1 ht hi v xs.length _ hs hown hx (h v w ?_ ⟨rfl, rfl, rfl, Nat.le_refl _, fun _ _ _ => rfl⟩)
    simpa using hown
  | some p =>
    refine wpList_append_own w hgd s x t ho base e i (.int k 0) 1 bytes ht hi hz hsize hby rfl (by decide) v xs.length _ hs hown p ys.length cap (ys.map (Value.int k)) hx (by simp) ?_ (ints_oneCell k ys) (by unfold maxLen; omega) hbytes hbase ?_
    · intro j q hq
      rcases hu with rfl | ⟨b, off, hp, hcells⟩
      · simp at hq
      · obtain rfl := Option.some.inj hp
        rw [List.getElem?_map] at hq
        obtain ⟨y, hy, rfl⟩ := Option.map_eq_some_iff.1 hq
        obtain ⟨hj, rfl⟩ := List.getElem?_eq_some_iff.1 hy
        have := hcells j hj
        simp only [List.getD, List.getElem?_eq_getElem hj, Option.getD_some] at this
        have ea : (Addr.add ⟨b, off, none⟩ j) = ⟨b, off + j, none⟩ := by
          unfold Addr.add
          split
          · rename_i h0; subst h0; rfl
          · rfl
        rw [ea, this]
    · intro v' w' h1 h2 _
      exact h v' w' (by simpa [OwnNums] using h1) h2

def In64 (x : Int) : Prop := -9223372036854775808 ≤ x ∧ x ≤ 9223372036854775807
theorem in64_of_wf {x : Int} (h : (Lit.int .i64 x).wf = true) : In64 x := by
  simp [Lit.wf, IntKind.min, IntKind.max, IntKind.signed, IntKind.bits] at h
  exact ⟨by omega, by omega⟩
theorem in8_of_wf {x : Int} (h : (Lit.int .u8 x).wf = true) : 0 ≤ x ∧ x ≤ 255 := by
  simp [Lit.wf, IntKind.min, IntKind.max, IntKind.signed, IntKind.bits] at h
  exact ⟨by omega, by omega⟩

/-- What a slice of integers that came in is (the frame's own 'IsRow'), in these words. -/
theorem nums_of_row {k : IntKind} {w : World} {a : Option Addr} {len cap : Nat} {zs : List Int}
    (h : (a = none ∧ len = 0 ∧ cap = 0 ∧ zs = []) ∨ ∃ x, a = some x ∧ len ≤ cap ∧ cap ≤ maxLen ∧ zs.length = cap ∧ (∀ i, i < zs.length → w.cell? (x.add i) = some (.int k (zs.getD i 0))) ∧ ∀ n ∈ zs, (Lit.int k n).wf = true) :
    ∃ xs : List Int, NumsAt k w (.slice a len cap) xs ∧ xs.length = len ∧ ∀ n ∈ xs, (Lit.int k n).wf = true := by
  rcases h with ⟨rfl, rfl, rfl, rfl⟩ | ⟨x, rfl, hl, hm, hz, hc, hw⟩
  · exact ⟨[], nums_nil k w, rfl, fun n hn => by cases hn⟩
  · refine ⟨zs.take len, ⟨some x, cap, by rw [List.length_take, Nat.min_eq_left (by omega)], by simp; omega, by unfold maxLen at hm; omega, (fun h => by cases h), ?_⟩, by simp; omega, fun n hn => hw n (List.mem_of_mem_take hn)⟩
    by_cases h0 : len = 0
    · subst h0; exact .inl (by simp)
    · obtain ⟨b, off, spot⟩ := x
      have h1 := hc 0 (by omega)
      have hspot : spot = none := by simpa [Addr.add] using World.cell?_spot h1
      subst hspot
      refine .inr ⟨b, off, rfl, fun i hi => ?_⟩
      have hi' : i < len := by simp at hi; omega
      have h2 := hc i (by omega)
      have ea : (Addr.add ⟨b, off, none⟩ i) = ⟨b, off + i, none⟩ := by
        unfold Addr.add
        split
        · rename_i h0; subst h0; rfl
        · rfl
      rw [ea] at h2
      rw [h2]
      congr 2
      simp [List.getD, hi']
end Go.Proofs.YtikmfaeiecpncaaDoor
