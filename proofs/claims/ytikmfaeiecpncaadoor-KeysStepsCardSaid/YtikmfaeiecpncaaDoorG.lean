/- Slices of bytes cut; an array of bytes read out of a slice; slices of slices. -/
import Derived.Test.YtikmfaeiecpncaaDoorF1
namespace Go.Proofs.YtikmfaeiecpncaaDoor
open Go.RowKit

theorem el22 : Tryd.prog.elem 22 = 5 := by kernel_rfl
theorem un22 : Tryd.prog.underlying 22 = some (.slice (Tryd.prog.elem 22)) := by kernel_rfl
/-- What a cut slice reads as. -/
theorem nums_cut {w : World} {a : Option Addr} {cap : Nat} {xs : List Int} (h : NumsAt .u8 w (.slice a xs.length cap) xs) (l hh m : Nat) (hl : l ≤ hh) (h1 : hh ≤ xs.length) (h2 : hh ≤ m) (h3 : m ≤ cap) :
    NumsAt .u8 w (sliced a l hh m 1) ((xs.take hh).drop l) := by
  obtain ⟨a', cap', he, hc1, hc2, hc3, hc⟩ := h
  simp only [Value.slice.injEq, true_and] at he
  obtain ⟨rfl, rfl⟩ := he
  have hlen : ((xs.take hh).drop l).length = hh - l := by simp; omega
  refine ⟨_, _, by rw [hlen, sliced], by omega, by omega, ?_, ?_⟩
  · intro hn
    split at hn
    · omega
    · simp only [Option.map_eq_none_iff] at hn
      have := hc3 hn
      omega
  · by_cases hlm : m = l
    · have : hh = l := by omega
      exact .inl (List.length_eq_zero_iff.1 (by omega))
    · rw [if_neg hlm]
      rcases hc with rfl | ⟨b, off, rfl, hcell⟩
      · exact .inl (by simp)
      · refine .inr ⟨b, off + l, by simp [add_plain], fun i hi => ?_⟩
        have := hcell (l + i) (by omega)
        rw [show off + l + i = off + (l + i) by omega, this]
        congr 2
        simp only [List.getD, List.getElem?_drop, List.getElem?_take]
        rw [if_pos (by omega)]
theorem slice_form {v : Value} {xs : List Int} {k : IntKind} {w : World} (h : NumsAt k w v xs) : ∃ a cap, v = .slice a xs.length cap ∧ xs.length ≤ cap := by
  obtain ⟨a, cap, hv, h1, _⟩ := h; exact ⟨a, cap, hv, h1⟩
theorem cut_l {w : World} {v : Value} {xs : List Int} (h : NumsAt .u8 w v xs) (l : Int) (h0 : 0 ≤ l) (h1 : l ≤ xs.length) :
    ∃ v', (∀ w', (Instr.sliceAt 22 v (some (.int .i64 l)) none none).run Tryd.prog w' = .ok v' w') ∧ ∀ w', NumsAt .u8 w' v xs → NumsAt .u8 w' v' (xs.drop l.toNat) := by
  obtain ⟨a, cap, rfl, hc⟩ := slice_form h
  refine ⟨sliced a l.toNat xs.length cap 1, fun w' => ?_, fun w' hw => ?_⟩
  · rw [run_sliceAt_slice w' 22 _ _ _ _ un22, run_slice_l w' 22 a _ cap un22 .i64 l h0 h1, el22, size5]; rfl
  · have := nums_cut hw l.toNat xs.length cap (by omega) (Nat.le_refl _) hc (Nat.le_refl _)
    rwa [List.take_length] at this
theorem cut_lh {w : World} {v : Value} {xs : List Int} (h : NumsAt .u8 w v xs) (l hh : Int) (h0 : 0 ≤ l) (hl : l ≤ hh) (h1 : hh ≤ xs.length) :
    ∃ v', (∀ w', (Instr.sliceAt 22 v (some (.int .i64 l)) (some (.int .i64 hh)) none).run Tryd.prog w' = .ok v' w') ∧ ∀ w', NumsAt .u8 w' v xs → NumsAt .u8 w' v' ((xs.take hh.toNat).drop l.toNat) := by
  obtain ⟨a, cap, rfl, hc⟩ := slice_form h
  refine ⟨sliced a l.toNat hh.toNat cap 1, fun w' => ?_, fun w' hw => nums_cut hw _ _ cap (by omega) (by omega) (by omega) (Nat.le_refl _)⟩
  rw [run_sliceAt_slice w' 22 _ _ _ _ un22, run_slice_lh w' 22 a _ cap un22 .i64 .i64 l hh h0 hl (by omega), el22, size5]; rfl
theorem cut_h {w : World} {v : Value} {xs : List Int} (h : NumsAt .u8 w v xs) (hh : Int) (h0 : 0 ≤ hh) (h1 : hh ≤ xs.length) :
    ∃ v', (∀ w', (Instr.sliceAt 22 v none (some (.int .i64 hh)) none).run Tryd.prog w' = .ok v' w') ∧ ∀ w', NumsAt .u8 w' v xs → NumsAt .u8 w' v' (xs.take hh.toNat) := by
  obtain ⟨a, cap, rfl, hc⟩ := slice_form h
  refine ⟨sliced a 0 hh.toNat cap 1, fun w' => ?_, fun w' hw => nums_cut hw _ _ cap (by omega) (by omega) (by omega) (Nat.le_refl _)⟩
  rw [run_sliceAt_slice w' 22 _ _ _ _ un22, run_slice_h w' 22 a _ cap un22 .i64 hh h0 (by omega), el22, size5]; rfl
theorem cut_hm {w : World} {v : Value} {xs : List Int} (h : NumsAt .u8 w v xs) (hh : Int) (h0 : 0 ≤ hh) (h1 : hh ≤ xs.length) :
    ∃ v', (∀ w', (Instr.sliceAt 22 v none (some (.int .i64 hh)) (some (.int .i64 hh))).run Tryd.prog w' = .ok v' w') ∧ ∀ w', NumsAt .u8 w' v xs → NumsAt .u8 w' v' (xs.take hh.toNat) := by
  obtain ⟨a, cap, rfl, hc⟩ := slice_form h
  refine ⟨sliced a 0 hh.toNat hh.toNat 1, fun w' => ?_, fun w' hw => nums_cut hw _ _ _ (by omega) (by omega) (by omega) (by omega)⟩
  rw [run_sliceAt_slice w' 22 _ _ _ _ un22, run_slice_hm w' 22 a _ cap un22 .i64 .i64 hh hh h0 (by omega) (by omega), el22, size5]; rfl

/-- An array out of the front of a slice. -/
theorem load_mid {t : TypeId} {n : Nat} (hu : Tryd.prog.underlying t = some (.array n 5)) (hi : (Tryd.prog.info? t).map (·.size) = some n) {w : World} {b off : Nat} {xs : List Int} (hx : xs.length = n)
    (h : ∀ i, i < n → w.cell? ⟨b, off + i, none⟩ = some (.int .u8 (xs.getD i 0))) : (Instr.loadAt t (.pointer (some ⟨b, off, none⟩))).run Tryd.prog w = .ok (.agg (bys xs)) w := by
  have hl : (loadCells ⟨b, off, none⟩ (xs.map (Value.int .u8)).length).run Tryd.prog w = .ok (xs.map (Value.int .u8)).toArray w :=
    run_loadCells_list (P := Tryd.prog) w ⟨b, off, none⟩ (xs.map (Value.int .u8)) (fun j v hv => by
      rw [List.getElem?_map] at hv
      obtain ⟨y, hy, rfl⟩ := Option.map_eq_some_iff.1 hv
      obtain ⟨hj, rfl⟩ := List.getElem?_eq_some_iff.1 hy
      rw [add_plain, h j (by omega)]
      simp [List.getD, List.getElem?_eq_getElem hj])
  cases hq : Tryd.prog.info? t with
  | none => simp [hq] at hi
  | some i =>
    have hs : i.size = n := by simpa [hq] using hi
    have hagg : (isAgg t).run Tryd.prog w = .ok true w := by
      unfold isAgg
      rw [Sem.run_bind, run_underlying hu w]
      rfl
    rw [List.length_map, hx] at hl
    simp only [Instr.loadAt, Instr.sureAddr, Sem.run_bind, Sem.run_pure, Result.andThen]
    simp [loadVar, Sem.run_bind, hagg, sizeOf, typeInfo, hq, hs, hl, bys]
theorem load_nums {t : TypeId} {n : Nat} (hu : Tryd.prog.underlying t = some (.array n 5)) (hi : (Tryd.prog.info? t).map (·.size) = some n) {w : World} {b off len cap : Nat} {xs : List Int} (h : NumsAt .u8 w (.slice (some ⟨b, off, none⟩) len cap) xs) (h1 : n ≤ xs.length) :
    (Instr.loadAt t (.pointer (some ⟨b, off, none⟩))).run Tryd.prog w = .ok (.agg (bys (xs.take n))) w := by
  refine load_mid hu hi (by simp; omega) fun i hin => ?_
  obtain ⟨a', cap', he, hc1, hc2, hc3, hc⟩ := h
  simp only [Value.slice.injEq] at he
  obtain ⟨rfl, _, _⟩ := he
  rcases hc with rfl | ⟨b', off', he', hc⟩
  · simp at h1; omega
  · obtain ⟨rfl, rfl, _⟩ : b = b' ∧ off = off' ∧ True := by simpa using he'
    rw [hc i (by omega)]
    simp [List.getD, hin]
theorem arrayAt_ok {t : TypeId} {n : Nat} (hu : Tryd.prog.underlying t = some (.array n 5)) (a : Option Addr) (len cap : Nat) (h : n ≤ len) (w : World) :
    (Instr.arrayAt t (.slice a len cap)).run Tryd.prog w = .ok (.pointer a) w := by
  unfold Instr.arrayAt
  rw [Sem.run_bind, run_underlying hu w]
  simp only [Result.andThen]
  rw [if_neg (by omega)]
  rfl
theorem nums_some {w : World} {v : Value} {xs : List Int} (h : NumsAt .u8 w v xs) (h1 : 0 < xs.length) : ∃ b off cap, v = .slice (some ⟨b, off, none⟩) xs.length cap := by
  obtain ⟨a, cap, hv, _, _, _, hc⟩ := h
  rcases hc with rfl | ⟨b, off, rfl, _⟩
  · simp at h1
  · exact ⟨b, off, cap, hv⟩

theorem wpList_load_is {P : Program} {ops : Array Oper} {rest : List Oper} {o : Oper} {a : Act} {w : World} {Q : Exit → Act → World → Prop} (hgd : o.guard = none) (ty : TypeId) (x : Operand) (ho : o.op = .load ty x)
    {p v : Value} (hx : a.eval x = p) (hl : (Instr.loadAt ty p).run P w = .ok v w) (h : wpList P ops Q rest (a.put o.dst v) w) : wpList P ops Q (o :: rest) a w :=
  wpList_plain hgd fun _ hK => by
    unfold Oper.wp execOp
    simp only [ho, hx, Sem.run_bind, hl, Result.andThen_ok, Sem.run_pure]
    exact hK _ _ h

/-! Slices of slices of bytes. -/
def PartsAt (w : World) (u : Value) (ps : List (List Int)) : Prop :=
  ∃ a cap, u = .slice a ps.length cap ∧ ps.length ≤ 9223372036854775807 ∧ (a = none → cap = 0) ∧ ∃ b off, ∀ i, i < ps.length → a = some ⟨b, off, none⟩ ∧ ∃ v, w.cell? ⟨b, off + i, none⟩ = some v ∧ NumsAt .u8 w v (ps.getD i [])
theorem PartsAt.below {w w' : World} {u : Value} {ps : List (List Int)} (h : PartsAt w u ps) (hb : Below w.heap.size w w') : PartsAt w' u ps := by
  obtain ⟨a, cap, hv, h1, h2, b, off, h⟩ := h
  refine ⟨a, cap, hv, h1, h2, b, off, fun i hi => ?_⟩
  obtain ⟨ha, v, hc, hn⟩ := h i hi
  exact ⟨ha, v, (hb.cell (p := ⟨b, off + i, none⟩) (cell_lt hc)).trans hc, hn.below hb⟩
theorem parts_nil (w : World) : PartsAt w (.slice none 0 0) [] := ⟨none, 0, rfl, by simp, fun _ => rfl, 0, 0, fun i hi => by simp at hi⟩
theorem flat_take (ps : List (List Int)) (k : Nat) (h : k < ps.length) : (ps.take (k + 1)).flatten = (ps.take k).flatten ++ ps.getD k [] := by
  rw [List.take_add_one, List.flatten_append]
  simp [List.getD, List.getElem?_eq_getElem h]
theorem flat_take_le (ps : List (List Int)) (k : Nat) : (ps.take k).flatten.length ≤ ps.flatten.length := by
  have h := congrArg (fun l => l.flatten.length) (List.take_append_drop k ps)
  simp only [List.flatten_append, List.length_append] at h
  omega
end Go.Proofs.YtikmfaeiecpncaaDoor
