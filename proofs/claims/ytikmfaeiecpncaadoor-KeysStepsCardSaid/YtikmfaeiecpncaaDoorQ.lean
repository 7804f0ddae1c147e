/- Bytes copied into an array. -/
import Derived.Test.YtikmfaeiecpncaaDoorJ
namespace Go.Proofs.YtikmfaeiecpncaaDoor
open Go.RowKit

theorem sizeInfo5 : (Tryd.prog.info? 5).map (·.size) = some 1 := by kernel_rfl
theorem un22' : Tryd.prog.underlying 22 = some (.slice 5) := by kernel_rfl
theorem wpList_load_isG {P : Program} {ops : Array Oper} {rest : List Oper} {o : Oper} {a : Act} {w : World} {Q : Exit → Act → World → Prop} (hw : Region.wanted o (yielded ops a.tmps) = true) (ty : TypeId) (x : Operand) (ho : o.op = .load ty x)
    {p v : Value} (hx : a.eval x = p) (hl : (Instr.loadAt ty p).run P w = .ok v w) (h : wpList P ops Q rest (a.put o.dst v) w) : wpList P ops Q (o :: rest) a w :=
  BigFrame.wpList_want hw fun _ hK => by
    unfold Oper.wp execOp
    simp only [ho, hx, Sem.run_bind, hl, Result.andThen_ok, Sem.run_pure]
    exact hK _ _ h
/-- What an array of zeros is, once bytes were copied into it. -/
def padTo (n : Nat) (xs : List Int) : List Int := xs.take n ++ List.replicate (n - xs.length) 0
theorem padTo_len (n : Nat) (xs : List Int) : (padTo n xs).length = n := by simp [padTo]; omega
theorem padTo_eq (n : Nat) (xs : List Int) (h : xs.length = n) : padTo n xs = xs := by
  subst h; simp [padTo]
theorem byt_padTo {xs : List Int} (h : Byt xs) (n : Nat) : Byt (padTo n xs) := byt_app (byt_take h _) (byt_of fun m hm => by simp at hm; omega)
theorem wpList_copy_zeros {w : World} {ops : Array Oper} {rest : List Oper} {o : Oper} {a : Act} {Q : Exit → Act → World → Prop} (hgd : o.guard = none) (d s : Operand)
    (ho : o.op = .call { callee := .builtin .copy, args := #[d, s], argTypes := #[22, 22] }) (g n m : Nat) (ty : TypeId) (u : Value) (xs : List Int) (hd : a.eval d = .slice (some ⟨g, 0, none⟩) n m) (hs : a.eval s = u)
    (hg : Blk w g ty (bys (List.replicate n 0))) (hu : NumsAt .u8 w u xs)
    (h : wpList Tryd.prog ops Q rest (a.put o.dst (goInt (Nat.min xs.length n))) (w.setRow g (bys (padTo n xs)))) : wpList Tryd.prog ops Q (o :: rest) a w := by
  obtain ⟨ad, cap, rfl, h1, h2, h3, hc⟩ := hu
  by_cases h0 : Nat.min xs.length n = 0
  · refine wpList_copy_nothing hgd d s 22 22 ho 5 un22' sizeInfo5 _ _ n m xs.length cap hd hs h0 ?_
    have e : padTo n xs = List.replicate n 0 := by
      rcases Nat.eq_zero_or_pos n with rfl | hn
      · simp [padTo]
      · obtain rfl := List.length_eq_zero_iff.1 (show xs.length = 0 by simp only [Nat.min_def] at h0; split at h0 <;> omega)
        simp [padTo]
    rw [e, setRow_self _ _ _ _ _ hg, h0] at h
    exact h
  · rcases hc with rfl | ⟨b, off, rfl, hcell⟩
    · simp at h0
    · have hl : ((xs.take n).map (Value.int .u8)).length = Nat.min xs.length n := by simp [Nat.min_comm]
      refine wpList_copy_own hgd d s 22 22 ho 5 un22' sizeInfo5 g 0 n m ⟨b, off, none⟩ xs.length cap hd hs _ ty hg ((xs.take n).map (Value.int .u8)) hl ?_ ?_ ?_ ?_
      · intro j v hv
        rw [List.getElem?_map] at hv
        obtain ⟨y, hy, rfl⟩ := Option.map_eq_some_iff.1 hv
        obtain ⟨hj, rfl⟩ := List.getElem?_eq_some_iff.1 hy
        have hj' : j < xs.length := by simp at hj; omega
        rw [add_plain, hcell j hj']
        simp [List.getD, List.getElem?_eq_getElem hj']
      · rw [hl, bys_size]; simp; exact Nat.min_le_right _ _
      · intro v hv
        obtain ⟨x, _, rfl⟩ := List.mem_map.1 hv
        rfl
      · rw [hl]
        have e : ((bys (List.replicate n 0)).toList.take 0 ++ ((xs.take n).map (Value.int .u8) ++ (bys (List.replicate n 0)).toList.drop (0 + Nat.min xs.length n))).toArray = bys (padTo n xs) := by
          simp [bys, padTo]
          simp only [Nat.min_def]; split <;> omega
        rw [e]
        exact h
end Go.Proofs.YtikmfaeiecpncaaDoor
