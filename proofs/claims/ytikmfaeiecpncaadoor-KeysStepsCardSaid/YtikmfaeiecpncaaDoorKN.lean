/- Parts of aggregates. -/
import Derived.Test.YtikmfaeiecpncaaDoorKL
import Derived.Test.YtikmfaeiecpncaaDoorKQ
namespace Go.Proofs.YtikmfaeiecpncaaDoor
open Go Go.RowKit

theorem part_row {t : TypeId} {d : TypeDesc} {n : Nat} (hu : Tryd.prog.underlying t = some d) (hd : d.isRow = true) (hi : (Tryd.prog.info? t).map (·.size) = some n) (cs : Array Value) (off : Nat) (w : World) :
    (Go.part t cs off).run Tryd.prog w = .ok (.agg (cs.extract off (off + n))) w := by
  cases hq : Tryd.prog.info? t with
  | none => simp [hq] at hi
  | some i =>
    have hs : i.size = n := by simpa [hq] using hi
    have hagg : (isAgg t).run Tryd.prog w = .ok true w := by
      unfold isAgg
      rw [Sem.run_bind, run_underlying hu w]
      cases d <;> simp_all
    simp [Go.part, hagg, Sem.run_bind, sizeOf, typeInfo, hq, hs]
theorem extract_mid (A B C : List Value) (o e : Nat) (ho : A.length = o) (hl : o + B.length = e) : (A ++ B ++ C).toArray.extract o e = B.toArray := by
  apply Array.ext'
  subst hl
  rw [Array.toList_extract]
  show ((A ++ B ++ C).drop o).take (o + B.length - o) = B
  rw [List.append_assoc, List.drop_left' ho, Nat.add_sub_cancel_left, List.take_left' rfl]
theorem field64 (h0 h1 d0 d1 : List Int) (f0 f1 : Value) (l0 : h0.length = 44) (l1 : h1.length = 44) (l2 : d0.length = 44) (l3 : d1.length = 44) (w : World) : (Instr.field 64 (.agg (setV h0 h1 d0 d1 f0 f1)) 1).run Tryd.prog w = .ok (.agg (bys (d0 ++ d1))) w := by
  have hp := part_row Tryd.underlying62 rfl sz62 (setV h0 h1 d0 d1 f0 f1) 88 w
  have e : (setV h0 h1 d0 d1 f0 f1).extract 88 (88 + 88) = bys (d0 ++ d1) := by
    rw [show setV h0 h1 d0 d1 f0 f1 = ((h0 ++ h1).map (Value.int .u8) ++ (d0 ++ d1).map (Value.int .u8) ++ [f0, f1]).toArray by simp [setV]]
    exact extract_mid _ _ _ 88 _ (by simp [l0, l1]) (by simp [l2, l3])
  rw [e] at hp
  unfold Instr.field
  rw [Sem.run_bind, run_underlying Tryd.underlying64 w]
  simp [Result.andThen, asAgg, hp]
theorem index62 (x y : List Int) (l0 : x.length = 44) (w : World) : (Instr.index 62 (.agg (bys (x ++ y))) (.int .i64 0)).run Tryd.prog w = .ok (.agg (bys x)) w := by
  have hp := part_row Tryd.underlying61 rfl sz61 (bys (x ++ y)) 0 w
  have e : (bys (x ++ y)).extract 0 (0 + 44) = bys x := by
    rw [show bys (x ++ y) = ([] ++ x.map (Value.int .u8) ++ y.map (Value.int .u8)).toArray by simp [bys]]
    exact extract_mid _ _ _ 0 _ rfl (by simp [l0])
  rw [e] at hp
  have hs : (sizeOf 61).run Tryd.prog w = .ok 44 w := by
    cases hq : Tryd.prog.info? 61 with
    | none => have := sz61; simp [hq] at this
    | some i =>
      have := sz61
      simp [hq] at this
      simp [sizeOf, typeInfo, hq, this]
  unfold Instr.index
  simp [asIntOf, run_underlying Tryd.underlying62, hs, hp]
theorem wpList_binG {P : Program} {ops : Array Oper} {rest : List Oper} {o : Oper} {a : Act} {w : World} {Q : Exit → Act → World → Prop} (hw : Region.wanted o (yielded ops a.tmps) = true) (op : BinOp) (t : TypeId) (x y : Operand) (t2 : TypeId) (ho : o.op = .binOp op t x y t2)
    {vx vy v : Value} (hx : a.eval x = vx) (hy : a.eval y = vy) (hg : (eqGuard op t x y vx vy).run P w = .ok () w) (hb : (binOp op t vx vy).run P w = .ok v w) (h : wpList P ops Q rest (a.put o.dst v) w) : wpList P ops Q (o :: rest) a w :=
  BigFrame.wpList_want hw fun _ hK => by
    unfold Oper.wp execOp
    simp only [ho, hx, hy, Sem.run_bind, hg, hb, Result.andThen_ok, Sem.run_pure]
    exact hK _ _ h
theorem neq55 (K1 K2 : List Int) (h1 : K1.length = 44) (h2 : K2.length = 44) (w : World) : (binOp .neq 55 (.agg (bys K1)) (.agg (bys K2))).run Tryd.prog w = .ok (.bool (!(K1 == K2))) w := by
  rw [run_neq_struct, equal55 K1 K2 h1 h2]; rfl
end Go.Proofs.YtikmfaeiecpncaaDoor
