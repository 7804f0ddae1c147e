/- Arrays of numbers, compared. -/
import Derived.Test.YtikmfaeiecpncaaDoorG
import Derived.Laws.StructEq
namespace Go.Proofs.YtikmfaeiecpncaaDoor
open Go.RowKit

theorem all_range_int : ∀ (xs ys : List Int), xs.length = ys.length → ((List.range xs.length).all fun i => xs.getD i 0 == ys.getD i 0) = (xs == ys)
  | [], [], _ => rfl
  | x :: xs, y :: ys, h => by
    have ih := all_range_int xs ys (by simpa using h)
    rw [List.length_cons, List.range_succ_eq_map, List.all_cons, List.all_map]
    simp only [List.getD_cons_zero, Function.comp_def, List.getD_cons_succ, ih]
    simp [List.cons_beq_cons]
  | [], _ :: _, h => by simp at h
  | _ :: _, [], h => by simp at h
theorem equalIn_nums {P : Program} (w : World) (k : IntKind) (d : Nat) (t e : TypeId) (n : Nat) (ht : P.underlying t = some (.array n e)) (he : P.underlying e = some (.int k)) (hsz : ∀ w, (sizeOf e).run P w = .ok 1 w)
    (xs ys : List Int) (hx : xs.length = n) (hy : ys.length = n) :
    (Op.equalIn (d + 2) t (.agg (xs.map (Value.int k)).toArray) (.agg (ys.map (Value.int k)).toArray)).run P w = .ok (xs == ys) w := by
  rw [← all_range_int xs ys (hx.trans hy.symm), hx, List.range_eq_range', Op.equalIn]
  simp only [Sem.run_bind, run_underlying ht, Result.andThen_ok, hsz, Std.Legacy.Range.forIn_eq_forIn_range', Std.Legacy.Range.size, Nat.sub_zero, Nat.add_sub_cancel, Nat.div_one]
  have hl : ∀ i ∈ List.range' 0 n 1, i < n := fun i hi => by simpa using (List.mem_range'_1.1 hi).2
  generalize List.range' 0 n 1 = l at hl ⊢
  induction l with
  | nil => simp
  | cons i l ih =>
    have hi : i < n := hl i (by simp)
    have px : (Go.part e (xs.map (Value.int k)).toArray (i * 1)).run P w = .ok (.int k (xs.getD i 0)) w := by
      simp [Go.part, isAgg, run_underlying he, List.getD, List.getElem?_eq_getElem (show i < xs.length by omega)]
    have py : (Go.part e (ys.map (Value.int k)).toArray (i * 1)).run P w = .ok (.int k (ys.getD i 0)) w := by
      simp [Go.part, isAgg, run_underlying he, List.getD, List.getElem?_eq_getElem (show i < ys.length by omega)]
    have pe : (Op.equalIn (d + 1) e (.int k (xs.getD i 0)) (.int k (ys.getD i 0))).run P w = .ok (xs.getD i 0 == ys.getD i 0) w := run_equalIn_int w d e k k _ _ he
    simp only [List.forIn_cons, Sem.run_bind, px, py, pe, Result.andThen_ok, List.all_cons]
    cases hb : (xs.getD i 0 == ys.getD i 0)
    · simp
    · simp only [Bool.not_true, Bool.false_eq_true, if_false, Sem.run_pure, Result.andThen_ok, Bool.true_and]
      exact ih fun j hj => hl j (by simp [hj])
theorem un5 : Tryd.prog.underlying 5 = some (.int .u8) := by kernel_rfl
theorem un31' : Tryd.prog.underlying 31 = some (.int .u32) := by kernel_rfl
theorem equal_bys {t : TypeId} {n : Nat} (ht : Tryd.prog.underlying t = some (.array n 5)) (xs ys : List Int) (hx : xs.length = n) (hy : ys.length = n) (w : World) :
    (Op.equalIn 10000 t (.agg (bys xs)) (.agg (bys ys))).run Tryd.prog w = .ok (xs == ys) w := equalIn_nums w .u8 9998 t 5 n ht un5 size5 xs ys hx hy
theorem equal_self {t : TypeId} {n : Nat} (ht : Tryd.prog.underlying t = some (.array n 5)) (xs : List Int) (hx : xs.length = n) (w : World) :
    (Op.equalIn 10000 t (.agg (bys xs)) (.agg (bys xs))).run Tryd.prog w = .ok true w := by rw [equal_bys ht xs xs hx hx]; simp
theorem eql_bys {t : TypeId} {n : Nat} (ht : Tryd.prog.underlying t = some (.array n 5)) (xs ys : List Int) (hx : xs.length = n) (hy : ys.length = n) (w : World) :
    (binOp .eql t (.agg (bys xs)) (.agg (bys ys))).run Tryd.prog w = .ok (.bool (xs == ys)) w := by
  rw [run_eql_struct, bys, bys, equalIn_nums w .u8 9998 t 5 n ht un5 size5 xs ys hx hy]; rfl
theorem neq_bys {t : TypeId} {n : Nat} (ht : Tryd.prog.underlying t = some (.array n 5)) (xs ys : List Int) (hx : xs.length = n) (hy : ys.length = n) (w : World) :
    (binOp .neq t (.agg (bys xs)) (.agg (bys ys))).run Tryd.prog w = .ok (.bool (!(xs == ys))) w := by
  rw [run_neq_struct, bys, bys, equalIn_nums w .u8 9998 t 5 n ht un5 size5 xs ys hx hy]; rfl
theorem info31 : (Tryd.prog.info? 31).map (fun i => (i.zero, i.size, i.bytes)) = some (some (.int .u32 0), 1, 4) := by kernel_rfl
theorem size31 (w : World) : (sizeOf 31).run Tryd.prog w = .ok 1 w := by
  obtain ⟨i0, hi, _, hz1, _⟩ := info_parts info31
  simp [sizeOf, typeInfo, hi, hz1]
theorem wds_nums (xs : Ws) : wds xs = ((xs.map V).map (Value.int .u32)).toArray := by simp [wds, wd]
theorem equal_wds {t : TypeId} {n : Nat} (ht : Tryd.prog.underlying t = some (.array n 31)) (xs : Ws) (hx : xs.length = n) (w : World) :
    (Op.equalIn 10000 t (.agg (wds xs)) (.agg (wds xs))).run Tryd.prog w = .ok true w := by
  rw [wds_nums, equalIn_nums w .u32 9998 t 31 n ht un31' size31 (xs.map V) (xs.map V) (by simpa using hx) (by simpa using hx)]
  simp
theorem neq_same {t : TypeId} {n : Nat} (ht : Tryd.prog.underlying t = some (.array n 31)) (xs : Ws) (hx : xs.length = n) (w : World) :
    (binOp .neq t (.agg (wds xs)) (.agg (wds xs))).run Tryd.prog w = .ok (.bool false) w := by
  rw [run_neq_struct, wds_nums, equalIn_nums w .u32 9998 t 31 n ht un31' size31 (xs.map V) (xs.map V) (by simpa using hx) (by simpa using hx)]
  simp [Result.andThen]
theorem guard26 : Tryd.prog.eqGuardType Tryd.prog.depth 26 = false := by kernel_rfl
theorem guard32 : Tryd.prog.eqGuardType Tryd.prog.depth 32 = false := by kernel_rfl
end Go.Proofs.YtikmfaeiecpncaaDoor
