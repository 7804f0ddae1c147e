/- Keys compared; what was answered, written over. -/
import Derived.Test.YtikmfaeiecpncaaDoorKI
import Derived.Test.YtikmfaeiecpncaaDoorKJ
import Derived.Laws.StructEq
namespace Go.Proofs.YtikmfaeiecpncaaDoor
open Go.RowKit

theorem guard52 : Tryd.prog.eqGuardType Tryd.prog.depth 52 = false := by kernel_rfl
theorem guard53 : Tryd.prog.eqGuardType Tryd.prog.depth 53 = false := by kernel_rfl
theorem guard55 : Tryd.prog.eqGuardType Tryd.prog.depth 55 = false := by kernel_rfl
set_option maxHeartbeats 100000
theorem split44 {K : List Int} (hl : K.length = 44) : ∃ x y z : List Int, K = x ++ y ++ z ∧ x.length = 16 ∧ y.length = 12 ∧ z.length = 16 := by
  refine ⟨K.take 16, (K.drop 16).take 12, K.drop 28, ?_, by simp; omega, by simp; omega, by simp; omega⟩
  have h1 := List.take_append_drop 16 K
  have h2 := List.take_append_drop 12 (K.drop 16)
  rw [List.drop_drop] at h2
  rw [List.append_assoc, h2, h1]
theorem part_of {t : TypeId} {n o : Nat} (hu : Tryd.prog.underlying t = some (.array n 5)) (hi : (Tryd.prog.info? t).map (·.size) = some n) (A x C : List Int) (ho : A.length = o) (hx : x.length = n) (w : World) :
    (Go.part t (bys (A ++ x ++ C)) o).run Tryd.prog w = .ok (.agg (bys x)) w := by
  cases hq : Tryd.prog.info? t with
  | none => simp [hq] at hi
  | some i =>
    have hs : i.size = n := by simpa [hq] using hi
    have hagg : (isAgg t).run Tryd.prog w = .ok true w := by
      unfold isAgg
      rw [Sem.run_bind, run_underlying hu w]
      rfl
    have e : (bys (A ++ (x ++ C))).extract o (o + n) = bys x := by
      subst ho; subst hx
      apply Array.ext'
      simp [bys, List.extract]
    simp [Go.part, hagg, Sem.run_bind, sizeOf, typeInfo, hq, hs, e]
theorem flds55 : (Tryd.prog.fieldsOf 55).toList = [{ name := "Key", type := 52, offset := 0, embedded := false, tag := "", pkgPath := "", byteOffset := 0 }, { name := "IV", type := 53, offset := 16, embedded := false, tag := "", pkgPath := "", byteOffset := 16 }, { name := "Mask", type := 52, offset := 28, embedded := false, tag := "", pkgPath := "", byteOffset := 28 }] := by kernel_rfl
theorem eqf_steps {P : Program} (d : Nat) (xs ys : Array Value) (a1 b1 a2 b2 a3 b3 : Value) (e1 e2 e3 : Bool) (w : World) (x1 : (Go.part 52 xs 0).run P w = .ok a1 w) (y1 : (Go.part 52 ys 0).run P w = .ok b1 w)
    (x2 : (Go.part 53 xs 16).run P w = .ok a2 w) (y2 : (Go.part 53 ys 16).run P w = .ok b2 w) (x3 : (Go.part 52 xs 28).run P w = .ok a3 w) (y3 : (Go.part 52 ys 28).run P w = .ok b3 w)
    (q1 : (Op.equalIn d 52 a1 b1).run P w = .ok e1 w) (q2 : (Op.equalIn d 53 a2 b2).run P w = .ok e2 w) (q3 : (Op.equalIn d 52 a3 b3).run P w = .ok e3 w) :
    (Op.eqFields d xs ys [{ name := "Key", type := 52, offset := 0, embedded := false, tag := "", pkgPath := "", byteOffset := 0 }, { name := "IV", type := 53, offset := 16, embedded := false, tag := "", pkgPath := "", byteOffset := 16 }, { name := "Mask", type := 52, offset := 28, embedded := false, tag := "", pkgPath := "", byteOffset := 28 }]).run P w = .ok (e1 && e2 && e3) w := by
  have hn1 : ("Key" : String) ≠ "_" := by decide
  have hn2 : ("IV" : String) ≠ "_" := by decide
  have hn3 : ("Mask" : String) ≠ "_" := by decide
  simp only [Op.eqFields, if_pos hn1, if_pos hn2, if_pos hn3, Sem.run_bind, x1, y1, q1, Result.andThen_ok]
  cases e1
  · simp
  · simp only [Bool.not_true, Bool.false_eq_true, if_false, Sem.run_bind, x2, y2, q2, Result.andThen_ok]
    cases e2
    · simp
    · simp only [Bool.not_true, Bool.false_eq_true, if_false, Sem.run_bind, x3, y3, q3, Result.andThen_ok]
      cases e3 <;> simp
theorem equal55 (K1 K2 : List Int) (h1 : K1.length = 44) (h2 : K2.length = 44) (w : World) : (Op.equalIn 10000 55 (.agg (bys K1)) (.agg (bys K2))).run Tryd.prog w = .ok (K1 == K2) w := by
  obtain ⟨x, y, z, rfl, hx, hy, hz⟩ := split44 h1
  obtain ⟨x', y', z', rfl, hx', hy', hz'⟩ := split44 h2
  have p1 : ∀ (x y z : List Int), x.length = 16 → (Go.part 52 (bys (x ++ y ++ z)) 0).run Tryd.prog w = .ok (.agg (bys x)) w := fun x y z h => by
    have := part_of arr52 sz52 [] x (y ++ z) rfl h w
    rwa [List.nil_append, ← List.append_assoc] at this
  have p2 : ∀ (x y z : List Int), x.length = 16 → y.length = 12 → (Go.part 53 (bys (x ++ y ++ z)) 16).run Tryd.prog w = .ok (.agg (bys y)) w := fun x y z h h' => part_of arr53 sz53 x y z h h' w
  have p3 : ∀ (x y z : List Int), x.length = 16 → y.length = 12 → z.length = 16 → (Go.part 52 (bys (x ++ y ++ z)) 28).run Tryd.prog w = .ok (.agg (bys z)) w := fun x y z h h' h'' => by
    have := part_of (o := 28) arr52 sz52 (x ++ y) z [] (by simp [h, h']) h'' w
    rwa [List.append_nil] at this
  have q1 : (Op.equalIn 9999 52 (.agg (bys x)) (.agg (bys x'))).run Tryd.prog w = .ok (x == x') w := equalIn_nums w .u8 9997 52 5 16 arr52 un5 size5 x x' hx hx'
  have q2 : (Op.equalIn 9999 53 (.agg (bys y)) (.agg (bys y'))).run Tryd.prog w = .ok (y == y') w := equalIn_nums w .u8 9997 53 5 12 arr53 un5 size5 y y' hy hy'
  have q3 : (Op.equalIn 9999 52 (.agg (bys z)) (.agg (bys z'))).run Tryd.prog w = .ok (z == z') w := equalIn_nums w .u8 9997 52 5 16 arr52 un5 size5 z z' hz hz'
  have hres : (x ++ y ++ z == x' ++ y' ++ z') = ((x == x') && (y == y') && (z == z')) := by
    rw [Bool.eq_iff_iff]
    simp only [beq_iff_eq, Bool.and_eq_true]
    constructor
    · intro h
      obtain ⟨h3, h4⟩ := List.append_inj h (by simp [hx, hy, hx', hy'])
      obtain ⟨h5, h6⟩ := List.append_inj h3 (by simp [hx, hx'])
      exact ⟨⟨h5, h6⟩, h4⟩
    · rintro ⟨⟨rfl, rfl⟩, rfl⟩; rfl
  rw [hres, run_equalIn_agg w 9999 55 _ _ (by kernel_rfl) (by kernel_rfl), flds55]
  exact eqf_steps 9999 _ _ _ _ _ _ _ _ _ _ _ w (p1 x y z hx) (p1 x' y' z' hx') (p2 x y z hx hy) (p2 x' y' z' hx' hy') (p3 x y z hx hy hz) (p3 x' y' z' hx' hy' hz') q1 q2 q3
theorem equal55_self (K : List Int) (h : K.length = 44) (w : World) : (Op.equalIn 10000 55 (.agg (bys K)) (.agg (bys K))).run Tryd.prog w = .ok true w := by rw [equal55 K K h h]; simp
set_option maxHeartbeats 1600000 in
set_option maxRecDepth 100000 in
theorem samek_any (K : List Int) (w : World) (hl : K.length = 44) : Calls Tryd.prog 41 #[.agg (bys K), .agg (bys K)] w fun e w' => e = .returned (.bool true) ∧ Below w.heap.size w w' := by
  obtain ⟨x, y, z, hK, hx, hy, hz⟩ := split44 hl
  have b1 := (Below.refl w.heap.size w).alloc (Nat.le_refl _) (.cells (bys K) 55)
  have l1 := Blk.new w 55 (bys K)
  obtain ⟨w1, hw1⟩ : ∃ x, x = w.alloc (.cells (bys K) 55) := ⟨_, rfl⟩
  rw [← hw1] at b1 l1
  have hs1 : w1.heap.size = w.heap.size + 1 := by rw [hw1]; simp
  have b2 := Lib.hid (b1.alloc b1.size (.cells (bys K) 61))
  have l2 := l1.alloc (.cells (bys K) 61)
  have m2 := Blk.new w1 61 (bys K)
  rw [hs1] at m2
  obtain ⟨w2, hw2⟩ : ∃ x, x = w1.alloc (.cells (bys K) 61) := ⟨_, rfl⟩
  rw [← hw2] at b2 l2 m2
  have ex : ∀ {b : Nat} {t : TypeId}, Blk w2 b t (bys K) → w2.rangeAt b 0 (x.map (Value.int .u8)) ∧ w2.rangeAt b 16 (y.map (Value.int .u8)) ∧ w2.rangeAt b 28 (z.map (Value.int .u8)) := fun {b t} h =>
    ⟨Blk.part (A := []) (B := x.map (Value.int .u8)) (C := (y ++ z).map (Value.int .u8)) (by simpa [bys, hK] using h) 0 rfl,
     Blk.part (A := x.map (Value.int .u8)) (B := y.map (Value.int .u8)) (C := z.map (Value.int .u8)) (by simpa [bys, hK] using h) 16 (by simp [hx]),
     Blk.part (A := (x ++ y).map (Value.int .u8)) (B := z.map (Value.int .u8)) (C := []) (by simpa [bys, hK] using h) 28 (by simp [hx, hy])⟩
  obtain ⟨r1, r2, r3⟩ := ex l2
  obtain ⟨t1, t2, t3⟩ := ex m2
  have e1 := Lib.hid (mid_load x r1 arr52 rfl (by rw [hx]; exact sz52))
  have e2 := Lib.hid (mid_load y r2 arr53 rfl (by rw [hy]; exact sz53))
  have e3 := Lib.hid (mid_load z r3 arr52 rfl (by rw [hz]; exact sz52))
  have e4 := Lib.hid (mid_load x t1 arr52 rfl (by rw [hx]; exact sz52))
  have e5 := Lib.hid (mid_load y t2 arr53 rfl (by rw [hy]; exact sz53))
  have e6 := Lib.hid (mid_load z t3 arr52 rfl (by rw [hz]; exact sz52))
  have q1 := equal_self arr52 x hx w2
  have q2 := equal_self arr53 y hy w2
  have q3 := equal_self arr52 z hz w2
  have u1 := guard52
  have u2 := guard53
  replace hw1 := Lib.hid hw1
  replace hw2 := Lib.hid hw2
  clear ex l1 l2 m2 r1 r2 r3 t1 t2 t3 hK b1
  go_enter Tryd.func41, Tryd.ntmps41
  have hwx : (w.alloc (.cells (bys K) 55)).alloc (.cells (bys K) 61) = w2 := by rw [hw2.out, hw1.out]
  replace hwx := Lib.hid hwx
  go_wp2_with (first
    | (change wpList _ _ _ _ _ ((w.alloc (.cells (bys K) 55)).alloc (.cells (bys K) 61)); rw [hwx.out]; refine wpList_load_isG (by kernel_rfl) 52 _ rfl rfl e1.out ?_)
    | refine wpList_load_isG (by kernel_rfl) 52 _ rfl rfl e4.out ?_
    | refine wpList_load_isG (by kernel_rfl) 53 _ rfl rfl e2.out ?_
    | refine wpList_load_isG (by kernel_rfl) 53 _ rfl rfl e5.out ?_
    | refine wpList_load_isG (by kernel_rfl) 52 _ rfl rfl e3.out ?_
    | refine wpList_load_isG (by kernel_rfl) 52 _ rfl rfl e6.out ?_)
  go_ret
  exact ⟨rfl, b2.out⟩
theorem CutAt.set {w : World} {B g n : Nat} {ys : List Int} (h : CutAt w B (.slice (some ⟨g, 0, none⟩) n n) ys) (k : Nat) (hk : k < n) (x : Int) :
    CutAt (w.setCell ⟨g, k, none⟩ (.int .u8 x)) B (.slice (some ⟨g, 0, none⟩) n n) (ys.set k x) ∧ w.cell? ⟨g, k, none⟩ = some (.int .u8 (ys.getD k 0)) ∧ w.frozen? ⟨g, k, none⟩ = false := by
  obtain ⟨g', cur, e, h1, h2, h3⟩ := h
  simp only [Value.slice.injEq, Option.some.injEq, Addr.mk.injEq, and_true] at e
  obtain ⟨rfl, e2⟩ := e
  have e2 : n = ys.length := by omega
  subst e2
  refine ⟨⟨g, _, by rw [List.length_set], h1, h2.set k _, ?_⟩, ?_, h2.fr k⟩
  · rw [List.length_set, Array.toList_setIfInBounds, List.take_set, h3, List.map_set]
  · rw [h2.cell]
    have := congrArg (·[k]?) h3
    simp only [List.getElem?_take, List.getElem?_map, hk, if_true] at this
    rw [← Array.getElem?_toList, this]
    simp [List.getD, List.getElem?_eq_getElem hk]
set_option maxHeartbeats 800000 in
theorem over_any (v : Value) (xs : List Int) (B : Nat) (w : World) (h : CutAt w B v xs) (h0 : 0 < xs.length) (hl : xs.length ≤ 1000) (hB : B ≤ w.heap.size) : Calls Tryd.prog 42 #[v] w fun e w' => ∃ u, e = .returned u ∧ Below B w w' := by
  obtain ⟨n, hn⟩ : ∃ n, n = xs.length := ⟨_, rfl⟩
  have h' := h
  obtain ⟨g, cur, rfl, hg, _⟩ := h'
  rw [← hn] at h h0 hl ⊢
  replace hn := Lib.hid hn
  replace hg := Lib.hid hg
  replace hB := Lib.hid hB
  go_enter Tryd.func42, Tryd.ntmps42
  go_wp2_with fail
  go_loopw [2] (fun i wr => ∃ k : Nat, k ≤ n ∧ i = .int .i64 k ∧ ∃ ys, Hid (ys.length = n ∧ CutAt wr B (.slice (some ⟨g, 0, none⟩) n n) ys ∧ Below B w wr)) (fun i _ => n - (intOf i).toNat)
  case atStart => exact ⟨0, Nat.zero_le _, rfl, xs, hn.out.symm, h, Below.refl _ _⟩
  case round =>
    clear h
    obtain ⟨k, hk, rfl, ys, hI⟩ := hrel
    obtain ⟨hyl, hc, hb⟩ := hI.out
    clear hI
    by_cases hlt : k < n
    · have hkI : (k : Int) < n := by omega
      obtain ⟨hc', cc, ff⟩ := hc.set k hlt 238
      have hb' := Lib.hid (hb.setCell (p := ⟨g, k, none⟩) hg.out (.int .u8 238))
      have hyl' : Hid ((ys.set k 238).length = n) := by show _ = _; rw [List.length_set]; exact hyl
      replace hc' := Lib.hid hc'
      clear hc hb hyl
      go_wp2_with fail
      go_roundw
      case rel => exact ⟨k + 1, by omega, by go_num, _, hyl'.out, hc'.out, hb'.out⟩
      case measure => simp [intOf]; omega
    · obtain rfl : k = n := by omega
      have hnn := hc.nums (by omega)
      have n1 := Lib.hid (hnn.alloc (.cells (bys [238]) 5))
      have n2 := Lib.hid (nums_lit wr 5 (0, 0) [238] 1 rfl (by omega))
      have hb1 := hb.alloc (Nat.le_trans hB.out hb.size) (.cells (bys [238]) 5)
      replace hyl := Lib.hid hyl
      replace hb1 := Lib.hid hb1
      clear hc hnn hb
      go_wp2_with (at_builtin; refine wpList_append_full rfl _ _ rfl g 0 k ys [238] _ rfl rfl hyl.out h0 n1.out n2.out (by simp; omega) ?_; intro v4 w4 hn4 hb4; replace hb4 := Lib.hid hb4; clear hn4)
      exact bodyPost_end (results_none rfl _ _ _) rfl ⟨⟨_, rfl⟩, hb1.out.trans (hb4.out.mono (hb1.out.size |> Nat.le_trans hB.out))⟩
end Go.Proofs.YtikmfaeiecpncaaDoor
