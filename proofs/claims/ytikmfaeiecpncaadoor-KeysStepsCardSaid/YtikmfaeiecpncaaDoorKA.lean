/- Whole structs of keys: what lies in their blocks, parts of them read, and written. No program's code is walked. -/

import Derived.Test.YtikmfaeiecpncaaDoorHK
import Derived.Deep.MidRow
import Derived.Great.BuildSlice
namespace Go.Proofs.YtikmfaeiecpncaaDoor
open Go.RowKit

theorem fill_one (place : Nat → Option (Nat × Nat)) (cells vs : Array Value) (i off n : Nat) (rest : List (Nat × Value)) (hp : place i = some (off, n)) (hn : vs.size = n) (hle : off + n ≤ cells.size) :
    Instr.fill place cells ((i, .agg vs) :: rest) = Instr.fill place (cells.toList.take off ++ vs.toList ++ cells.toList.drop (off + n)).toArray rest := by
  subst hn
  conv => lhs; unfold Instr.fill
  rw [hp]
  have e : (Value.agg vs).cells = vs := rfl
  simp only [e]
  rw [if_neg (by simp; omega)]
  refine congrArg (fun c => Instr.fill place c rest) ?_
  rw [← Array.foldl_toList, Array.toList_zipIdx]
  obtain ⟨h1, h2⟩ := Great.foldl_set off vs.toList 0 cells
  apply Array.ext_getElem?
  intro k
  rw [h2 k]
  simp only [Nat.add_zero, Array.length_toList, List.getElem?_toArray, List.getElem?_append, List.length_append, List.length_take, List.getElem?_take, List.getElem?_drop, Array.getElem?_toList]
  by_cases a : k < off
  · rw [if_neg (by omega), if_pos (by omega), if_pos (by omega), if_pos (by omega)]
  · by_cases b : k < off + vs.size
    · rw [if_pos (by omega), if_pos (by omega), if_neg (by omega)]
      congr 1; omega
    · rw [if_neg (by omega), if_neg (by omega)]
      congr 1; omega
theorem bys_list (xs : List Int) : (bys xs).toList = xs.map (Value.int .u8) := by simp [bys]
theorem zb_list (n : Nat) : (bys (zb n)).toList = List.replicate n (Value.int .u8 0) := by simp [bys, zb]
theorem built55 (x y z : List Int) (hx : x.length = 16) (hy : y.length = 12) (hz : z.length = 16) : Tryd.prog.built 55 [(0, .agg (bys x)), (1, .agg (bys y)), (2, .agg (bys z))] = some (bys (x ++ y ++ z)) := by
  have h : ∀ parts, Tryd.prog.built 55 parts = Instr.fill (#[(0, 16), (16, 12), (28, 16)][·]?) (Array.replicate 44 (.int .u8 0)) parts := fun parts => by kernel_rfl
  rw [h, fill_one _ _ _ 0 0 16 _ rfl (by rw [bys_size, hx]) (by simp), fill_one _ _ _ 1 16 12 _ rfl (by rw [bys_size, hy]) (by simp [bys, hx]), fill_one _ _ _ 2 28 16 _ rfl (by rw [bys_size, hz]) (by simp [bys, hx, hy]), Instr.fill]
  have t1 : List.take 28 (List.map (Value.int IntKind.u8) x) = x.map (Value.int .u8) := List.take_of_length_le (by simp [hx])
  have t2 : List.drop 44 (List.map (Value.int IntKind.u8) x) = [] := List.drop_eq_nil_of_le (by simp [hx])
  have t3 : List.drop 28 (List.map (Value.int IntKind.u8) y) = [] := List.drop_eq_nil_of_le (by simp [hy])
  simp [bys, List.take_append, List.drop_append, hx, hy, t1, t2, t3]
theorem built56 (x y : List Int) (hx : x.length = 44) (hy : y.length = 44) : Tryd.prog.built 56 [(0, .agg (bys x)), (1, .agg (bys y))] = some (bys (x ++ y)) := by
  have h : ∀ parts, Tryd.prog.built 56 parts = Instr.fill (fun i => some (i * 44, 44)) (Array.replicate 88 (.int .u8 0)) parts := fun parts => by kernel_rfl
  rw [h, fill_one _ _ _ 0 0 44 _ rfl (by rw [bys_size, hx]) (by simp), fill_one _ _ _ 1 44 44 _ rfl (by rw [bys_size, hy]) (by simp [bys, hx]), Instr.fill]
  simp [bys, List.drop_append, hx]
theorem built62 (x y : List Int) (hx : x.length = 44) (hy : y.length = 44) : Tryd.prog.built 62 [(0, .agg (bys x)), (1, .agg (bys y))] = some (bys (x ++ y)) := by
  have h : ∀ parts, Tryd.prog.built 62 parts = Instr.fill (fun i => some (i * 44, 44)) (Array.replicate 88 (.int .u8 0)) parts := fun parts => by kernel_rfl
  rw [h, fill_one _ _ _ 0 0 44 _ rfl (by rw [bys_size, hx]) (by simp), fill_one _ _ _ 1 44 44 _ rfl (by rw [bys_size, hy]) (by simp [bys, hx]), Instr.fill]
  simp [bys, List.drop_append, hx]

/-! ### Parts of a block -/
theorem setCells_blk {b : Nat} {ty : TypeId} : ∀ (vs : List Value) (o : Nat) (w : World) (cs : Array Value), Blk w b ty cs → o + vs.length ≤ cs.size →
    Blk (w.setCells b o vs) b ty (cs.toList.take o ++ vs ++ cs.toList.drop (o + vs.length)).toArray
  | [], o, w, cs, h, _ => by simpa [World.setCells] using h
  | v :: vs, o, w, cs, h, hle => by
    simp only [List.length_cons] at hle
    have := setCells_blk vs (o + 1) _ _ (h.set o v) (by simp; omega)
    rw [World.setCells]
    have e : ((cs.setIfInBounds o v).toList.take (o + 1) ++ vs ++ (cs.setIfInBounds o v).toList.drop (o + 1 + vs.length)).toArray = (cs.toList.take o ++ v :: vs ++ cs.toList.drop (o + (vs.length + 1))).toArray := by
      congr 1
      rw [Array.toList_setIfInBounds, List.drop_set_of_lt (by omega), show o + 1 + vs.length = o + (vs.length + 1) by omega, List.take_add_one, List.take_set_of_le (Nat.le_refl _), List.getElem?_set_self (by simp; omega)]
      simp
    rw [e] at this
    exact this
theorem setCells_below {b B : Nat} {w0 : World} : ∀ (vs : List Value) (o : Nat) (w : World), Below B w0 w → B ≤ b → Below B w0 (w.setCells b o vs)
  | [], _, _, h, _ => h
  | v :: vs, o, _, h, hb => setCells_below vs (o + 1) _ (h.setCell (p := ⟨b, o, none⟩) hb v) hb
theorem setCells_size {b : Nat} : ∀ (vs : List Value) (o : Nat) (w : World), (w.setCells b o vs).heap.size = w.heap.size
  | [], _, _ => rfl
  | v :: vs, _, _ => by rw [World.setCells, setCells_size vs]; simp [World.setCell]
/-- A part of a block, of what is there ahead, and behind. -/
theorem Blk.part {w : World} {b : Nat} {ty : TypeId} {A B C : List Value} (h : Blk w b ty (A ++ B ++ C).toArray) (o : Nat) (ho : A.length = o) : w.rangeAt b o B := fun j v hv => by
  subst ho
  rw [h.cell, List.getElem?_toArray, List.append_assoc, List.getElem?_append_right (by omega), Nat.add_sub_cancel_left]
  rwa [List.getElem?_append_left (List.getElem?_eq_some_iff.1 hv).1]
theorem Blk.putPart {w : World} {b : Nat} {ty : TypeId} {A B C : List Value} (h : Blk w b ty (A ++ B ++ C).toArray) (o : Nat) (ho : A.length = o) (B' : List Value) (hl : B'.length = B.length) : Blk (w.setCells b o B') b ty (A ++ B' ++ C).toArray := by
  subst ho
  have := setCells_blk B' A.length w _ h (by simp; omega)
  have e : (((A ++ B ++ C).toArray.toList.take A.length ++ B' ++ (A ++ B ++ C).toArray.toList.drop (A.length + B'.length))).toArray = (A ++ B' ++ C).toArray := by
    simp [hl]
  rwa [e] at this
theorem Blk.there {w : World} {b : Nat} {ty : TypeId} {cs : Array Value} (h : Blk w b ty cs) (o n : Nat) (hl : o + n ≤ cs.size) : w.there b o n := fun j hj =>
  ⟨by rw [h.cell, Array.getElem?_eq_getElem (show o + j < cs.size by omega)]; rfl, h.fr _⟩
theorem mid_load {t : TypeId} {d : TypeDesc} {w : World} {b o : Nat} (xs : List Int) (hr : w.rangeAt b o (xs.map (Value.int .u8))) (hu : Tryd.prog.underlying t = some d) (hd : d.isRow = true) (hi : (Tryd.prog.info? t).map (·.size) = some xs.length) :
    (Instr.loadAt t (.pointer (some ⟨b, o, none⟩))).run Tryd.prog w = .ok (.agg (bys xs)) w := by
  have := run_loadAt_mid (P := Tryd.prog) w b o t (xs.map (Value.int .u8)) d hr hu hd (by rw [List.length_map]; exact hi)
  rwa [show (xs.map (Value.int .u8)).toArray = bys xs from rfl] at this
/-- A pointer to numbers. -/
def PtrAt (w : World) (v : Value) (xs : List Int) : Prop := ∃ b off cap, v = .pointer (some ⟨b, off, none⟩) ∧ NumsAt .u8 w (.slice (some ⟨b, off, none⟩) xs.length cap) xs
theorem PtrAt.below {w w' : World} {v : Value} {xs : List Int} (h : PtrAt w v xs) (hb : Below w.heap.size w w') : PtrAt w' v xs := by
  obtain ⟨b, off, cap, e, h⟩ := h
  exact ⟨b, off, cap, e, h.below hb⟩
/-- A row that the call owns, whose room is its length. -/
def CutAt (w : World) (B : Nat) (v : Value) (xs : List Int) : Prop := ∃ g cur, v = .slice (some ⟨g, 0, none⟩) xs.length xs.length ∧ B ≤ g ∧ Blk w g 5 cur ∧ cur.toList.take xs.length = xs.map (Value.int .u8)
theorem CutAt.mono {w : World} {B B' : Nat} {v : Value} {xs : List Int} (h : CutAt w B v xs) (hb : B' ≤ B) : CutAt w B' v xs := by
  obtain ⟨g, cur, e, h1, h2⟩ := h
  exact ⟨g, cur, e, Nat.le_trans hb h1, h2⟩
theorem CutAt.below {w w' : World} {B : Nat} {v : Value} {xs : List Int} (h : CutAt w B v xs) (hb : Below w.heap.size w w') : CutAt w' B v xs := by
  obtain ⟨g, cur, e, h1, h2, h3⟩ := h
  exact ⟨g, cur, e, h1, below_cell hb h2, h3⟩
theorem cut_own {w : World} {B : Nat} {v : Value} {xs : List Int} (h : OwnNums .u8 5 w B v xs) (n : Nat) (h0 : 0 < n) (h1 : n ≤ xs.length) :
    ∃ v', (∀ w', (Instr.sliceAt 22 v none (some (.int .i64 (n : Int))) (some (.int .i64 (n : Int)))).run Tryd.prog w' = .ok v' w') ∧ NumsAt .u8 w v' (xs.take n) ∧ CutAt w B v' (xs.take n) := by
  have hn := h.nums
  obtain ⟨v', hc, hc'⟩ := cut_hm hn (n : Int) (by omega) (by omega)
  have h2 := h
  obtain ⟨hl, ⟨_, h3⟩ | ⟨g, cap, cur, rfl, hb, hg, hnc, hcm, hcs, ht⟩⟩ := h2
  · omega
  refine ⟨v', hc, by have := hc' w hn; rwa [Int.toNat_natCast] at this, ?_⟩
  have e : v' = .slice (some ⟨g, 0, none⟩) n n := by
    have h4 := hc w
    rw [run_sliceAt_slice w 22 _ _ _ _ un22, run_slice_hm w 22 _ _ cap un22 .i64 .i64 n n (by omega) (by omega) (by omega), el22, size5] at h4
    have h5 : sliced (some ⟨g, 0, none⟩) 0 n n 1 = v' := by
      simpa [Result.andThen] using h4
    rw [← h5, sliced, if_neg (by omega)]
    simp [add_plain]
  have hl2 : (xs.take n).length = n := by simp; omega
  refine ⟨g, cur, by rw [hl2]; exact e, hb, hg, ?_⟩
  rw [hl2]
  simp only [Nat.mul_one] at ht
  rw [List.map_take, ← ht, List.take_take, Nat.min_eq_left h1]
theorem wpList_copy_mid {w : World} {ops : Array Oper} {rest : List Oper} {o : Oper} {a : Act} {Q : Exit → Act → World → Prop} (hgd : o.guard = none) (d s : Operand)
    (ho : o.op = .call { callee := .builtin .copy, args := #[d, s], argTypes := #[22, 22] }) (g off n : Nat) (ty : TypeId) (A B C xs : List Int) (u : Value) (hd : a.eval d = .slice (some ⟨g, off, none⟩) n n) (hs : a.eval s = u)
    (hg : Blk w g ty (bys (A ++ B ++ C))) (hA : A.length = off) (hB : B.length = n) (hx : xs.length = n) (hn : 0 < n) (hu : NumsAt .u8 w u xs)
    (h : wpList Tryd.prog ops Q rest (a.put o.dst (goInt n)) (w.setRow g (bys (A ++ xs ++ C)))) : wpList Tryd.prog ops Q (o :: rest) a w := by
  subst hA
  subst hx
  obtain ⟨ad, cap, rfl, h1, h2, h3, hc⟩ := hu
  rcases hc with rfl | ⟨b, off, rfl, hcell⟩
  · simp at hn
  · have hl : (xs.map (Value.int .u8)).length = Nat.min xs.length xs.length := by simp
    refine wpList_copy_own hgd d s 22 22 ho 5 un22' sizeInfo5 g A.length xs.length xs.length ⟨b, off, none⟩ xs.length cap hd hs _ ty hg (xs.map (Value.int .u8)) hl ?_ ?_ ?_ ?_
    · intro j v hv
      rw [List.getElem?_map] at hv
      obtain ⟨y, hy, rfl⟩ := Option.map_eq_some_iff.1 hv
      obtain ⟨hj, rfl⟩ := List.getElem?_eq_some_iff.1 hy
      rw [add_plain, hcell j hj]
      simp [List.getD, List.getElem?_eq_getElem hj]
    · simp [bys]; omega
    · intro v hv
      obtain ⟨x, _, rfl⟩ := List.mem_map.1 hv
      rfl
    · have e : ((bys (A ++ B ++ C)).toList.take A.length ++ (xs.map (Value.int .u8) ++ (bys (A ++ B ++ C)).toList.drop (A.length + (xs.map (Value.int .u8)).length))).toArray = bys (A ++ xs ++ C) := by
        simp only [bys, List.map_append, List.toList_toArray, List.length_map, List.append_assoc]
        have e1 : List.take A.length (A.map (Value.int .u8) ++ (B.map (Value.int .u8) ++ C.map (Value.int .u8))) = A.map (Value.int .u8) := by
          rw [List.take_append_of_le_length (by simp)]; exact List.take_of_length_le (by simp)
        have e2 : List.drop (A.length + xs.length) (A.map (Value.int .u8) ++ (B.map (Value.int .u8) ++ C.map (Value.int .u8))) = C.map (Value.int .u8) := by
          rw [← List.append_assoc]; exact List.drop_left' (by simp [hB])
        rw [e1, e2]
      rw [e, hl, show Nat.min xs.length xs.length = xs.length from Nat.min_self _]
      exact h
/-- A slice that is not nil. -/
def SlAt (w : World) (v : Value) (xs : List Int) : Prop := ∃ b off cap, v = .slice (some ⟨b, off, none⟩) xs.length cap ∧ NumsAt .u8 w v xs
theorem SlAt.below {w w' : World} {v : Value} {xs : List Int} (h : SlAt w v xs) (hb : Below w.heap.size w w') : SlAt w' v xs := by
  obtain ⟨b, off, cap, e, h⟩ := h
  exact ⟨b, off, cap, e, h.below hb⟩
theorem sl_of {w : World} {v : Value} {xs : List Int} (h : NumsAt .u8 w v xs) (h1 : 0 < xs.length) : SlAt w v xs := by
  obtain ⟨b, off, cap, e⟩ := nums_some h h1
  exact ⟨b, off, cap, e, h⟩
theorem ptr_load {t : TypeId} {n : Nat} (hu : Tryd.prog.underlying t = some (.array n 5)) (hi : (Tryd.prog.info? t).map (·.size) = some n) {w : World} {v : Value} {xs : List Int} (h : PtrAt w v xs) (hl : xs.length = n) :
    (Instr.loadAt t v).run Tryd.prog w = .ok (.agg (bys xs)) w := by
  obtain ⟨b, off, cap, rfl, hn⟩ := h
  have := load_nums hu hi hn (by omega)
  rwa [List.take_of_length_le (by omega)] at this
theorem ptr_of {t : TypeId} {n : Nat} (hu : Tryd.prog.underlying t = some (.array n 5)) {w : World} {v : Value} {xs : List Int} (h : SlAt w v xs) (hl : xs.length = n) :
    ∃ v', (∀ w', (Instr.arrayAt t v).run Tryd.prog w' = .ok v' w') ∧ PtrAt w v' xs := by
  obtain ⟨b, off, cap, rfl, hn⟩ := h
  exact ⟨_, fun w' => arrayAt_ok hu _ _ _ (by omega) w', b, off, cap, rfl, hn⟩
theorem blk_spec {W W' : World} {v : Value} {B0 : Nat} {ty : TypeId} {cs : Array Value} (h : ∃ b, v = .pointer (some ⟨b, 0, none⟩) ∧ B0 ≤ b ∧ Blk W b ty cs) (hb : Below W.heap.size W W') : ∃ b, v = .pointer (some ⟨b, 0, none⟩) ∧ B0 ≤ b ∧ Blk W' b ty cs := by
  obtain ⟨b, e, h1, h2⟩ := h
  exact ⟨b, e, h1, below_cell hb h2⟩
theorem arr52 : Tryd.prog.underlying 52 = some (.array 16 5) := by kernel_rfl
theorem arr53 : Tryd.prog.underlying 53 = some (.array 12 5) := by kernel_rfl
theorem sz52 : (Tryd.prog.info? 52).map (·.size) = some 16 := by kernel_rfl
theorem sz53 : (Tryd.prog.info? 53).map (·.size) = some 12 := by kernel_rfl
theorem sz55 : (Tryd.prog.info? 55).map (·.size) = some 44 := by kernel_rfl
theorem sz61 : (Tryd.prog.info? 61).map (·.size) = some 44 := by kernel_rfl
theorem sz56 : (Tryd.prog.info? 56).map (·.size) = some 88 := by kernel_rfl
theorem sz62 : (Tryd.prog.info? 62).map (·.size) = some 88 := by kernel_rfl
theorem sz59 : (Tryd.prog.info? 59).map (·.size) = some 178 := by kernel_rfl
theorem sz64 : (Tryd.prog.info? 64).map (·.size) = some 178 := by kernel_rfl
theorem len52 : Tryd.prog.arrayLen 52 = 16 := by kernel_rfl
theorem len53 : Tryd.prog.arrayLen 53 = 12 := by kernel_rfl
theorem el52 : Tryd.prog.elem 52 = 5 := by kernel_rfl
theorem el53 : Tryd.prog.elem 53 = 5 := by kernel_rfl
theorem isrow (t : TypeId) (h : ((Tryd.prog.underlying t).map TypeDesc.isRow) = some true) : ∃ d, Tryd.prog.underlying t = some d ∧ d.isRow = true := by
  cases hq : Tryd.prog.underlying t with
  | none => simp [hq] at h
  | some d => exact ⟨d, rfl, by simpa [hq] using h⟩
theorem row55 : ∃ d, Tryd.prog.underlying 55 = some d ∧ d.isRow = true := isrow 55 (by kernel_rfl)
theorem row56 : ∃ d, Tryd.prog.underlying 56 = some d ∧ d.isRow = true := isrow 56 (by kernel_rfl)
theorem row59 : ∃ d, Tryd.prog.underlying 59 = some d ∧ d.isRow = true := isrow 59 (by kernel_rfl)
theorem row61 : ∃ d, Tryd.prog.underlying 61 = some d ∧ d.isRow = true := isrow 61 (by kernel_rfl)
theorem row62 : ∃ d, Tryd.prog.underlying 62 = some d ∧ d.isRow = true := isrow 62 (by kernel_rfl)
theorem row64 : ∃ d, Tryd.prog.underlying 64 = some d ∧ d.isRow = true := isrow 64 (by kernel_rfl)
end Go.Proofs.YtikmfaeiecpncaaDoor
