/- What every program answers that is one. Rows of slices that are written out. -/
import Derived.Test.YtikmfaeiecpncaaDoorI
import Derived.Lib.SlBytesConst
namespace Go.Proofs.YtikmfaeiecpncaaDoor
open Go.RowKit

theorem parts_one {w : World} {b : Nat} {ty : TypeId} {v : Value} {xs : List Int} (h : Blk w b ty #[v]) (h1 : NumsAt .u8 w v xs) : PartsAt w (.slice (some ⟨b, 0, none⟩) 1 1) [xs] := by
  refine ⟨_, _, rfl, by simp, fun h => (by cases h), b, 0, fun i hi => ⟨rfl, ?_⟩⟩
  rcases i with _ | i
  · exact ⟨v, by rw [h.cell]; rfl, h1⟩
  · simp at hi
theorem parts_two {w : World} {b : Nat} {ty : TypeId} {v v' : Value} {xs ys : List Int} (h : Blk w b ty #[v, v']) (h1 : NumsAt .u8 w v xs) (h2 : NumsAt .u8 w v' ys) : PartsAt w (.slice (some ⟨b, 0, none⟩) 2 2) [xs, ys] := by
  refine ⟨_, _, rfl, by simp, fun h => (by cases h), b, 0, fun i hi => ⟨rfl, ?_⟩⟩
  rcases i with _ | _ | i
  · exact ⟨v, by rw [h.cell]; rfl, h1⟩
  · exact ⟨v', by rw [h.cell]; rfl, h2⟩
  · simp at hi; omega
theorem parts_three {w : World} {b : Nat} {ty : TypeId} {v v' v'' : Value} {xs ys zs : List Int} (h : Blk w b ty #[v, v', v'']) (h1 : NumsAt .u8 w v xs) (h2 : NumsAt .u8 w v' ys) (h3 : NumsAt .u8 w v'' zs) : PartsAt w (.slice (some ⟨b, 0, none⟩) 3 3) [xs, ys, zs] := by
  refine ⟨_, _, rfl, by simp, fun h => (by cases h), b, 0, fun i hi => ⟨rfl, ?_⟩⟩
  rcases i with _ | _ | _ | i
  · exact ⟨v, by rw [h.cell]; rfl, h1⟩
  · exact ⟨v', by rw [h.cell]; rfl, h2⟩
  · exact ⟨v'', by rw [h.cell]; rfl, h3⟩
  · simp at hi; omega
theorem Gl.alloc {w : World} (g : Gl w) (o : Obj) : Gl (w.alloc o) := g.below ((Below.refl w.heap.size w).alloc (Nat.le_refl _) o) g.lt
theorem NumsAt.alloc {w : World} {v : Value} {xs : List Int} (h : NumsAt .u8 w v xs) (o : Obj) : NumsAt .u8 (w.alloc o) v xs := h.below ((Below.refl w.heap.size w).alloc (Nat.le_refl _) o)
theorem sha_abc : sha [97, 98, 99] = [0xba, 0x78, 0x16, 0xbf, 0x8f, 0x01, 0xcf, 0xea, 0x41, 0x41, 0x40, 0xde, 0x5d, 0xae, 0x22, 0x23, 0xb0, 0x03, 0x61, 0xa3, 0x96, 0x17, 0x7a, 0x9c, 0xb4, 0x10, 0xff, 0x61, 0xf2, 0x00, 0x15, 0xad] := by kernel_rfl
theorem below_all {w : World} {a : World} (h : Below w.heap.size w a) {b : World} (h' : Below a.heap.size a b) : Below w.heap.size w b := h.trans (h'.mono h.size)

/-- '[]byte("..")' of a constant. -/
theorem conv_lit (w : World) (b : Nat) (C : Array Value) (n c : Nat) (hb : w.heap.size = b) :
    (convert 22 22 (.slice (some ⟨b, 0, none⟩) n c)).run Tryd.prog (w.alloc (.cells C 5)) = .ok (.slice (some ⟨b, 0, none⟩) n c) (w.alloc (.cells C 5 (C.size, C.size + 1))) := by
  subst hb; exact Lib.run_convert_bytes_const (P := Tryd.prog) w 22 5 C n c Tryd.underlying22 Tryd.underlying5
theorem nums_lit (w : World) (e : TypeId) (fr : Nat × Nat) (xs : List Int) (n : Nat) (hn : xs.length = n) (hl : n ≤ 1000000) : NumsAt .u8 (w.alloc (.cells (bys xs) e fr)) (.slice (some ⟨w.heap.size, 0, none⟩) n n) xs := by
  subst hn
  refine ⟨_, _, rfl, Nat.le_refl _, by omega, fun h => (by cases h), .inr ⟨_, _, rfl, fun i hi => ?_⟩⟩
  have := heap_alloc_new w (.cells (bys xs) e fr)
  rw [World.cell?, this, Nat.zero_add]
  exact bys_at xs i hi
set_option maxHeartbeats 400000 in
theorem awake_any (w : World) (hg : Gl w) : Calls Tryd.prog 14 #[] w fun e w' => e = .returned (.bool true) ∧ Below w.heap.size w w' := by
  obtain ⟨r, hr⟩ := name_it (sha [97, 98, 99])
  have hr0 : r.getD 0 0 = 186 := by rw [hr.out, sha_abc]; rfl
  have hr1 : r.getD 1 0 = 120 := by rw [hr.out, sha_abc]; rfl
  have hr31 : r.getD 31 0 = 173 := by rw [hr.out, sha_abc]; rfl
  have hrl : r.length = 32 := by rw [hr.out]; exact sha_len _
  replace hg := Lib.hid hg
  have kc := conv_lit
  go_enter Tryd.func14, Tryd.ntmps14
  go_wp2_with fail
  have n1 := (nums_lit w 5 (1, 2) [97] 1 rfl (by omega)).alloc (.cells (bys [98, 99]) 5 (2, 3)) |>.alloc (.cells #[.slice (some ⟨w.heap.size, 0, none⟩) 1 1, .slice (some ⟨w.heap.size + 1, 0, none⟩) 2 2] 22)
  have n2 := (nums_lit (w.alloc (.cells (bys [97]) 5 (1, 2))) 5 (2, 3) [98, 99] 2 rfl (by omega)).alloc (.cells #[.slice (some ⟨w.heap.size, 0, none⟩) 1 1, .slice (some ⟨w.heap.size + 1, 0, none⟩) 2 2] 22)
  have l1 := Blk.new ((w.alloc (.cells (bys [97]) 5 (1, 2))).alloc (.cells (bys [98, 99]) 5 (2, 3))) 22 #[.slice (some ⟨w.heap.size, 0, none⟩) 1 1, .slice (some ⟨w.heap.size + 1, 0, none⟩) 2 2]
  have b1 := (((Below.refl w.heap.size w).alloc (Nat.le_refl _) (.cells (bys [97]) 5 (1, 2))).alloc (by simp) (.cells (bys [98, 99]) 5 (2, 3))).alloc (by simp; omega) (.cells #[.slice (some ⟨w.heap.size, 0, none⟩) 1 1, .slice (some ⟨w.heap.size + 1, 0, none⟩) 2 2] 22)
  rw [show (w.alloc (.cells (bys [97]) 5 (1, 2))).heap.size = w.heap.size + 1 by simp] at n2
  rw [show ((w.alloc (.cells (bys [97]) 5 (1, 2))).alloc (.cells (bys [98, 99]) 5 (2, 3))).heap.size = w.heap.size + 1 + 1 by simp] at l1
  change Calls _ _ _ (((w.alloc (.cells (bys [97]) 5 (1, 2))).alloc (.cells (bys [98, 99]) 5 (2, 3))).alloc (.cells #[.slice (some ⟨w.heap.size, 0, none⟩) 1 1, .slice (some ⟨w.heap.size + 1, 0, none⟩) 2 2] 22)) _
  generalize ((w.alloc (.cells (bys [97]) 5 (1, 2))).alloc (.cells (bys [98, 99]) 5 (2, 3))).alloc (.cells #[.slice (some ⟨w.heap.size, 0, none⟩) 1 1, .slice (some ⟨w.heap.size + 1, 0, none⟩) 2 2] 22) = w1 at n1 n2 l1 b1 ⊢
  refine (sum_any _ _ [97, 98, 99] w1 rfl (parts_two l1 n1 n2) (byt_of (by simp)) (by simp) (hg.out.below b1 hg.out.lt)).mono ?_
  rintro e w2 ⟨rfl, hb2⟩
  rw [← hr.out]
  replace b1 := Lib.hid (b1.trans (hb2.mono b1.size))
  have z8 : (Tryd.prog.info? 26).map (·.size) = some (bys r).size := by rw [bys_size, hrl]; exact sz26
  replace z8 := Lib.hid z8
  have ho8 : Hid ((bys (zb 32)).size = (bys r).size) := by show _ = _; rw [bys_size, bys_size, hrl]; rfl
  have ln := Lib.hid ((Blk.new w2 26 (bys (zb 32))).setRow (bys r))
  have b2 := Lib.hid (below_setRow (g := w2.heap.size) (b1.out.alloc (b1.out.size) (.cells (bys (zb 32)) 26)) b1.out.size (bys r))
  clear n1 n2 l1 hb2 b1 kc
  obtain ⟨b3, hb3⟩ : ∃ b, b = w2.heap.size := ⟨_, rfl⟩
  obtain ⟨w3, hw3⟩ : ∃ x, x = (w2.alloc (.cells (bys (zb 32)) 26)).setRow w2.heap.size (bys r) := ⟨_, rfl⟩
  rw [← hw3] at ln b2
  replace hw3 := Lib.hid hw3
  have c0 := ln.out.byte 0 (by omega)
  have c1 := ln.out.byte 1 (by omega)
  have c31 := ln.out.byte 31 (by omega)
  rw [hr0] at c0
  rw [hr1] at c1
  rw [hr31] at c31
  go_wp2_with (first
    | (refine wpList_store_row rfl 26 _ _ rfl _ _ rfl rfl 26 _ (Blk.new w2 26 (bys (zb 32))) z8.out ho8.out (bys_one _) ?_; change wpList _ _ _ _ _ ((w2.alloc (.cells (bys (zb 32)) 26)).setRow w2.heap.size (bys r)); rw [← hw3.out])
    | fail)
  refine (pad_any 3 _ (by omega)).mono ?_
  rintro e w4 ⟨v4, rfl, hpad, hb4⟩
  obtain ⟨a4, c4, rfl, _⟩ := slice_form hpad.nums
  have hlp : (padL 3).length = 61 := by decide
  rw [hlp]
  go_wp2
  go_ret
  exact ⟨rfl, b2.out.trans (hb4.mono b2.out.size)⟩
end Go.Proofs.YtikmfaeiecpncaaDoor
