/- The step of the digest. -/
import Derived.Test.YtikmfaeiecpncaaDoorR
namespace Go.Proofs.YtikmfaeiecpncaaDoor
open Go.RowKit

/-- What the two variables of the package hold. -/
structure Gl (w : World) : Prop where
  k : ∀ i, i < 64 → w.cell? ⟨1, i, none⟩ = some (.int .u32 (V (Kc.getD i 0)))
  h : ∃ ty fr, w.heap[0]? = some (.cells (wds H0.list) ty fr)
theorem Gl.lt {w : World} (g : Gl w) : 1 < w.heap.size := cell_lt (g.k 0 (by omega))
theorem Gl.below {w w' : World} (g : Gl w) {B : Nat} (hb : Below B w w') (h : 1 < B) : Gl w' :=
  ⟨fun i hi => (hb.cell (p := ⟨1, i, none⟩) (by show 1 < B; exact h)).trans (g.k i hi), by obtain ⟨ty, fr, h0⟩ := g.h; exact ⟨ty, fr, (hb.block 0 (by omega)).trans h0⟩⟩
theorem mixed : Tryd.prog.follows .mixedOrders = true := by kernel_rfl
def zeros (n : Nat) : Ws := List.replicate n 0

/-- The frame, its five slots open. -/
def F5 (a : Act) (x14 x15 x16 x5 x6 : Value) : Act := ((((a.put (some 14) x14).put (some 15) x15).put (some 16) x16).put (some 5) x5).put (some 6) x6
section
variable (a : Act) (x14 x15 x16 x5 x6 v : Value)
theorem F5_14 : (F5 a x14 x15 x16 x5 x6).put (some 14) v = F5 a v x15 x16 x5 x6 := by
  unfold F5
  rw [put_swap _ (show 6 ≠ 14 by decide), put_swap _ (show 5 ≠ 14 by decide), put_swap _ (show 16 ≠ 14 by decide), put_swap _ (show 15 ≠ 14 by decide), put_same]
theorem F5_15 : (F5 a x14 x15 x16 x5 x6).put (some 15) v = F5 a x14 v x16 x5 x6 := by
  unfold F5
  rw [put_swap _ (show 6 ≠ 15 by decide), put_swap _ (show 5 ≠ 15 by decide), put_swap _ (show 16 ≠ 15 by decide), put_same]
theorem F5_16 : (F5 a x14 x15 x16 x5 x6).put (some 16) v = F5 a x14 x15 v x5 x6 := by
  unfold F5
  rw [put_swap _ (show 6 ≠ 16 by decide), put_swap _ (show 5 ≠ 16 by decide), put_same]
theorem F5_5 : (F5 a x14 x15 x16 x5 x6).put (some 5) v = F5 a x14 x15 x16 v x6 := by
  unfold F5
  rw [put_swap _ (show 6 ≠ 5 by decide), put_same]
theorem F5_6 : (F5 a x14 x15 x16 x5 x6).put (some 6) v = F5 a x14 x15 x16 x5 v := by
  unfold F5
  rw [put_same]
variable (hs : a.tmps.size = 121)
include hs
theorem ev14 : (F5 a x14 x15 x16 x5 x6).eval (.tmp 14) = x14 := by
  unfold F5
  rw [eval_ne _ _ (by decide), eval_ne _ _ (by decide), eval_ne _ _ (by decide), eval_ne _ _ (by decide), eval_same _ _ _ (by omega)]
theorem ev15 : (F5 a x14 x15 x16 x5 x6).eval (.tmp 15) = x15 := by
  unfold F5
  rw [eval_ne _ _ (by decide), eval_ne _ _ (by decide), eval_ne _ _ (by decide), eval_same _ _ _ (by simp only [size_put]; omega)]
theorem ev16 : (F5 a x14 x15 x16 x5 x6).eval (.tmp 16) = x16 := by
  unfold F5
  rw [eval_ne _ _ (by decide), eval_ne _ _ (by decide), eval_same _ _ _ (by simp only [size_put]; omega)]
theorem ev5 : (F5 a x14 x15 x16 x5 x6).eval (.tmp 5) = x5 := by
  unfold F5
  rw [eval_ne _ _ (by decide), eval_same _ _ _ (by simp only [size_put]; omega)]
theorem ev6 : (F5 a x14 x15 x16 x5 x6).eval (.tmp 6) = x6 := by
  unfold F5
  rw [eval_same _ _ _ (by simp only [size_put]; omega)]
omit hs in
theorem ev2 : (F5 a x14 x15 x16 x5 x6).eval (.tmp 2) = a.eval (.tmp 2) := by
  unfold F5
  rw [eval_ne _ _ (by decide), eval_ne _ _ (by decide), eval_ne _ _ (by decide), eval_ne _ _ (by decide), eval_ne _ _ (by decide)]
omit hs in
theorem ev3 : (F5 a x14 x15 x16 x5 x6).eval (.tmp 3) = a.eval (.tmp 3) := by
  unfold F5
  rw [eval_ne _ _ (by decide), eval_ne _ _ (by decide), eval_ne _ _ (by decide), eval_ne _ _ (by decide), eval_ne _ _ (by decide)]
end

/-- What stands between the operations that lay the step's variables: which are done. -/
def R1 (s : St) (blk : List Int) (w0 : World) (B : Nat) (a : Act) (d : Nat → Bool) (a' : Act) (w : World) : Prop :=
  ∃ x14 x15 x16 x5 x6, a' = F5 a x14 x15 x16 x5 x6 ∧
    (d 0 = true → x14 = .agg (bys blk)) ∧ (d 1 = true → x15 = .agg (wds (sched blk))) ∧ (d 2 = true → x16 = .agg (wds s.list)) ∧
    (d 3 = true → ∃ b5, x5 = .pointer (some ⟨b5, 0, none⟩) ∧ B + 3 ≤ b5 ∧ Blk w b5 75 (wds (if d 5 then sched blk else zeros 64))) ∧
    (d 4 = true → ∃ b6, x6 = .pointer (some ⟨b6, 0, none⟩) ∧ B + 3 ≤ b6 ∧ Blk w b6 32 (wds (if d 6 then s.list else zeros 8))) ∧
    (d 3 = true → d 4 = true → ∀ b5 b6, x5 = .pointer (some ⟨b5, 0, none⟩) → x6 = .pointer (some ⟨b6, 0, none⟩) → b5 ≠ b6) ∧ (d 3 = false → d 5 = false) ∧ (d 4 = false → d 6 = false) ∧
    Blk w B 32 (wds s.list) ∧ Blk w (B + 1) 33 (bys blk) ∧ Blk w (B + 2) 32 (wds (zeros 8)) ∧ Below B w0 w

theorem alloc75 (w : World) : (do pure (Next.value (← Instr.alloc 75 true (.tuple #[]))) : Sem Next).run Tryd.prog w = .ok (.value (.pointer (some ⟨w.heap.size, 0, none⟩))) (w.alloc (.cells (wds (zeros 64)) 75)) := by
  kernel_rfl
theorem alloc32 (w : World) : (do pure (Next.value (← Instr.alloc 32 true (.tuple #[]))) : Sem Next).run Tryd.prog w = .ok (.value (.pointer (some ⟨w.heap.size, 0, none⟩))) (w.alloc (.cells (wds (zeros 8)) 32)) := by
  kernel_rfl
section
variable {s : St} {blk : List Int} {w0 : World} {B : Nat} {a : Act} {d : Nat → Bool} {a' : Act} {w' : World} {o : Oper} {Q : Exit → Act → World → Prop}
variable (hs : a.tmps.size = 121) (e2 : a.eval (.tmp 2) = .pointer (some ⟨B, 0, none⟩)) (e3 : a.eval (.tmp 3) = .pointer (some ⟨B + 1, 0, none⟩))
include hs
omit hs in
include e3 in
theorem r1_0 (hx : blk.length = 64) (ho : o.op = .load 33 (.tmp 3)) (hd : o.dst = some 14) (hI : R1 s blk w0 B a d a' w') : o.wp Tryd.prog a' w' (R1 s blk w0 B a (upd d 0)) Q := by
  obtain ⟨x14, x15, x16, x5, x6, rfl, h0, h1, h2, h3, h4, h34, h5, h6, l0, l1, l2, b0⟩ := hI
  refine wp_load_row 33 _ ho (B + 1) ((ev3 _ _ _ _ _ _).trans e3) 33 _ _ _ l1 arr33 rfl (by rw [bys_size, hx]; exact sz33) ?_
  rw [hd, F5_14]
  exact ⟨_, x15, x16, x5, x6, rfl, fun _ => rfl, h1, h2, h3, h4, h34, h5, h6, l0, l1, l2, b0⟩
theorem r1_1 (hx : blk.length = 64) (hb : ∀ i, 0 ≤ blk.getD i 0 ∧ blk.getD i 0 ≤ 255) (ho : o.op = .call { callee := .value (.func 51), args := #[.tmp 14], argTypes := #[33] }) (hd : o.dst = some 15) (d0 : d 0 = true) (hI : R1 s blk w0 B a d a' w') : o.wp Tryd.prog a' w' (R1 s blk w0 B a (upd d 1)) Q := by
  obtain ⟨x14, x15, x16, x5, x6, rfl, h0, h1, h2, h3, h4, h34, h5, h6, l0, l1, l2, b0⟩ := hI
  obtain rfl := h0 d0
  refine wp_call_go ho Tryd.func51 (by kernel_rfl) rfl ?_
  rw [show (#[Operand.tmp 14].map (F5 a (Value.agg (bys blk)) x15 x16 x5 x6).eval) = #[Value.agg (bys blk)] by simp [ev14 _ _ _ _ _ _ hs]]
  refine (sched_any blk _ hx hb).mono ?_
  rintro e w1 ⟨rfl, b1⟩
  refine ⟨_, rfl, ?_⟩
  rw [hd, F5_15]
  have hz := l2.lt
  refine ⟨_, _, x16, x5, x6, rfl, fun _ => rfl, fun _ => rfl, h2, fun hd => ?_, fun hd => ?_, h34, h5, h6, l0.below b1 l0.lt, l1.below b1 l1.lt, l2.below b1 l2.lt, b0.trans (b1.mono (by omega))⟩
  · obtain ⟨b5, hb5, g5, l5⟩ := h3 hd
    exact ⟨b5, hb5, g5, l5.below b1 l5.lt⟩
  · obtain ⟨b6, hb6, g6, l6⟩ := h4 hd
    exact ⟨b6, hb6, g6, l6.below b1 l6.lt⟩
omit hs in
include e2 in
theorem r1_2 (ho : o.op = .load 32 (.tmp 2)) (hd : o.dst = some 16) (hI : R1 s blk w0 B a d a' w') : o.wp Tryd.prog a' w' (R1 s blk w0 B a (upd d 2)) Q := by
  obtain ⟨x14, x15, x16, x5, x6, rfl, h0, h1, h2, h3, h4, h34, h5, h6, l0, l1, l2, b0⟩ := hI
  refine wp_load_row 32 _ ho B ((ev2 _ _ _ _ _ _).trans e2) 32 _ _ _ l0 arr32 rfl sz32 ?_
  rw [hd, F5_16]
  exact ⟨x14, x15, _, x5, x6, rfl, h0, h1, fun _ => rfl, h3, h4, h34, h5, h6, l0, l1, l2, b0⟩
omit hs in
theorem r1_3 (ho : o.op = .alloc 75) (hd : o.dst = some 5) (hn : d 3 = false) (hI : R1 s blk w0 B a d a' w') : o.wp Tryd.prog a' w' (R1 s blk w0 B a (upd d 3)) Q := by
  obtain ⟨x14, x15, x16, x5, x6, rfl, h0, h1, h2, h3, h4, h34, h5, h6, l0, l1, l2, b0⟩ := hI
  have hz := l2.lt
  have d5 := h5 hn
  refine wp_run (v := .pointer (some ⟨w'.heap.size, 0, none⟩)) (w' := w'.alloc (.cells (wds (zeros 64)) 75)) (by simp only [execOp, ho]; exact alloc75 w') ?_
  rw [hd, F5_5]
  refine ⟨x14, x15, x16, _, x6, rfl, h0, h1, h2, fun _ => ⟨w'.heap.size, rfl, by omega, ?_⟩, fun hd => ?_, fun _ hd4 b5 b6 e5 e6 => ?_, fun (hd : upd d 3 3 = false) => Bool.noConfusion (show true = false from hd), h6, l0.alloc _, l1.alloc _, l2.alloc _, b0.alloc (by omega) _⟩
  · rw [show upd d 3 5 = d 5 from rfl, d5]
    exact Blk.new w' 75 (wds (zeros 64))
  · obtain ⟨b6, hb6, g6, l6⟩ := h4 hd
    exact ⟨b6, hb6, g6, l6.alloc _⟩
  · obtain ⟨b6', hb6, g6, l6⟩ := h4 hd4
    rw [hb6] at e6
    cases e5
    cases e6
    have := l6.lt
    omega
omit hs in
theorem r1_4 (ho : o.op = .alloc 32) (hd : o.dst = some 6) (hn : d 4 = false) (hI : R1 s blk w0 B a d a' w') : o.wp Tryd.prog a' w' (R1 s blk w0 B a (upd d 4)) Q := by
  obtain ⟨x14, x15, x16, x5, x6, rfl, h0, h1, h2, h3, h4, h34, h5, h6, l0, l1, l2, b0⟩ := hI
  have hz := l2.lt
  have d6 := h6 hn
  refine wp_run (v := .pointer (some ⟨w'.heap.size, 0, none⟩)) (w' := w'.alloc (.cells (wds (zeros 8)) 32)) (by simp only [execOp, ho]; exact alloc32 w') ?_
  rw [hd, F5_6]
  refine ⟨x14, x15, x16, x5, _, rfl, h0, h1, h2, fun hd => ?_, fun _ => ⟨w'.heap.size, rfl, by omega, ?_⟩, fun hd3 _ b5 b6 e5 e6 => ?_, h5, fun (hd : upd d 4 4 = false) => Bool.noConfusion (show true = false from hd), l0.alloc _, l1.alloc _, l2.alloc _, b0.alloc (by omega) _⟩
  · obtain ⟨b5, hb5, g5, l5⟩ := h3 hd
    exact ⟨b5, hb5, g5, l5.alloc _⟩
  · rw [show upd d 4 6 = d 6 from rfl, d6]
    exact Blk.new w' 32 (wds (zeros 8))
  · obtain ⟨b5', hb5, g5, l5⟩ := h3 hd3
    rw [hb5] at e5
    cases e5
    cases e6
    have := l5.lt
    omega
theorem r1_5 (_ : w0.heap.size ≤ B) (ho : o.op = .store 75 (.tmp 5) (.tmp 15)) (hd : o.dst = none) (d3 : d 3 = true) (d1 : d 1 = true) (hI : R1 s blk w0 B a d a' w') : o.wp Tryd.prog a' w' (R1 s blk w0 B a (upd d 5)) Q := by
  obtain ⟨x14, x15, x16, x5, x6, rfl, h0, h1, h2, h3, h4, h34, h5, h6, l0, l1, l2, b0⟩ := hI
  obtain rfl := h1 d1
  obtain ⟨b5, rfl, g5, l5⟩ := h3 d3
  refine wp_store_row 75 _ _ ho b5 (wds (sched blk)) (ev5 _ _ _ _ _ _ hs) (ev15 _ _ _ _ _ _ hs) 75 _ l5 (by rw [wds_size, sched, schB_len]; exact sz75) (by rw [wds_size, wds_size]; split <;> simp [zeros, sched, schB_len]) (wds_one _) ?_
  rw [hd, put_none]
  refine ⟨x14, _, x16, _, x6, rfl, h0, fun _ => rfl, h2, fun _ => ⟨b5, rfl, g5, ?_⟩, fun hd => ?_, h34, fun (hd : upd d 5 3 = false) => Bool.noConfusion (d3.symm.trans (show d 3 = false from hd)), h6, l0.rowOther _ (by omega), l1.rowOther _ (by omega), l2.rowOther _ (by omega), below_setRow b0 (by omega) _⟩
  · exact l5.setRow _
  · obtain ⟨b6, rfl, g6, l6⟩ := h4 hd
    exact ⟨b6, rfl, g6, l6.rowOther _ (fun e => h34 d3 hd b5 b6 rfl rfl e.symm)⟩
theorem r1_6 (_ : w0.heap.size ≤ B) (ho : o.op = .store 32 (.tmp 6) (.tmp 16)) (hd : o.dst = none) (d4 : d 4 = true) (d2 : d 2 = true) (hI : R1 s blk w0 B a d a' w') : o.wp Tryd.prog a' w' (R1 s blk w0 B a (upd d 6)) Q := by
  obtain ⟨x14, x15, x16, x5, x6, rfl, h0, h1, h2, h3, h4, h34, h5, h6, l0, l1, l2, b0⟩ := hI
  obtain rfl := h2 d2
  obtain ⟨b6, rfl, g6, l6⟩ := h4 d4
  refine wp_store_row 32 _ _ ho b6 (wds s.list) (ev6 _ _ _ _ _ _ hs) (ev16 _ _ _ _ _ _ hs) 32 _ l6 sz32 (by rw [wds_size, wds_size]; split <;> simp [zeros, St.list]) (wds_one _) ?_
  rw [hd, put_none]
  refine ⟨x14, x15, _, x5, _, rfl, h0, h1, fun _ => rfl, fun hd => ?_, fun _ => ⟨b6, rfl, g6, ?_⟩, h34, h5, fun (hd : upd d 6 4 = false) => Bool.noConfusion (d4.symm.trans (show d 4 = false from hd)), l0.rowOther _ (by omega), l1.rowOther _ (by omega), l2.rowOther _ (by omega), below_setRow b0 (by omega) _⟩
  · obtain ⟨b5, rfl, g5, l5⟩ := h3 hd
    exact ⟨b5, rfl, g5, l5.rowOther _ (h34 hd d4 b5 b6 rfl rfl)⟩
  · exact l6.setRow _
end
def addN (xs ts : Ws) : Nat → Ws
  | 0 => xs
  | k + 1 => (addN xs ts k).set k ((addN xs ts k).getD k 0 + ts.getD k 0)
theorem addN_len (xs ts : Ws) (k : Nat) : (addN xs ts k).length = xs.length := by induction k with
  | zero => rfl
  | succ k ih => simp [addN, ih]
theorem addN_all (s t : St) : addN s.list t.list 8 = (s.add t).list := rfl

set_option maxHeartbeats 1600000 in
set_option maxRecDepth 100000 in
theorem step_any (s : St) (blk : List Int) (w : World) (hx : blk.length = 64) (hb : ∀ i, 0 ≤ blk.getD i 0 ∧ blk.getD i 0 ≤ 255) (hg : Gl w) :
    Calls Tryd.prog 20 #[.agg (wds s.list), .agg (bys blk)] w fun e w' => e = .returned (.agg (wds (comp s blk).list)) ∧ Below w.heap.size w w' := by
  obtain ⟨r, hr⟩ := name_it (comp s blk)
  rw [← hr.out]
  go_enter Tryd.func20, Tryd.ntmps20
  go_wp2_with fail
  have l0 := ((Blk.new w 32 (wds s.list)).alloc (.cells (bys blk) 33)).alloc (.cells (wds (zeros 8)) 32)
  have l1 := (Blk.new (w.alloc (.cells (wds s.list) 32)) 33 (bys blk)).alloc (.cells (wds (zeros 8)) 32)
  have l2 := Blk.new ((w.alloc (.cells (wds s.list) 32)).alloc (.cells (bys blk) 33)) 32 (wds (zeros 8))
  rw [show (w.alloc (.cells (wds s.list) 32)).heap.size = w.heap.size + 1 by simp] at l1
  rw [show ((w.alloc (.cells (wds s.list) 32)).alloc (.cells (bys blk) 33)).heap.size = w.heap.size + 2 by simp] at l2
  have b0 := (((Below.refl w.heap.size w).alloc (Nat.le_refl _) (.cells (wds s.list) 32)).alloc (by simp) (.cells (bys blk) 33)).alloc (by simp; omega) (.cells (wds (zeros 8)) 32)
  have z0 : (((w.alloc (.cells (wds s.list) 32)).alloc (.cells (bys blk) 33)).alloc (.cells (wds (zeros 8)) 32)).heap.size = w.heap.size + 3 := by simp
  change Code.wp _ _ _ _ (((w.alloc (.cells (wds s.list) 32)).alloc (.cells (bys blk) 33)).alloc (.cells (wds (zeros 8)) 32))
  generalize ((w.alloc (.cells (wds s.list) 32)).alloc (.cells (bys blk) 33)).alloc (.cells (wds (zeros 8)) 32) = w0 at l0 l1 l2 b0 z0 ⊢
  refine region_invA mixed (by kernel_rfl) (R1 s blk w w.heap.size) ?_ ?_ ?_
  · refine ⟨undef, undef, undef, undef, undef, rfl, ?_, ?_, ?_, ?_, ?_, ?_, fun _ => rfl, fun _ => rfl, l0, l1, l2, b0.drew⟩ <;> (intro h; cases h)
  · intro d a' w' i o ho hI haft hnd
    rcases i with _ | _ | _ | _ | _ | _ | _ | i
    · cases ho
      exact wpOp_plain rfl rfl (r1_0 rfl hx rfl rfl hI)
    · cases ho
      exact wpOp_plain rfl rfl (r1_1 rfl hx hb rfl rfl (by simpa [Region.binds] using haft) hI)
    · cases ho
      exact wpOp_plain rfl rfl (r1_2 rfl rfl rfl hI)
    · cases ho
      exact wpOp_plain rfl rfl (r1_3 rfl rfl hnd hI)
    · cases ho
      exact wpOp_plain rfl rfl (r1_4 rfl rfl hnd hI)
    · cases ho
      have d31 : d 3 = true ∧ d 1 = true := by simp [Region.binds] at haft; exact ⟨haft.1, haft.2.1⟩
      exact wpOp_plain rfl rfl (r1_5 rfl (Nat.le_refl _) rfl rfl d31.1 d31.2 hI)
    · cases ho
      have d42 : d 4 = true ∧ d 2 = true := by simp [Region.binds] at haft; exact ⟨haft.1, haft.2.1⟩
      exact wpOp_plain rfl rfl (r1_6 rfl (Nat.le_refl _) rfl rfl d42.1 d42.2 hI)
    · simp at ho
  · intro d a' w' hall hI
    obtain ⟨x14, x15, x16, x5, x6, rfl, h0, h1, h2, h3, h4, h34, _, _, l0, l1, l2, b0⟩ := hI
    obtain rfl := h0 (hall 0 (by decide))
    obtain rfl := h1 (hall 1 (by decide))
    obtain rfl := h2 (hall 2 (by decide))
    obtain ⟨b5, rfl, hb5, l5⟩ := h3 (hall 3 (by decide))
    obtain ⟨b6, rfl, hb6, l6⟩ := h4 (hall 4 (by decide))
    rw [hall 5 (by decide)] at l5
    rw [hall 6 (by decide)] at l6
    have hne := h34 (hall 3 (by decide)) (hall 4 (by decide)) b5 b6 rfl rfl
    clear hall h0 h1 h2 h3 h4 h34
    simp only [if_true] at l5 l6
    unfold F5
    have hg' := hg.below b0 hg.lt
    have l0 := Lib.hid l0
    have l2 := Lib.hid l2
    have l5 := Lib.hid l5
    have l6 := Lib.hid l6
    clear l1
    go_wp2_with fail
    go_loopw [17] (fun i wr => ∃ k : Nat, k ≤ 64 ∧ i = .int .i64 k ∧ Hid (Blk wr w.heap.size 32 (wds s.list)) ∧ Hid (Blk wr (w.heap.size + 2) 32 (wds (zeros 8))) ∧ Hid (Blk wr b5 75 (wds (sched blk))) ∧ Hid (Blk wr b6 32 (wds (rnds Kc (sched blk) s k).list)) ∧ Below w.heap.size w wr) (fun i _ => 64 - (intOf i).toNat)
    case atStart => exact ⟨0, by omega, rfl, l0, l2, l5, l6, b0⟩
    case round =>
      obtain ⟨k, hk, rfl, l0, l2, l5, l6, b1⟩ := hrel
      by_cases hlt : k < 64
      · obtain ⟨st, hst⟩ := name_it (rnds Kc (sched blk) s k)
        rw [← hst.out] at l6
        obtain ⟨xa, xb, xc, xd, xe, xf, xg, xh⟩ := st
        have c4 : wr.cell? ⟨b6, 4, none⟩ = some (.int .u32 (V xe)) := l6.out.word 4 (show 4 < 8 by decide)
        have e1 : bits .xor .u32 (V (rotI xe 6)) (V (rotI xe 11)) = V (rot xe 6 ^^^ rot xe 11) := V_xor _ _
        have e2 : bits .xor .u32 (V (rot xe 6 ^^^ rot xe 11)) (V (rotI xe 25)) = V (bs1 xe) := V_xor _ _
        go_wp2_with fail
        go_quiet ((go_at_call 52; exact quiet_left (rgt _ _ _ (by decide) (by decide))))
        have l0 := Lib.hid (show Blk (wr.drewN nq) w.heap.size 32 (wds s.list) from l0.out)
        have l2 := Lib.hid (show Blk (wr.drewN nq) (w.heap.size + 2) 32 (wds (zeros 8)) from l2.out)
        have l5 := Lib.hid (show Blk (wr.drewN nq) b5 75 (wds (sched blk)) from l5.out)
        have l6 := Lib.hid (show Blk (wr.drewN nq) b6 32 (wds (St.mk xa xb xc xd xe xf xg xh).list) from l6.out)
        have b1 := below_drewN b1 nq
        generalize wr.drewN nq = w4 at l0 l2 l5 l6 b1 ⊢
        clear c4 e1 e2
        have c4 : w4.cell? ⟨b6, 4, none⟩ = some (.int .u32 (V xe)) := l6.out.word 4 (show 4 < 8 by decide)
        have c5 : w4.cell? ⟨b6, 5, none⟩ = some (.int .u32 (V xf)) := l6.out.word 5 (show 5 < 8 by decide)
        have c6 : w4.cell? ⟨b6, 6, none⟩ = some (.int .u32 (V xg)) := l6.out.word 6 (show 6 < 8 by decide)
        have e1 : bits .and .u32 (V xe) (V xf) = V (xe &&& xf) := V_and _ _
        have e2 : bits .xor .u32 IntKind.u32.max (V xe) = V (~~~xe) := V_not _
        have e3 : bits .and .u32 (V (~~~xe)) (V xg) = V (~~~xe &&& xg) := V_and _ _
        have e4 : bits .xor .u32 (V (xe &&& xf)) (V (~~~xe &&& xg)) = V (cho xe xf xg) := V_xor _ _
        go_wp2
        clear c4 c5 c6 e1 e2 e3 e4
        have gk := (hg.below b1 hg.lt).k k hlt
        have gw := l5.out.word k (by rw [sched, schB_len]; exact hlt)
        obtain ⟨kk, hkk⟩ := name_it (Kc.getD k 0)
        obtain ⟨ww, hww⟩ := name_it ((sched blk).getD k 0)
        rw [← hkk.out] at gk
        rw [← hww.out] at gw
        have hk64 : (k : Int) < 64 := by omega
        have c7 : w4.cell? ⟨b6, 7, none⟩ = some (.int .u32 (V xh)) := l6.out.word 7 (show 7 < 8 by decide)
        have e1 : IntKind.u32.wrap (V xh + V (bs1 xe)) = V (xh + bs1 xe) := V_add _ _
        have e2 : IntKind.u32.wrap (V (xh + bs1 xe) + V (cho xe xf xg)) = V (xh + bs1 xe + cho xe xf xg) := V_add _ _
        have e3 : IntKind.u32.wrap (V (xh + bs1 xe + cho xe xf xg) + V kk) = V (xh + bs1 xe + cho xe xf xg + kk) := V_add _ _
        obtain ⟨t, ht⟩ := name_it (xh + bs1 xe + cho xe xf xg + kk + ww)
        have e4 : IntKind.u32.wrap (V (xh + bs1 xe + cho xe xf xg + kk) + V ww) = V t := by rw [ht.out]; exact V_add _ _
        go_quiet (fail)
        have l0 := Lib.hid (show Blk (w4.drewN nq) w.heap.size 32 (wds s.list) from l0.out)
        have l2 := Lib.hid (show Blk (w4.drewN nq) (w.heap.size + 2) 32 (wds (zeros 8)) from l2.out)
        have l5 := Lib.hid (show Blk (w4.drewN nq) b5 75 (wds (sched blk)) from l5.out)
        have l6 := Lib.hid (show Blk (w4.drewN nq) b6 32 (wds (St.mk xa xb xc xd xe xf xg xh).list) from l6.out)
        have b1 := below_drewN b1 nq
        generalize w4.drewN nq = w6 at l0 l2 l5 l6 b1 ⊢
        clear c7 e1 e2 e3 e4 gk gw
        have c0 : w6.cell? ⟨b6, 0, none⟩ = some (.int .u32 (V xa)) := l6.out.word 0 (show 0 < 8 by decide)
        have e1 : bits .xor .u32 (V (rotI xa 2)) (V (rotI xa 13)) = V (rot xa 2 ^^^ rot xa 13) := V_xor _ _
        have e2 : bits .xor .u32 (V (rot xa 2 ^^^ rot xa 13)) (V (rotI xa 22)) = V (bs0 xa) := V_xor _ _
        go_wp2
        go_quiet ((go_at_call 52; exact quiet_left (rgt _ _ _ (by decide) (by decide))))
        have l0 := Lib.hid (show Blk (w6.drewN nq) w.heap.size 32 (wds s.list) from l0.out)
        have l2 := Lib.hid (show Blk (w6.drewN nq) (w.heap.size + 2) 32 (wds (zeros 8)) from l2.out)
        have l5 := Lib.hid (show Blk (w6.drewN nq) b5 75 (wds (sched blk)) from l5.out)
        have l6 := Lib.hid (show Blk (w6.drewN nq) b6 32 (wds (St.mk xa xb xc xd xe xf xg xh).list) from l6.out)
        have b1 := below_drewN b1 nq
        generalize w6.drewN nq = w8 at l0 l2 l5 l6 b1 ⊢
        clear c0 e1 e2
        have c0 : w8.cell? ⟨b6, 0, none⟩ = some (.int .u32 (V xa)) := l6.out.word 0 (show 0 < 8 by decide)
        have c1 : w8.cell? ⟨b6, 1, none⟩ = some (.int .u32 (V xb)) := l6.out.word 1 (show 1 < 8 by decide)
        have c2 : w8.cell? ⟨b6, 2, none⟩ = some (.int .u32 (V xc)) := l6.out.word 2 (show 2 < 8 by decide)
        have c3 : w8.cell? ⟨b6, 3, none⟩ = some (.int .u32 (V xd)) := l6.out.word 3 (show 3 < 8 by decide)
        have c4 : w8.cell? ⟨b6, 4, none⟩ = some (.int .u32 (V xe)) := l6.out.word 4 (show 4 < 8 by decide)
        have c5 : w8.cell? ⟨b6, 5, none⟩ = some (.int .u32 (V xf)) := l6.out.word 5 (show 5 < 8 by decide)
        have c6 : w8.cell? ⟨b6, 6, none⟩ = some (.int .u32 (V xg)) := l6.out.word 6 (show 6 < 8 by decide)
        have e1 : bits .and .u32 (V xa) (V xb) = V (xa &&& xb) := V_and _ _
        have e2 : bits .and .u32 (V xa) (V xc) = V (xa &&& xc) := V_and _ _
        have e3 : bits .and .u32 (V xb) (V xc) = V (xb &&& xc) := V_and _ _
        have e4 : bits .xor .u32 (V (xa &&& xb)) (V (xa &&& xc)) = V ((xa &&& xb) ^^^ (xa &&& xc)) := V_xor _ _
        have e5 : bits .xor .u32 (V ((xa &&& xb) ^^^ (xa &&& xc))) (V (xb &&& xc)) = V (maj xa xb xc) := V_xor _ _
        have e6 : IntKind.u32.wrap (V t + V (bs0 xa)) = V (t + bs0 xa) := V_add _ _
        have e7 : IntKind.u32.wrap (V (t + bs0 xa) + V (maj xa xb xc)) = V (t + bs0 xa + maj xa xb xc) := V_add _ _
        have e8 : IntKind.u32.wrap (V xd + V t) = V (xd + t) := V_add _ _
        go_wp2_with (refine wpList_store_row rfl 32 _ _ rfl b6 (wds (St.mk (t + bs0 xa + maj xa xb xc) xa xb xc (xd + t) xe xf xg).list) rfl rfl 32 _ l6.out sz32 rfl (wds_one _) ?_)
        have l6' := l6.out.setRow (wds (St.mk (t + bs0 xa + maj xa xb xc) xa xb xc (xd + t) xe xf xg).list)
        rw [show St.mk (t + bs0 xa + maj xa xb xc) xa xb xc (xd + t) xe xf xg = rnds Kc (sched blk) s (k + 1) by
          rw [rnds, ← hst.out, ← hkk.out, ← hww.out, ht.out]; rfl] at l6' ⊢
        go_roundw
        case rel => exact ⟨k + 1, by omega, by go_num, l0.out.rowOther _ (by omega), l2.out.rowOther _ (by omega), l5.out.rowOther _ hne, l6', below_setRow b1 (by omega) _⟩
        case measure => simp [intOf]; omega
      · obtain rfl : k = 64 := by omega
        clear l5
        obtain ⟨st, hst⟩ := name_it (rnds Kc (sched blk) s 64)
        rw [← hst.out] at l6
        go_wp2_with fail
        go_loopw [108] (fun i wr => ∃ k : Nat, k ≤ 8 ∧ i = .int .i64 k ∧ Hid (Blk wr w.heap.size 32 (wds (addN s.list st.list k))) ∧ Hid (Blk wr (w.heap.size + 2) 32 (wds (zeros 8))) ∧ Hid (Blk wr b6 32 (wds st.list)) ∧ Below w.heap.size w wr) (fun i _ => 8 - (intOf i).toNat)
        case atStart => exact ⟨0, by omega, rfl, l0, l2, l6, b1⟩
        case round =>
          obtain ⟨k, hk, rfl, l0, l2, l6, b1⟩ := hrel
          have hln : (addN s.list st.list k).length = 8 := addN_len _ _ _
          by_cases hlt : k < 8
          · have hk8 : (k : Int) < 8 := by omega
            obtain ⟨x, hx'⟩ := name_it ((addN s.list st.list k).getD k 0)
            obtain ⟨y, hy⟩ := name_it (st.list.getD k 0)
            have c0 := l0.out.word k (by omega)
            have f0 := l0.out.fr k
            have c6 := l6.out.word k hlt
            rw [← hx'.out] at c0
            rw [← hy.out] at c6
            have e1 : IntKind.u32.wrap (V x + V y) = V (x + y) := V_add _ _
            go_wp2
            go_region
            go_wp2
            have l0' := l0.out.setWord k (x + y)
            rw [show (addN s.list st.list k).set k (x + y) = addN s.list st.list (k + 1) by rw [addN, hx'.out, hy.out]] at l0'
            have bb := b1.setCell (p := ⟨w.heap.size, k, none⟩) (Nat.le_refl _) (.int .u32 (V (x + y)))
            have l2' := l2.out.setOther (b' := w.heap.size) (o := k) (.int .u32 (V (x + y))) (by omega)
            have l6' := l6.out.setOther (b' := w.heap.size) (o := k) (.int .u32 (V (x + y))) (by omega)
            go_roundw
            case rel => exact ⟨k + 1, by omega, by go_num, l0', l2', l6', bb.drew⟩
            case measure => simp [intOf]; omega
          · obtain rfl : k = 8 := by omega
            rw [addN_all] at l0
            have hout : s.add st = r := by rw [hst.out, hr.out]; rfl
            rw [hout] at l0
            have z8 : (Tryd.prog.info? 32).map (·.size) = some (wds r.list).size := by rw [wds_size]; exact sz32
            have z8 := Lib.hid z8
            have ho8 : Hid ((wds (zeros 8)).size = (wds r.list).size) := by show _ = _; rw [wds_size, wds_size]; rfl
            have l3 := Lib.hid (l2.out.setRow (wds r.list))
            have b3 := Lib.hid (below_setRow b1 (show w.heap.size ≤ w.heap.size + 2 by omega) (wds r.list))
            go_wp2_with (first
              | refine wpList_load_row rfl 32 _ rfl _ rfl 32 _ _ _ l0.out arr32 rfl z8.out ?_
              | refine wpList_store_row rfl 32 _ _ rfl _ _ rfl rfl 32 _ l2.out z8.out ho8.out (wds_one _) ?_)
            have l3 := l3.out
            have b3 := b3.out
            generalize wr.setRow (w.heap.size + 2) (wds r.list) = w9 at l3 b3 ⊢
            exact bodyPost_ret (results_cell_row rfl _ _ _ 32 _ _ _ rfl l3 arr32 rfl z8.out) rfl ⟨rfl, b3⟩
end Go.Proofs.YtikmfaeiecpncaaDoor
