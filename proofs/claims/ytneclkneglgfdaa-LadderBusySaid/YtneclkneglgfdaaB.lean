/- Contracts of Ask, Busy, Slot, and of the reference's. -/
import Derived.Test.YtneclkneglgfdaaA
namespace Go.Proofs.Ytneclkneglgfdaa
open Go.RowKit Go.Maps

theorem law3 : Keyed Try.prog 3 := int_keyed Try.underlying3
theorem zero41 (w : World) : (zeroValue 41).run Try.prog w = .ok (.agg #[]) w := by kernel_rfl

/-- The keys of the set behind asks. -/
def keysOf (xs : List Int) : List Lit := (xs.filter (fun x => decide (0 ≤ x))).map (Lit.int .i64)
/-- A ladder at block b, its set at block m. -/
structure Lad (w : World) (b m : Nat) (host : Int) (xs : List Int) : Prop where
  cells : w.heap[b]? = some (.cells #[.int .i64 host, .map (some m)] 40 (0, 0))
  set : w.ownsMap (H := Unit) Try.prog 3 unitElem m xs.length (setOf (.agg []) (keysOf xs))

theorem Lad.below {w w' : World} {b m : Nat} {host : Int} {xs : List Int} (h : Lad w b m host xs) {B : Nat} (hb : Below B w w') (h1 : b < B) (h2 : m < B) : Lad w' b m host xs := by
  refine ⟨(hb.block b h1).trans h.cells, ?_⟩
  obtain ⟨es, clock, e1, r⟩ := h.set
  exact ⟨es, clock, (hb.block m h2).trans e1, r⟩
theorem Lad.lt {w : World} {b m : Nat} {host : Int} {xs : List Int} (h : Lad w b m host xs) : b < w.heap.size ∧ m < w.heap.size := ⟨lt_of_block h.cells, h.set.lt⟩
theorem Lad.cell0 {w : World} {b m : Nat} {host : Int} {xs : List Int} (h : Lad w b m host xs) : w.cell? ⟨b, 0, none⟩ = some (.int .i64 host) := by simp [World.cell?, h.cells]
theorem Lad.cell1 {w : World} {b m : Nat} {host : Int} {xs : List Int} (h : Lad w b m host xs) : w.cell? ⟨b, 1, none⟩ = some (.map (some m)) := by simp [World.cell?, h.cells]

theorem keysOf_isKey (xs : List Int) : ∀ x ∈ keysOf xs, WideAt.IsKeyLit x := by
  intro y hy; obtain ⟨_, _, rfl⟩ := List.mem_map.1 hy; trivial
theorem any_int (x : Int) : ∀ l : List Int, l.any ((fun y : Lit => y.sameKey (.int .i64 x)) ∘ Lit.int .i64) = l.contains x
  | [] => rfl
  | a :: r => by
    rw [List.any_cons, List.contains_cons, any_int x r]
    congr 1
    show decide (IntKind.i64 = IntKind.i64 ∧ a = x) = (x == a)
    by_cases e : a = x
    · subst e
      simp
    · have e' : ¬ x = a := fun h => e h.symm
      simp [e, e']
theorem has_keys (xs : List Int) (x : Int) : Maps.has (setOf (H := Unit) (.agg []) (keysOf xs)) (.int .i64 x) = (xs.filter (fun x => decide (0 ≤ x))).contains x := by
  rw [has_setOf _ _ _ (keysOf_isKey xs), keysOf, List.any_map]
  exact any_int x _
theorem keysOf_neg (xs : List Int) {x : Int} (h : x < 0) : keysOf (xs ++ [x]) = keysOf xs := by
  simp [keysOf, List.filter_append]; omega
theorem keysOf_pos (xs : List Int) {x : Int} (h : 0 ≤ x) : keysOf (xs ++ [x]) = keysOf xs ++ [.int .i64 x] := by
  simp [keysOf, List.filter_append, h]

/-- A new ladder. -/
theorem Lad.made (w : World) (host : Int) : Lad ((w.alloc (.map #[] 0)).alloc (.cells #[.int .i64 host, .map (some w.heap.size)] 40)) (w.heap.size + 1) w.heap.size host [] := by
  refine ⟨?_, (World.ownsMap_made w _ _ _).alloc _⟩
  have := heap_alloc_new (w.alloc (.map #[] 0)) (.cells #[.int .i64 host, .map (some w.heap.size)] 40)
  simpa using this

/-- New, in these words. -/
theorem new_lad (host : Int) (w : World) :
    Calls Try.prog 9 #[.int .i64 host] w fun e w' => e = .returned (.pointer (some ⟨w.heap.size + 1, 0, none⟩)) ∧ Lad w' (w.heap.size + 1) w.heap.size host [] ∧ Below w.heap.size w w' ∧ w.heap.size + 2 ≤ w'.heap.size := by
  refine (new_any host w).mono ?_
  rintro e w' ⟨rfl, rfl⟩
  exact ⟨rfl, Lad.made w host, ((Below.refl _ _).alloc (Nat.le_refl _) _).alloc (by simp) _, by simp⟩

/-- What Ask leaves: nothing has turned but the set's block. -/
theorem ask_any (b m : Nat) (host t : Int) (xs : List Int) (w : World) (h : Lad w b m host xs) (hn : xs.length < 4611686018427387904) (h1 : -9223372036854775808 ≤ t) (h2 : t ≤ 9223372036854775807) :
    Calls Try.prog 10 #[.pointer (some ⟨b, 0, none⟩), .int .i64 t] w fun e w' => e = .returned (.tuple #[]) ∧ Lad w' b m host (xs ++ [t]) ∧ w.grownBy w' (some m) := by
  have hc1 := h.cell1
  have hs := h.set
  have hbm : b ≠ m := fun e => by
    subst e
    obtain ⟨_, _, e1, _⟩ := h.set
    rw [h.cells] at e1
    cases e1
  have hcells := Lib.hid h.cells
  clear h
  by_cases ht : 0 ≤ t
  · have hkey : keyOf Try.prog 3 (.int .i64 t) = some (.int .i64 t) := keyOf_int_mk Try.underlying3 (WalkArith.wf_i64 (by omega))
    go_enter Try.func10, Try.ntmps10
    go_wp2_with (first
      | (at_mapUpdate; refine wpList_mapUpdate_own _ rfl _ _ _ 38 rfl 3 41 law3 Try.underlying38 (unitElem (H := Unit)) m xs.length _ rfl hs (by unfold maxLen; omega) _ _ _ rfl rfl hkey _ [] unitElem_mk ?_; intro w1 hown1 hgrow1)
      | go_in)
    go_end0
    refine ⟨rfl, ⟨(hgrow1.block b (lt_of_block hcells.out) (fun e => hbm (by injection e))).trans hcells.out, ?_⟩, hgrow1⟩
    rw [keysOf_pos xs ht, setOf_snoc]
    simpa using hown1
  · go_enter Try.func10, Try.ntmps10
    go_wp2
    go_end0
    refine ⟨rfl, ⟨hcells.out, ?_⟩, ⟨rfl, rfl, rfl, Nat.le_refl _, fun _ _ _ => rfl⟩⟩
    rw [keysOf_neg xs (by omega)]
    exact hs.mono (by simp)

theorem ask_nil (t : Int) (w : World) :
    Calls Try.prog 10 #[.pointer none, .int .i64 t] w fun e w' => e = .returned (.tuple #[]) ∧ w = w' := by
  go_enter Try.func10, Try.ntmps10
  go_wp2
  go_end0
  exact ⟨rfl, rfl⟩

/-- Was something asked, of late? -/
def busyB (xs : List Int) (t : Int) : Bool := xs.any (fun a => decide (0 ≤ a) && (decide (a ≤ t) && decide (t - 24 < a)))

theorem busyB_true {xs : List Int} {t x : Int} (hx : x ∈ xs) (h0 : 0 ≤ x) (h1 : x ≤ t) (h2 : t - 24 < x) : busyB xs t = true :=
  List.any_eq_true.2 ⟨x, hx, by simp [h0, h1, h2]⟩
theorem busyB_false {xs : List Int} {t : Int} (h : ∀ x ∈ xs, 0 ≤ x → x ≤ t → t - 24 < x → False) : busyB xs t = false := by
  unfold busyB
  rw [List.any_eq_false]
  intro x hx hb
  simp only [Bool.and_eq_true, decide_eq_true_eq] at hb
  exact h x hx hb.1 hb.2.1 hb.2.2
theorem contains_true {xs : List Int} {x : Int} (h : (xs.filter (fun x => decide (0 ≤ x))).contains x = true) : x ∈ xs ∧ 0 ≤ x := by
  simpa using h
theorem contains_false {xs : List Int} {x : Int} (h : (xs.filter (fun x => decide (0 ≤ x))).contains x = false) : x ∈ xs → 0 ≤ x → False := by
  intro h1 h2
  have : (xs.filter (fun x => decide (0 ≤ x))).contains x = true := by simpa using ⟨h1, h2⟩
  rw [this] at h
  cases h

set_option maxHeartbeats 400000 in
theorem busy_any (b m : Nat) (host t : Int) (xs : List Int) (w : World) (h : Lad w b m host xs) (h1 : -9223372036854775808 ≤ t) (h2 : t ≤ 9223372036854775807) :
    Calls Try.prog 14 #[.pointer (some ⟨b, 0, none⟩), .int .i64 t] w fun e w' => e = .returned (.bool (busyB xs t)) ∧ Below w.heap.size w w' := by
  have hl := Lib.hid h
  clear h
  go_enter Try.func14, Try.ntmps14
  go_wp2
  go_loopw [5] (fun i wr => ∃ k : Nat, k ≤ 24 ∧ i = .int .i64 k ∧ Hid (∀ x ∈ xs, 0 ≤ x → x ≤ t → t - k < x → False) ∧ Below w.heap.size w wr) (fun i _ => 24 - (intOf i).toNat)
  case atStart => exact ⟨0, Nat.zero_le _, rfl, fun x _ _ h3 h4 => by simp at h4; omega, Below.refl _ _⟩
  case round =>
    obtain ⟨k, hk, rfl, hno, hbel⟩ := hrel
    have hsz := hbel.size
    obtain ⟨lt1, lt2⟩ := hl.out.lt
    have hl' := hl.out.below hbel lt1 lt2
    have hc1 := hl'.cell1
    have hs := hl'.set
    clear hl'
    by_cases hin : k < 24 ∧ (k : Int) ≤ t
    · obtain ⟨hlt, hle⟩ := hin
      have hkey : keyOf Try.prog 3 (.int .i64 (t - k)) = some (.int .i64 (t - k)) := keyOf_int_mk Try.underlying3 (WalkArith.wf_i64 (by omega))
      cases hhas : Maps.has (setOf (H := Unit) (.agg []) (keysOf xs)) (.int .i64 (t - k))
      · have HH := Lib.hid hhas
        rw [has_keys] at hhas
        have hnot := contains_false hhas
        have HN : Hid (∀ x ∈ xs, 0 ≤ x → x ≤ t → t - (k + 1 : Nat) < x → False) := by
          intro x hx h3 h4 h5
          by_cases e : x = t - k
          · subst e; exact hnot hx h3
          · exact hno.out x hx h3 h4 (by omega)
        clear hhas hnot hno
        go_wp2_with (first
          | (at_lookup; refine wpList_lookup_own_unit _ rfl _ _ 38 rfl 3 41 law3 Try.underlying38 (zero41 _) m xs.length _ rfl hs _ _ rfl hkey ?_; rw [HH.out])
          | go_in)
        go_roundw
        case rel => exact ⟨k + 1, by omega, by go_num, HN, hbel.alloc hsz _⟩
        case measure => simp [intOf]; omega
      · have HH := Lib.hid hhas
        rw [has_keys] at hhas
        obtain ⟨g1, g2⟩ := contains_true hhas
        have HB := Lib.hid (busyB_true (t := t) g1 g2 (by omega) (by omega))
        clear hhas g1 g2
        go_wp2_with (first
          | (at_lookup; refine wpList_lookup_own_unit _ rfl _ _ 38 rfl 3 41 law3 Try.underlying38 (zero41 _) m xs.length _ rfl hs _ _ rfl hkey ?_; rw [HH.out])
          | go_in)
        go_ret
        exact ⟨ret_bool HB.out.symm, hbel.alloc hsz _⟩
    · have HB : Hid (busyB xs t = false) := busyB_false fun x hx h3 h4 h5 => hno.out x hx h3 h4 (by omega)
      by_cases hlt : k < 24
      · have hgt : ¬ (k : Int) ≤ t := fun e => hin ⟨hlt, e⟩
        clear hin
        go_wp2
        go_ret
        exact ⟨ret_bool HB.out.symm, hbel⟩
      · clear hin
        go_wp2
        go_ret
        exact ⟨ret_bool HB.out.symm, hbel⟩

theorem busy_nil (t : Int) (w : World) :
    Calls Try.prog 14 #[.pointer none, .int .i64 t] w fun e w' => e = .returned (.bool false) ∧ w = w' := by
  go_enter Try.func14, Try.ntmps14
  go_wp2
  go_ret
  exact ⟨rfl, rfl⟩

theorem getD_mem {xs : List Int} {k : Nat} (h : k < xs.length) : xs.getD k 0 ∈ xs := by
  simp [List.getD, List.getElem?_eq_getElem h]

set_option maxHeartbeats 400000 in
theorem refBusy_any (u : Value) (t : Int) (xs : List Int) (w : World) (hu : NumsAt .i64 w u xs) (h1 : -9223372036854775808 ≤ t) (h2 : t ≤ 9223372036854775807) :
    Calls Try.prog 15 #[u, .int .i64 t] w fun e w' => e = .returned (.bool (busyB xs t)) ∧ w = w' := by
  obtain ⟨a, ca, rfl, hl, ba, oa, hca⟩ := hu.form
  clear hu
  go_enter Try.func15, Try.ntmps15
  go_wp2
  go_loop [5] (fun i => ∃ k : Nat, k ≤ xs.length ∧ i = .int .i64 k ∧ Hid (busyB (xs.take k) t = false)) (fun i => xs.length - (intOf i).toNat)
  case atStart => exact ⟨0, Nat.zero_le _, rfl, rfl⟩
  case round =>
    obtain ⟨k, hk, rfl, hno⟩ := hrel
    by_cases hlt : k < xs.length
    · obtain ⟨rfl, hc⟩ := hca.out k hlt
      obtain ⟨x, hx⟩ := name_it (xs.getD k 0)
      rw [← hx.out] at hc
      by_cases hyes : 0 ≤ x ∧ x ≤ t ∧ t - 24 < x
      · obtain ⟨g0, g1, g2⟩ := hyes
        have HB : Hid (busyB xs t = true) := busyB_true (by rw [hx.out]; exact getD_mem hlt) g0 g1 g2
        go_wp2
        go_ret
        exact ⟨ret_bool HB.out.symm, rfl⟩
      · have HN : Hid (busyB (xs.take (k + 1)) t = false) := by
          have e : xs.take (k + 1) = xs.take k ++ [x] := by
            rw [List.take_add_one, hx.out]; simp [List.getD, List.getElem?_eq_getElem hlt]
          have := hno.out
          show busyB _ _ = _
          rw [e]
          unfold busyB at this ⊢
          rw [List.any_append, this]
          simp
          omega
        by_cases g0 : 0 ≤ x
        · by_cases g1 : x ≤ t
          · have g2 : ¬ t - 24 < x := fun g => hyes ⟨g0, g1, g⟩
            clear hyes
            go_wp2
            go_round
            case rel => exact ⟨k + 1, by omega, by go_num, HN⟩
            case measure => simp [intOf]; omega
          · clear hyes
            go_wp2
            go_round
            case rel => exact ⟨k + 1, by omega, by go_num, HN⟩
            case measure => simp [intOf]; omega
        · clear hyes
          go_wp2
          go_round
          case rel => exact ⟨k + 1, by omega, by go_num, HN⟩
          case measure => simp [intOf]; omega
    · have HB : Hid (busyB xs t = false) := by
        have := hno.out
        rwa [List.take_of_length_le (by omega)] at this
      go_wp2
      go_ret
      exact ⟨ret_bool HB.out.symm, rfl⟩

end Go.Proofs.Ytneclkneglgfdaa
