/- A label is an expansion: the statement's walk. -/
import Derived.Test.YtikmfaeiecpncaaDoorHF
import Derived.Test.YtikmfaeiecpncaaDoorQ
import Derived.Test.YtikmfaeiecpncaaDoorHM
import Derived.Laws.BytesArg
namespace Go.Proofs.YtikmfaeiecpncaaDoor
open Go.RowKit

def growV (k : Nat) : Int := ((k : Int) * 7 + 31 + (k : Int) / 13) % 256
def gN (n : Nat) : Nat → List Int
  | 0 => List.replicate n 0
  | k + 1 => (gN n k).set k (growV k)
theorem gN_len (n k : Nat) : (gN n k).length = n := by induction k with
  | zero => simp [gN]
  | succ k ih => simp [gN, ih]
theorem byt_gN (n k : Nat) : Byt (gN n k) := by induction k with
  | zero => exact byt_of fun m hm => by simp [gN] at hm; omega
  | succ k ih =>
    refine byt_of fun m hm => ?_
    rcases List.mem_or_eq_of_mem_set hm with h | h
    · exact byt_mem ih m h
    · subst h; unfold growV; omega
set_option maxHeartbeats 800000 in
theorem grow_any (n : Nat) (w : World) (hn : n ≤ 300) : Calls Tryd.prog 28 #[.int .i64 n, .int .i64 1] w fun e w' => ∃ v, e = .returned v ∧ NumsAt .u8 w' v (gN n n) ∧ Below w.heap.size w w' := by
  have hmk := fun w => make_bytes n (by omega) w
  have hnI : (n : Int) ≤ 300 := by omega
  go_enter Tryd.func28, Tryd.ntmps28
  go_wp2_with fail
  go_loopw [6] (fun i wr => ∃ k : Nat, k ≤ n ∧ i = .int .i64 k ∧ Hid (Blk wr w.heap.size 5 (bys (gN n k))) ∧ Hid (Below w.heap.size w wr)) (fun i _ => n - (intOf i).toNat)
  case atStart => exact ⟨0, Nat.zero_le _, rfl, Blk.new w 5 (bys (List.replicate n 0)), (Below.refl _ _).alloc (Nat.le_refl _) _⟩
  case round =>
    obtain ⟨k, hk, rfl, l, b⟩ := hrel
    have hln := gN_len n k
    replace hln := Lib.hid hln
    by_cases hlt : k < n
    · have hkI : (k : Int) < n := by omega
      obtain ⟨y, hy⟩ := name_it (growV k)
      have ey : ((k : Int) * 7 + 31 + (k : Int) / 13) % 256 = y := hy.out.symm
      have cc := l.out.byte k (by rw [hln.out]; exact hlt)
      have ff := l.out.fr k
      go_wp2_with fail
      have l' := l.out.setByte k y
      rw [show (gN n k).set k y = gN n (k + 1) by rw [gN, hy.out]] at l'
      have b' := b.out.setCell (p := ⟨w.heap.size, k, none⟩) (Nat.le_refl _) (.int .u8 y)
      go_roundw
      case rel => exact ⟨k + 1, by omega, by go_num, l', b'⟩
      case measure => simp [intOf]; omega
    · obtain rfl : k = n := by omega
      go_wp2_with fail
      go_ret
      exact ⟨_, rfl, l.out.nums k hln.out (by omega), b.out⟩
theorem strB_nums {xs : List Int} (h : Byt xs) : strB (strOfNums xs) = xs := by
  apply List.ext_getElem?
  intro i
  simp only [strB, strOfNums, List.getElem?_map]
  by_cases hi : i < xs.length
  · have h1 := byt_mem h xs[i] (List.getElem_mem hi)
    simp [List.getElem?_eq_getElem hi]
    omega
  · simp [List.getElem?_eq_none (show xs.length ≤ i by omega)]
theorem conv_str {w : World} {v : Value} {xs : List Int} (h : NumsAt .u8 w v xs) (hb : Byt xs) : ∃ s : ByteArray, strB s = xs ∧ s.size = xs.length ∧ (convert 22 9 v).run Tryd.prog w = .ok (.string s) w := by
  obtain ⟨a, cap, rfl, _, _, _, hc⟩ := h
  have main : ∃ s : ByteArray, strB s = xs ∧ (convert 22 9 (.slice a xs.length cap)).run Tryd.prog w = .ok (.string s) w := by
    cases a with
    | none =>
      have hx : xs = [] := by
        rcases hc with h | ⟨b, off, h, _⟩
        · exact h
        · cases h
      subst hx
      exact ⟨ByteArray.empty, rfl, run_convert_bytes_nil w 22 5 un22' un5 _ _ 9 un9⟩
    | some p =>
      rcases hc with rfl | ⟨b, off, hp, hcell⟩
      · obtain ⟨b, off, spot⟩ := p
        have hx : (loadCells ⟨b, off, spot⟩ 0).run Tryd.prog w = .ok (([] : List Int).map (Value.int .u8)).toArray w := by simpa using run_loadCells_list (P := Tryd.prog) w ⟨b, off, spot⟩ [] (by simp)
        have := run_bytesToString (P := Tryd.prog) w ⟨b, off, spot⟩ 0 cap [] hx
        exact ⟨ByteArray.empty, rfl, by rw [run_convert_bytes_string w 22 9 5 _ _ _ un22' un5 un9]; exact this⟩
      · obtain rfl := Option.some.inj hp
        exact ⟨strOfNums xs, strB_nums hb, run_convert_bytes_arg w 22 5 un22' un5 b off _ cap xs rfl hcell 9 un9⟩
  obtain ⟨s, hs, hr⟩ := main
  exact ⟨s, hs, by rw [← strB_len, hs], hr⟩
end Go.Proofs.YtikmfaeiecpncaaDoor
