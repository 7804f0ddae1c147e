/- What the laws share: two lists of bytes, a copy, a number below a bound. -/
import Derived.Test.YtikmfaeiecpncaaDoorA
namespace Go.Proofs.YtikmfaeiecpncaaDoor
open Go.RowKit

theorem take_snoc {xs : List Int} {k : Nat} {x : Int} (h : k < xs.length) (hx : x = xs.getD k 0) : xs.take (k + 1) = xs.take k ++ [x] := by
  rw [List.take_add_one, hx]; simp [List.getD, List.getElem?_eq_getElem h]

theorem same_take (xs ys : List Int) (h : xs.length = ys.length) (k : Nat) (hk : k < xs.length) (ht : xs.take k = ys.take k) (he : xs.getD k 0 = ys.getD k 0) : xs.take (k + 1) = ys.take (k + 1) := by
  have hk' : k < ys.length := h ▸ hk
  rw [List.take_add_one, List.take_add_one, ht]
  simp only [List.getD, List.getElem?_eq_getElem hk, List.getElem?_eq_getElem hk', Option.getD_some] at he
  rw [List.getElem?_eq_getElem hk, List.getElem?_eq_getElem hk', he]

set_option maxHeartbeats 400000 in
theorem same_any (u v : Value) (xs ys : List Int) (w : World) (hu : NumsAt .u8 w u xs) (hv : NumsAt .u8 w v ys) :
    Calls Tryd.prog 19 #[u, v] w fun e w' => e = .returned (.bool (xs == ys)) ∧ ∃ n, w' = w.drewN n := by
  obtain ⟨a, ca, rfl, hl, ba, oa, hca⟩ := hu.form
  obtain ⟨b, cb, rfl, hm, bb, ob, hcb⟩ := hv.form
  by_cases hne : xs.length = ys.length
  case neg =>
    have e1 : ((xs.length : Int) != ys.length) = true := by rw [bne_iff_ne]; omega
    have e2 : (xs == ys) = false := by simp; rintro rfl; exact hne rfl
    have E2 := Lib.hid e2
    clear hu hv e2
    go_enter Tryd.func19, Tryd.ntmps19
    go_wp2
    go_ret
    exact ⟨ret_bool E2.out.symm, 0, rfl⟩
  case pos =>
    have e1 : ((xs.length : Int) != ys.length) = false := by simp; omega
    have HN := Lib.hid hne
    have hle : xs.length ≤ ys.length := by omega
    clear hu hv hne
    go_enter Tryd.func19, Tryd.ntmps19
    go_wp2
    go_loopw [5] (fun i wr => ∃ k : Nat, k ≤ xs.length ∧ i = .int .i64 k ∧ Hid (xs.take k = ys.take k) ∧ ∃ n, wr = w.drewN n) (fun i _ => xs.length - (intOf i).toNat)
    case atStart => exact ⟨0, Nat.zero_le _, rfl, rfl, 0, rfl⟩
    case round =>
      obtain ⟨k, hk, rfl, ht, n, rfl⟩ := hrel
      by_cases hlt : k < xs.length
      · obtain ⟨rfl, h1⟩ := hca.out k hlt
        obtain ⟨rfl, h2⟩ := hcb.out k (by omega)
        obtain ⟨x, hx⟩ := name_it (xs.getD k 0)
        obtain ⟨y, hy⟩ := name_it (ys.getD k 0)
        rw [← hx.out] at h1
        rw [← hy.out] at h2
        have hlt2 : k < ys.length := by omega
        by_cases hxy : x = y
        · subst hxy
          have e2 : (x != x) = false := by simp
          go_wp2
          go_quiet (fail)
          go_wp2
          go_roundw
          case rel => exact ⟨k + 1, by omega, by go_num, same_take xs ys HN.out k hlt ht.out (by rw [← hx.out, ← hy.out]), _, rfl⟩
          case measure => simp [intOf]; omega
        · have e2 : (x != y) = true := by simpa using hxy
          have e3 : (xs == ys) = false := by simp; rintro rfl; exact hxy (by rw [hx.out, hy.out])
          have E3 := Lib.hid e3
          clear e3
          go_wp2
          go_quiet (fail)
          go_wp2
          go_ret
          exact ⟨ret_bool E3.out.symm, n + nq, by simp only [World.drewN_drewN]⟩
      · have e3 : (xs == ys) = true := by
          have := ht.out
          rw [List.take_of_length_le (by omega), List.take_of_length_le (by have := HN.out; omega)] at this
          simpa using this
        have E3 := Lib.hid e3
        clear e3
        go_wp2
        go_ret
        exact ⟨ret_bool E3.out.symm, _, rfl⟩

theorem same_is (u v : Value) (xs ys : List Int) (r : Bool) (w : World) (hu : NumsAt .u8 w u xs) (hv : NumsAt .u8 w v ys) (hr : (xs == ys) = r) :
    Calls Tryd.prog 19 #[u, v] w fun e w' => e = .returned (.bool r) ∧ Below w.heap.size w w' := by
  refine (same_any u v xs ys w hu hv).mono ?_
  rintro e w' ⟨rfl, n, rfl⟩
  exact ⟨by rw [hr], below_drewN (Below.refl _ _) n⟩

theorem low_arith (x n : Int) (hn : 0 < n) (hn2 : n < 9223372036854775807) : wrap64 ((IntKind.u64.wrap x).tmod n) = x % 18446744073709551616 % n := by
  have e : IntKind.u64.wrap x = x % 18446744073709551616 := by simp [IntKind.wrap, IntKind.signed, IntKind.bits]
  rw [e, Int.tmod_eq_emod_of_nonneg (by omega)]
  have h1 := Int.emod_nonneg (x % 18446744073709551616) (show n ≠ 0 by omega)
  have h2 := Int.emod_lt_of_pos (x % 18446744073709551616) hn
  exact IntWalk.wrap64_in _ ⟨by omega, by omega⟩
def lowF (x n : Int) : Int := (x % 18446744073709551616) % n
theorem lowF_bd (x n : Int) (hn : 0 < n) : 0 ≤ lowF x n ∧ lowF x n < n := ⟨Int.emod_nonneg _ (by omega), Int.emod_lt_of_pos _ hn⟩
theorem low_name (x n : Int) (hn : 0 < n) : ∃ r, Hid (lowF x n = r) ∧ 0 ≤ r ∧ r < n := ⟨_, rfl, lowF_bd x n hn⟩
theorem low_r (x n r : Int) (w : World) (hr : Hid (lowF x n = r)) (hn : 0 < n) (hn2 : n < 9223372036854775807) :
    Calls Tryd.prog 15 #[.int .i64 x, .int .i64 n] w fun e w' => e = .returned (.int .i64 r) ∧ w = w' := by
  have H := Lib.hid (low_arith x n hn hn2)
  go_enter Tryd.func15, Tryd.ntmps15
  go_wp2
  go_ret
  exact ⟨ret_int (H.out.trans hr.out), rfl⟩


theorem info5 : (Tryd.prog.info? 5).map (fun i => (i.zero, i.size, i.bytes)) = some (some (.int .u8 0), 1, 1) := by kernel_rfl
theorem copied_any (u : Value) (xs : List Int) (w : World) (hu : NumsAt .u8 w u xs) (hl : xs.length ≤ 1000000) :
    Calls Tryd.prog 16 #[u] w fun e w' => ∃ v, e = .returned v ∧ OwnNums .u8 5 w' w.heap.size v xs ∧ Below w.heap.size w w' := by
  obtain ⟨i0, hi, hz0, hz1, hz2⟩ := info_parts info5
  go_enter Tryd.func16, Tryd.ntmps16
  go_wp2_with (at_builtin; refine wpList_append_nums rfl _ _ 22 rfl .u8 w.heap.size 5 i0 1 Tryd.underlying22 hi hz0 hz1 hz2 _ _ [] xs rfl (OwnNums.nil _ _ _ _) rfl hu (by simp; omega) (by simp; omega) (by omega) ?_; intro v3 w3 hown3 hgr3)
  go_ret
  exact ⟨_, rfl, hown3, below_grown_none hgr3⟩

end Go.Proofs.YtikmfaeiecpncaaDoor
