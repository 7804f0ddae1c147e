/- Contracts of the small functions of the ladder chapter. -/
import Derived.Test.YtneclkneglgfdaaProg
import Derived.Test.YtneclkneglgfdaaGen
import Derived.Maps.OwnSet
namespace Go.Proofs.Ytneclkneglgfdaa
open Go.RowKit Go.Maps

theorem low_arith (x n : Int) (hn : 0 < n) (hn2 : n < 9223372036854775807) : wrap64 ((IntKind.u64.wrap x).tmod n) = x % 18446744073709551616 % n := by
  have e : IntKind.u64.wrap x = x % 18446744073709551616 := by simp [IntKind.wrap, IntKind.signed, IntKind.bits]
  rw [e, Int.tmod_eq_emod_of_nonneg (by omega)]
  have h1 := Int.emod_nonneg (x % 18446744073709551616) (show n ≠ 0 by omega)
  have h2 := Int.emod_lt_of_pos (x % 18446744073709551616) hn
  exact IntWalk.wrap64_in _ ⟨by omega, by omega⟩

theorem low_any (x n : Int) (w : World) (hn : 0 < n) (hn2 : n < 9223372036854775807) :
    Calls Try.prog 18 #[.int .i64 x, .int .i64 n] w fun e w' => e = .returned (.int .i64 ((x % 18446744073709551616) % n)) ∧ w = w' := by
  have H := Lib.hid (low_arith x n hn hn2)
  go_enter Try.func18, Try.ntmps18
  go_wp2
  go_ret
  exact ⟨ret_int H.out, rfl⟩

/-- What Low is. -/
def lowF (x n : Int) : Int := (x % 18446744073709551616) % n
theorem lowF_bd (x n : Int) (hn : 0 < n) : 0 ≤ lowF x n ∧ lowF x n < n := ⟨Int.emod_nonneg _ (by omega), Int.emod_lt_of_pos _ hn⟩
/-- Low, its value a number r that is known by its bounds alone. -/
theorem low_r (x n r : Int) (w : World) (hr : Hid (lowF x n = r)) (hn : 0 < n) (hn2 : n < 9223372036854775807) :
    Calls Try.prog 18 #[.int .i64 x, .int .i64 n] w fun e w' => e = .returned (.int .i64 r) ∧ w = w' := by
  rw [← hr.out]; exact low_any x n w hn hn2
theorem low_name (x n : Int) (hn : 0 < n) : ∃ r, Hid (lowF x n = r) ∧ 0 ≤ r ∧ r < n := ⟨_, rfl, lowF_bd x n hn⟩

theorem new_any (host : Int) (w : World) :
    Calls Try.prog 9 #[.int .i64 host] w fun e w' => e = .returned (.pointer (some ⟨w.heap.size + 1, 0, none⟩)) ∧ w' = (w.alloc (.map #[] 0)).alloc (.cells #[.int .i64 host, .map (some w.heap.size)] 40) := by
  have hmm := @run_makeMap Try.prog
  go_enter Try.func9, Try.ntmps9
  go_wp2
  go_ret
  exact ⟨rfl, rfl⟩

theorem take_snoc {xs : List Int} {k : Nat} {x : Int} (h : k < xs.length) (hx : x = xs.getD k 0) : xs.take (k + 1) = xs.take k ++ [x] := by
  rw [List.take_add_one, hx]; simp [List.getD, List.getElem?_eq_getElem h]

theorem same_take (xs ys : List Int) (h : xs.length = ys.length) (k : Nat) (hk : k < xs.length) (ht : xs.take k = ys.take k) (he : xs.getD k 0 = ys.getD k 0) : xs.take (k + 1) = ys.take (k + 1) := by
  have hk' : k < ys.length := h ▸ hk
  rw [List.take_add_one, List.take_add_one, ht]
  simp only [List.getD, List.getElem?_eq_getElem hk, List.getElem?_eq_getElem hk', Option.getD_some] at he
  rw [List.getElem?_eq_getElem hk, List.getElem?_eq_getElem hk', he]

set_option maxHeartbeats 400000 in
theorem same_any (u v : Value) (xs ys : List Int) (w : World) (hu : NumsAt .i64 w u xs) (hv : NumsAt .i64 w v ys) :
    Calls Try.prog 12 #[u, v] w fun e w' => e = .returned (.bool (xs == ys)) ∧ ∃ n, w' = w.drewN n := by
  obtain ⟨a, ca, rfl, hl, ba, oa, hca⟩ := hu.form
  obtain ⟨b, cb, rfl, hm, bb, ob, hcb⟩ := hv.form
  by_cases hne : xs.length = ys.length
  case neg =>
    have e1 : ((xs.length : Int) != ys.length) = true := by rw [bne_iff_ne]; omega
    have e2 : (xs == ys) = false := by simp; rintro rfl; exact hne rfl
    have E2 := Lib.hid e2
    clear hu hv e2
    go_enter Try.func12, Try.ntmps12
    go_wp2
    go_ret
    exact ⟨ret_bool E2.out.symm, 0, rfl⟩
  case pos =>
    have e1 : ((xs.length : Int) != ys.length) = false := by simp; omega
    have HN := Lib.hid hne
    have hle : xs.length ≤ ys.length := by omega
    clear hu hv hne
    go_enter Try.func12, Try.ntmps12
    go_wp2
    go_loopw [5] (fun i wr => ∃ k : Nat, k ≤ xs.length ∧ i = .int .i64 k ∧ Hid (xs.take k = ys.take k) ∧ ∃ n, wr = w.drewN n) (fun i _ => xs.length - (intOf i).toNat)
    case atStart => exact ⟨0, Nat.zero_le _, rfl, rfl, 0, rfl⟩
    case round =>
      obtain ⟨k, hk, rfl, ht, n, rfl⟩ := hrel
      by_cases hlt : k < xs.length
      · obtain ⟨rfl, h1⟩ := hca.out k hlt
        obtain ⟨rfl, h2⟩ := hcb.out k (by omega)
        obtain ⟨x, hx⟩ := name_it (xs.getD k 0)
        obtain ⟨y, hy⟩ := name_it (ys.getD k 0)
        rw [← hx.out] at h1
        rw [← hy.out] at h2
        have hlt2 : k < ys.length := by omega
        by_cases hxy : x = y
        · subst hxy
          have e2 : (x != x) = false := by simp
          go_wp2
          go_quiet (fail)
          go_wp2
          go_roundw
          case rel => exact ⟨k + 1, by omega, by go_num, same_take xs ys HN.out k hlt ht.out (by rw [← hx.out, ← hy.out]), _, rfl⟩
          case measure => simp [intOf]; omega
        · have e2 : (x != y) = true := by simpa using hxy
          have e3 : (xs == ys) = false := by simp; rintro rfl; exact hxy (by rw [hx.out, hy.out])
          have E3 := Lib.hid e3
          clear e3
          go_wp2
          go_quiet (fail)
          go_wp2
          go_ret
          exact ⟨ret_bool E3.out.symm, n + nq, by simp only [World.drewN_drewN]⟩
      · have e3 : (xs == ys) = true := by
          have := ht.out
          rw [List.take_of_length_le (by omega), List.take_of_length_le (by have := HN.out; omega)] at this
          simpa using this
        have E3 := Lib.hid e3
        clear e3
        go_wp2
        go_ret
        exact ⟨ret_bool E3.out.symm, _, rfl⟩

theorem same_is (u v : Value) (xs ys : List Int) (r : Bool) (w : World) (hu : NumsAt .i64 w u xs) (hv : NumsAt .i64 w v ys) (hr : (xs == ys) = r) :
    Calls Try.prog 12 #[u, v] w fun e w' => e = .returned (.bool r) ∧ Below w.heap.size w w' := by
  refine (same_any u v xs ys w hu hv).mono ?_
  rintro e w' ⟨rfl, n, rfl⟩
  exact ⟨by rw [hr], below_drewN (Below.refl _ _) n⟩

end Go.Proofs.Ytneclkneglgfdaa
