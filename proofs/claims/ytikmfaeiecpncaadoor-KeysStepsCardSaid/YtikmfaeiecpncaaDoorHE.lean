/- Bytes compared, wherever they differ. What every program answers that is one (chapter 3). -/
import Derived.Test.YtikmfaeiecpncaaDoorHD
namespace Go.Proofs.YtikmfaeiecpncaaDoor
open Go.RowKit

theorem or8_bd (a b : Int) : 0 ≤ bits .or .u8 a b ∧ bits .or .u8 a b ≤ 255 := by
  show 0 ≤ IntKind.u8.wrap _ ∧ IntKind.u8.wrap _ ≤ 255
  rw [IntKind.wrap_u8']; omega
def accE (xs ys : List Int) : Nat → Int
  | 0 => 0
  | k + 1 => bits .or .u8 (accE xs ys k) (bits .xor .u8 (xs.getD k 0) (ys.getD k 0))
theorem accE_bd (xs ys : List Int) (k : Nat) : 0 ≤ accE xs ys k ∧ accE xs ys k ≤ 255 := by
  cases k with
  | zero => exact ⟨Int.le_refl _, show (0 : Int) ≤ 255 by decide⟩
  | succ k => exact or8_bd _ _
theorem nat_or_zero (a b : Nat) : a ||| b = 0 ↔ a = 0 ∧ b = 0 := by
  constructor
  · intro h
    constructor
    · apply Nat.eq_of_testBit_eq; intro i
      have := congrArg (fun n => n.testBit i) h
      simp [Nat.testBit_or] at this
      simp [this.1]
    · apply Nat.eq_of_testBit_eq; intro i
      have := congrArg (fun n => n.testBit i) h
      simp [Nat.testBit_or] at this
      simp [this.2]
  · rintro ⟨rfl, rfl⟩; rfl
theorem nat_xor_zero (a b : Nat) : a ^^^ b = 0 ↔ a = b := by
  constructor
  · intro h
    apply Nat.eq_of_testBit_eq; intro i
    have := congrArg (fun n => n.testBit i) h
    simpa [Nat.testBit_xor] using this
  · rintro rfl; exact Nat.xor_self _
theorem accE_step (a x y : Int) (ha : 0 ≤ a ∧ a ≤ 255) (hx : 0 ≤ x ∧ x ≤ 255) (hy : 0 ≤ y ∧ y ≤ 255) : bits .or .u8 a (bits .xor .u8 x y) = 0 ↔ a = 0 ∧ x = y := by
  have hb := xor8_bd y x
  unfold xor8 at hb
  rw [u8_or a _ ha.1 (by omega) hb.1 (by omega), u8_xor x y hx.1 (by omega) hy.1 (by omega)]
  obtain ⟨n, rfl⟩ := Int.eq_ofNat_of_zero_le ha.1
  obtain ⟨p, rfl⟩ := Int.eq_ofNat_of_zero_le hx.1
  obtain ⟨q, rfl⟩ := Int.eq_ofNat_of_zero_le hy.1
  simp only [Int.toNat_natCast]
  constructor
  · intro h
    have h : n ||| (p ^^^ q) = 0 := by exact_mod_cast h
    obtain ⟨h1, h2⟩ := (nat_or_zero _ _).1 h
    exact ⟨by omega, by rw [(nat_xor_zero _ _).1 h2]⟩
  · rintro ⟨h1, h2⟩
    obtain rfl : n = 0 := by omega
    obtain rfl : p = q := by omega
    simp
theorem accE_zero {xs ys : List Int} (hx : Byt xs) (hy : Byt ys) (hl : xs.length = ys.length) : ∀ k, k ≤ xs.length → (accE xs ys k = 0 ↔ xs.take k = ys.take k) := by
  intro k
  induction k with
  | zero => intro _; simp [accE]
  | succ k ih =>
    intro hk
    rw [accE, accE_step _ _ _ (accE_bd _ _ _) (hx k) (hy k), ih (by omega)]
    have hk1 : k < xs.length := by omega
    have hk2 : k < ys.length := by omega
    have e1 : xs.take (k + 1) = xs.take k ++ [xs.getD k 0] := take_snoc hk1 rfl
    have e2 : ys.take (k + 1) = ys.take k ++ [ys.getD k 0] := take_snoc hk2 rfl
    rw [e1, e2]
    constructor
    · rintro ⟨h1, h2⟩; rw [h1, h2]
    · intro h
      have h1 := List.append_inj h (by simp; omega)
      exact ⟨h1.1, by simpa using h1.2⟩
set_option maxHeartbeats 800000 in
theorem equal_any (u v : Value) (xs ys : List Int) (w : World) (hu : NumsAt .u8 w u xs) (hv : NumsAt .u8 w v ys) (hx : Byt xs) (hy : Byt ys) :
    Calls Tryd.prog 35 #[u, v] w fun e w' => e = .returned (.bool (xs == ys)) ∧ Below w.heap.size w w' := by
  obtain ⟨a, ca, rfl, hl, ba, oa, hca⟩ := hu.form
  obtain ⟨b, cb, rfl, hm, bb, ob, hcb⟩ := hv.form
  by_cases hne : xs.length = ys.length
  case neg =>
    have e1 : ((xs.length : Int) != ys.length) = true := by rw [bne_iff_ne]; omega
    have e2 : (xs == ys) = false := by simp; rintro rfl; exact hne rfl
    have E2 := Lib.hid e2
    clear hu hv e2
    go_enter Tryd.func35, Tryd.ntmps35
    go_wp2
    go_ret
    exact ⟨ret_bool E2.out.symm, Below.refl _ _⟩
  case pos =>
    have e1 : ((xs.length : Int) != ys.length) = false := by simp; omega
    have HN := Lib.hid hne
    have hx := Lib.hid hx
    have hy := Lib.hid hy
    clear hu hv hne
    go_enter Tryd.func35, Tryd.ntmps35
    go_wp2
    go_loopw [14, 5] (fun i c wr => ∃ k : Nat, k ≤ xs.length ∧ i = .int .i64 k ∧ c = .int .u8 (accE xs ys k) ∧ ∃ n, wr = w.drewN n) (fun i _ _ => xs.length - (intOf i).toNat)
    case atStart => exact ⟨0, Nat.zero_le _, rfl, rfl, 0, rfl⟩
    case round =>
      obtain ⟨k, hk, rfl, rfl, n, rfl⟩ := hrel
      obtain ⟨c, hc⟩ := name_it (accE xs ys k)
      rw [← hc.out]
      by_cases hlt : k < xs.length
      · obtain ⟨rfl, h1⟩ := hca.out k hlt
        obtain ⟨rfl, h2⟩ := hcb.out k (by rw [← HN.out]; exact hlt)
        obtain ⟨x, hx'⟩ := name_it (xs.getD k 0)
        obtain ⟨y, hy'⟩ := name_it (ys.getD k 0)
        rw [← hx'.out] at h1
        rw [← hy'.out] at h2
        have hltI : (k : Int) < xs.length := by omega
        have hlt2 : (k : Int) < ys.length := by have := HN.out; omega
        have hlt3 : k < ys.length := by omega
        obtain ⟨z, hz⟩ := name_it (bits .or .u8 c (bits .xor .u8 x y))
        have ez : bits .or .u8 c (bits .xor .u8 x y) = z := hz.out.symm
        go_wp2
        go_quiet (fail)
        go_wp2
        go_roundw
        case rel => exact ⟨k + 1, by omega, by go_num, by rw [accE, ← hc.out, ← hx'.out, ← hy'.out, hz.out], n + nq, rfl⟩
        case measure => simp [intOf]; omega
      · obtain rfl : k = xs.length := by omega
        have hz := accE_zero hx.out hy.out HN.out xs.length (Nat.le_refl _)
        rw [List.take_length, HN.out, List.take_length, ← HN.out, ← hc.out] at hz
        have he : (c == 0) = (xs == ys) := by rw [Bool.eq_iff_iff]; simpa using hz
        obtain ⟨bo, hbo⟩ := name_it (xs == ys)
        rw [← hbo.out] at he
        clear hz
        go_wp2
        go_ret
        exact ⟨ret_bool hbo.out, below_drewN (Below.refl _ _) n⟩
end Go.Proofs.YtikmfaeiecpncaaDoor
