/- The walk of the law LadderBusy. -/
import Derived.Test.YtneclkneglgfdaaE3
namespace Go.Proofs.Ytneclkneglgfdaa
open Go.RowKit Go.Maps

/-- The asks: so many, so far apart. -/
def asksTo (f p : Int) (k : Nat) : List Int := (List.range k).map (fun (i : Nat) => f + (i : Int) * p)
theorem asksTo_succ (f p : Int) (k : Nat) : asksTo f p (k + 1) = asksTo f p k ++ [f + (k : Int) * p] := by
  simp [asksTo, List.range_succ]
theorem mul_bd (k : Nat) (p : Int) (a : Nat) (hk : k ≤ a) (hp : 0 ≤ p) (hp2 : p ≤ 40) : 0 ≤ (k : Int) * p ∧ (k : Int) * p ≤ a * 40 := by
  refine ⟨Int.mul_nonneg (by omega) hp, ?_⟩
  exact Int.mul_le_mul (by omega) hp2 hp (by omega)
theorem mem_asks {f p : Int} {n : Nat} {x : Int} : x ∈ asksTo f p n ↔ ∃ i : Nat, i < n ∧ f + (i : Int) * p = x := by
  simp [asksTo]

theorem busy_asks (f p : Int) (n : Nat) (d : Nat) (hf : 0 ≤ f) (hp : 1 ≤ p) (hd : (d : Int) ≤ (n : Int) * p + 23) :
    busyB (asksTo f p (n + 1)) (f + d) = (decide ((d : Int) % p < 24) || decide ((n : Int) * p ≤ d)) := by
  rw [Bool.eq_iff_iff]
  simp only [Bool.or_eq_true, decide_eq_true_eq]
  constructor
  · intro h
    by_cases hl : (n : Int) * p ≤ d
    · exact .inr hl
    · refine .inl ?_
      unfold busyB at h
      obtain ⟨x, hx, hb⟩ := List.any_eq_true.1 h
      obtain ⟨i, hi, rfl⟩ := mem_asks.1 hx
      simp only [Bool.and_eq_true, decide_eq_true_eq] at hb
      have h1 : (i : Int) * p ≤ d := by omega
      have h2 : (d : Int) - (i : Int) * p < 24 := by omega
      have h3 : (i : Int) ≤ (d : Int) / p := (Int.le_ediv_iff_mul_le (by omega)).2 h1
      have h4 : (i : Int) * p ≤ ((d : Int) / p) * p := Int.mul_le_mul_of_nonneg_right h3 (by omega)
      have h5 := Int.emod_add_mul_ediv (d : Int) p
      have h6 : ((d : Int) / p) * p = p * ((d : Int) / p) := Int.mul_comm _ _
      omega
  · intro h
    by_cases hl : (n : Int) * p ≤ d
    · have h0 : 0 ≤ (n : Int) * p := Int.mul_nonneg (by omega) (by omega)
      exact busyB_true (x := f + (n : Int) * p) (mem_asks.2 ⟨n, by omega, rfl⟩) (by omega) (by omega) (by omega)
    · have hm : (d : Int) % p < 24 := h.resolve_right hl
      have h5 := Int.emod_add_mul_ediv (d : Int) p
      have h6 : ((d : Int) / p) * p = p * ((d : Int) / p) := Int.mul_comm _ _
      have h7 : 0 ≤ (d : Int) / p := Int.ediv_nonneg (by omega) (by omega)
      have h8 := Int.emod_nonneg (d : Int) (show p ≠ 0 by omega)
      have h9 : (d : Int) / p < n := by
        rcases Int.lt_or_le ((d : Int) / p) n with h | h
        · exact h
        · have := Int.mul_le_mul_of_nonneg_right h (show 0 ≤ p by omega)
          omega
      obtain ⟨i, hi⟩ : ∃ i : Nat, (d : Int) / p = i := ⟨((d : Int) / p).toNat, by omega⟩
      rw [hi] at h5 h6 h7 h9
      have h10 : 0 ≤ (i : Int) * p := Int.mul_nonneg (by omega) (by omega)
      exact busyB_true (x := f + (i : Int) * p) (mem_asks.2 ⟨i, by omega, rfl⟩) (by omega) (by omega) (by omega)

theorem slot_asks (h f p : Int) (n : Nat) (d : Nat) (hf : 0 ≤ f) (hp : 1 ≤ p) (hd : (d : Int) ≤ (n : Int) * p + 23) :
    slotB h (asksTo f p (n + 1)) (f + d) = (decide ((d : Int) % p < 24) || (decide ((n : Int) * p ≤ d) || decide ((f + d + 2 * h) % 4 = 0))) := by
  rw [slotB, busy_asks f p n d hf hp hd]
  have : 0 ≤ f + (d : Int) := by omega
  simp [this, Bool.or_assoc]

theorem all_slots (h f p : Int) (n : Nat) (hf : 0 ≤ f) (hp : 1 ≤ p) (hp2 : p ≤ 24) : ∀ d : Nat, (d : Int) ≤ (n : Int) * p + 24 → (slotsTo h (asksTo f p (n + 1)) f d).length = d
  | 0, _ => rfl
  | d + 1, hd => by
    have ih := all_slots h f p n hf hp hp2 d (by omega)
    have hs : slotB h (asksTo f p (n + 1)) (f + d) = true := by
      rw [slot_asks h f p n d hf hp (by omega)]
      have := Int.emod_lt_of_pos (d : Int) (show 0 < p by omega)
      simp; omega
    rw [slotsTo_hit hs, List.length_append, ih]; rfl

theorem asks_in {f p : Int} {n : Nat} (hf : 0 ≤ f) (hf2 : f ≤ 1000) (hp : 0 ≤ p) (hp2 : p ≤ 40) (hn : n ≤ 8) : ∀ x ∈ asksTo f p n, -9223372036854775808 ≤ x ∧ x ≤ 9223372036854775807 := by
  intro x hx
  obtain ⟨i, hi, rfl⟩ := mem_asks.1 hx
  have := mul_bd i p 8 (by omega) hp hp2
  omega

set_option maxHeartbeats 4000000 in
theorem busylaw_any (host from' apart many : Int) (w : World) :
    Calls Try.prog 7 #[.int .i64 host, .int .i64 from', .int .i64 apart, .int .i64 many] w fun e w' => e = .returned (.bool true) ∧ Below w.heap.size w w' := by
  obtain ⟨h, hh, hh1, hh2⟩ := low_name host 9 (by omega)
  obtain ⟨f, hf, hf1, hf2⟩ := low_name from' 1000 (by omega)
  obtain ⟨p, hp, hp1, hp2⟩ := low_name apart 40 (by omega)
  obtain ⟨n', hn', hn1, hn2⟩ := low_name many 8 (by omega)
  obtain ⟨n, rfl⟩ : ∃ n : Nat, n' = n := ⟨n'.toNat, by omega⟩
  obtain ⟨i0, hi, hz0, hz1, hz2⟩ := info_parts Try.info3
  go_enter Try.func7, Try.ntmps7
  go_wp2_with fail
  refine (low_r _ _ h _ hh (by omega) (by omega)).mono ?_
  rintro e w1 ⟨rfl, rfl⟩
  go_wp2_with fail
  refine (low_r _ _ f _ hf (by omega) (by omega)).mono ?_
  rintro e w1 ⟨rfl, rfl⟩
  go_wp2_with fail
  refine (low_r _ _ p _ hp (by omega) (by omega)).mono ?_
  rintro e w1 ⟨rfl, rfl⟩
  go_wp2_with fail
  refine (low_r _ _ n _ hn' (by omega) (by omega)).mono ?_
  rintro e w1 ⟨rfl, rfl⟩
  go_wp2_with fail
  go_loopw [10, 9] (fun i v wr => ∃ k : Nat, k ≤ n + 1 ∧ i = .int .i64 k ∧ Hid (OwnNums .i64 3 wr w.heap.size v (asksTo f (1 + p) k)) ∧ Below w.heap.size w wr) (fun i _ _ => n + 1 - (intOf i).toNat)
  case atStart => exact ⟨0, Nat.zero_le _, rfl, OwnNums.nil _ _ _ _, Below.refl _ _⟩
  case round =>
    obtain ⟨k, hk, rfl, hown, hbel⟩ := hrel
    have hs := hbel.size
    by_cases hlt : k < n + 1
    · obtain ⟨hm1, hm2⟩ := mul_bd k (1 + p) 8 (by omega) (by omega) (by omega)
      have hal : (asksTo f (1 + p) k).length = k := by simp [asksTo]
      go_wp2_with (at_builtin; refine wpList_append_nums rfl _ _ 22 rfl .i64 w.heap.size 3 i0 8 Try.underlying22 hi hz0 hz1 hz2 _ _ _ [f + (k : Int) * (1 + p)] rfl (hown.out.alloc _) rfl (nums_made .i64 3 _ [f + (k : Int) * (1 + p)] (by simp)) (by simp [hal]; omega) (by simp [hal]; omega) (by simp; omega) ?_; intro v3 w3 hown3 hgr3)
      have hs3 := hgr3.size
      simp at hs3
      go_roundw
      case rel =>
        refine ⟨k + 1, by omega, by go_num, ?_, (hbel.alloc (by omega) _).grown hgr3 (by simp; omega) (fun j hj => hown.out.lt j hj)⟩
        show OwnNums _ _ _ _ _ _
        rw [asksTo_succ]
        exact hown3
      case measure => simp [intOf]; omega
    · obtain rfl : k = n + 1 := by omega
      obtain ⟨hm1, hm2⟩ := mul_bd n (1 + p) 8 (by omega) (by omega) (by omega)
      have e0 : 1 + (n : Int) - 1 = n := by omega
      obtain ⟨A, hA⟩ := name_it (asksTo f (1 + p) (n + 1))
      have hal : A.length = n + 1 := by rw [hA.out]; simp [asksTo]
      have hal := Lib.hid hal
      obtain ⟨M, hM⟩ : ∃ M : Nat, (n : Int) * (1 + p) = M := ⟨((n : Int) * (1 + p)).toNat, by omega⟩
      rw [hM] at hm1 hm2
      rw [← hA.out] at hown
      have HS : Hid (∀ d : Nat, d < M + 24 → slotB h A (f + d) = (decide ((d : Int) % (1 + p) < 24) || (decide ((M : Int) ≤ d) || decide ((f + d + 2 * h) % 4 = 0)))) := by
        intro d hd
        rw [hA.out, ← hM]
        exact slot_asks h f (1 + p) n d (by omega) (by omega) (by omega)
      have HA : Hid (p < 24 → (slotsTo h A f (M + 24)).length = M + 24) := by
        intro hp24
        rw [hA.out]
        exact all_slots h f (1 + p) n (by omega) (by omega) (by omega) (M + 24) (by omega)
      have hin : Hid (∀ q ∈ A, -9223372036854775808 ≤ q ∧ q ≤ 9223372036854775807) := by
        show ∀ q ∈ A, _
        rw [hA.out]
        exact fun q hq => asks_in (by omega) (by omega) (by omega) (by omega) (by omega) q hq
      have hMl : M ≤ 320 := by omega
      clear hA
      go_wp2_with fail
      refine (slots_any h f _ _ A _ hown.out.nums (by rw [hal.out]; omega) hin (by omega) (by omega) (by omega) (by omega)).mono ?_
      rintro e w1 ⟨v1, rfl, o1, b1⟩
      have s1 := b1.size
      have hbel1 := hbel.trans (b1.mono (by omega))
      have HL : slotsL h A f (f + (M : Int) + 24 - 1) = slotsTo h A f (M + 24) := by
        rw [show f + (M : Int) + 24 - 1 = f + ((M + 23 : Nat) : Int) by omega]
        exact slotsL_to (by omega)
      rw [HL] at o1
      obtain ⟨av, cv, hv1, _⟩ := o1.nums.form
      subst hv1
      clear hown hbel b1 HL hin o1
      go_wp2_with fail
      go_loopw [14, 13] (fun i c wr => ∃ k : Nat, k ≤ M + 24 ∧ i = .int .i64 (f + k) ∧ c = .int .i64 ((slotsTo h A f k).length : Nat) ∧ wr = w1) (fun i _ _ => M + 24 - (intOf i - f).toNat)
      case atStart => exact ⟨0, by omega, by simp, by simp [slotsTo], rfl⟩
      case round =>
        obtain ⟨k, hk, rfl, rfl, rfl⟩ := hrel
        have e1 : f + (k : Int) - f = k := by omega
        have hsl := slotsTo_le h A f k
        by_cases hkl : k < M + 24
        · by_cases c1 : (k : Int) % (1 + p) < 24
          · have HN : Hid ((slotsTo h A f (k + 1)).length = (slotsTo h A f k).length + 1) := by
              have : slotB h A (f + k) = true := by rw [HS.out k (by omega)]; simp; omega
              rw [Hid, slotsTo_hit this]; simp
            go_wp2
            go_roundw
            case rel => exact ⟨k + 1, by omega, by go_num, by rw [HN.out]; go_num, trivial⟩
            case measure => simp [intOf]; omega
          · by_cases c2 : (M : Int) ≤ k
            · have HN : Hid ((slotsTo h A f (k + 1)).length = (slotsTo h A f k).length + 1) := by
                have : slotB h A (f + k) = true := by rw [HS.out k (by omega)]; simp; omega
                rw [Hid, slotsTo_hit this]; simp
              go_wp2
              go_roundw
              case rel => exact ⟨k + 1, by omega, by go_num, by rw [HN.out]; go_num, trivial⟩
              case measure => simp [intOf]; omega
            · by_cases c3 : (f + (k : Int) + 2 * h) % 4 = 0
              · have HN : Hid ((slotsTo h A f (k + 1)).length = (slotsTo h A f k).length + 1) := by
                  have : slotB h A (f + k) = true := by rw [HS.out k (by omega)]; simp; omega
                  rw [Hid, slotsTo_hit this]; simp
                go_wp2
                go_roundw
                case rel => exact ⟨k + 1, by omega, by go_num, by rw [HN.out]; go_num, trivial⟩
                case measure => simp [intOf]; omega
              · have HN : Hid ((slotsTo h A f (k + 1)).length = (slotsTo h A f k).length + 0) := by
                  have : slotB h A (f + k) = false := by rw [HS.out k (by omega)]; simp; omega
                  rw [Hid, slotsTo_miss this]; simp
                go_wp2
                go_roundw
                case rel => exact ⟨k + 1, by omega, by go_num, by rw [HN.out]; go_num, trivial⟩
                case measure => simp [intOf]; omega
        · obtain rfl : k = M + 24 := by omega
          obtain ⟨c, hc⟩ := name_it (slotsTo h A f (M + 24)).length
          rw [← hc.out] at hsl ⊢
          have hcc : ((c : Int) == c) = true := by simp
          by_cases c1 : p < 24
          · have hcM : c = M + 24 := by rw [hc.out]; exact HA.out c1
            have hcM' : ((c : Int) == f + (M : Int) + 24 - 1 - f + 1) = true := by rw [beq_iff_eq]; omega
            have hcM := Lib.hid hcM
            go_wp2_with fail
            refine (awake_any _).mono ?_
            rintro e w2 ⟨rfl, b2⟩
            have b2' := hbel1.trans (b2.mono (by omega))
            clear hbel1 b2
            go_wp2
            go_ret
            first | exact ⟨rfl, b2'⟩ | exact ⟨ret_bool (by simp; omega), b2'⟩
          · go_wp2_with fail
            refine (awake_any _).mono ?_
            rintro e w2 ⟨rfl, b2⟩
            have b2' := hbel1.trans (b2.mono (by omega))
            clear hbel1 b2
            go_wp2
            go_ret
            first | exact ⟨rfl, b2'⟩ | exact ⟨ret_bool (by simp; omega), b2'⟩

end Go.Proofs.Ytneclkneglgfdaa
