/- The keys of a secret, and the document's. -/
import Derived.Test.YtikmfaeiecpncaaDoorKO
import Derived.Test.YtikmfaeiecpncaaDoorHR
namespace Go.Proofs.YtikmfaeiecpncaaDoor
open Go.RowKit

/-- A label's expansion to so many bytes. -/
def lab (k : List Int) (s : ByteArray) (c : List Int) (n : Nat) : List Int := labelI k (strB s) c (n : Int)
theorem labS_len (k : List Int) (s : ByteArray) (c : List Int) (n : Nat) (h1 : s.size ≤ 249) (h2 : c.length ≤ 255) (h3 : n ≤ 8160) : (lab k s c n).length = n := lab_len _ _ _ _ (by rw [strB_len]; exact h1) h2 h3
theorem byt_labS (k : List Int) (s : ByteArray) (c : List Int) (n : Nat) : Byt (lab k s c n) := byt_lab _ _ _ _
theorem lab_any (u v : Value) (secret ctx : List Int) (s : ByteArray) (m : Nat) (mi : Int) (w : World) (hmi : mi = (m : Int)) (hg : Gl w) (hu : NumsAt .u8 w u secret) (hv : NumsAt .u8 w v ctx) (hb : Byt secret) (hbc : Byt ctx) (hl : secret.length ≤ 10000) (hs249 : s.size ≤ 249) (hc255 : ctx.length ≤ 255) (hm0 : 0 < m) (hm1 : m ≤ 8160) :
    Calls Tryd.prog 29 #[u, .string s, v, .int .i64 mi] w fun e w' => ∃ v', e = .returned v' ∧ NumsAt .u8 w' v' (lab secret s ctx m) ∧ CutAt w' w.heap.size v' (lab secret s ctx m) ∧ Below w.heap.size w w' := by
  subst hmi
  exact labelO_any u v secret ctx s m w hg hu hv hb hbc hl hs249 hc255 hm0 hm1
theorem rlab_any (u v : Value) (secret ctx : List Int) (s : ByteArray) (m : Nat) (mi : Int) (w : World) (hmi : mi = (m : Int)) (hu : NumsAt .u8 w u secret) (hv : NumsAt .u8 w v ctx) (hb : Byt secret) (hbc : Byt ctx) (hl : secret.length ≤ 10000) (hs249 : s.size ≤ 249) :
    Calls Tryd.prog 34 #[u, .string s, v, .int .i64 mi] w fun e w' => ∃ v', e = .returned v' ∧ NumsAt .u8 w' v' (lab secret s ctx m) ∧ Below w.heap.size w w' := by
  subst hmi
  exact rlabel_any u v secret ctx s m w hu hv hb hbc hl (by omega)
theorem of_any (u v : Value) (secret ctx : List Int) (s : ByteArray) (w : World) (hg : Gl w) (hu : NumsAt .u8 w u secret) (hv : NumsAt .u8 w v ctx) (hb : Byt secret) (hbc : Byt ctx) (hl : secret.length ≤ 10000) (hs249 : s.size ≤ 249) (hc255 : ctx.length ≤ 255) :
    Calls Tryd.prog 55 #[u, .string s, v] w fun e w' => ∃ v', e = .returned v' ∧ NumsAt .u8 w' v' (lab secret s ctx 32) ∧ CutAt w' w.heap.size v' (lab secret s ctx 32) ∧ Below w.heap.size w w' := by
  obtain ⟨a0, l0, k0, rfl⟩ := slice_any hu
  obtain ⟨a1, l1, k1, rfl⟩ := slice_any hv
  replace hu := Lib.hid hu
  replace hv := Lib.hid hv
  go_enter Tryd.func55, Tryd.ntmps55
  go_wp2_with fail
  refine (lab_any _ _ secret ctx s 32 _ w rfl hg hu.out hv.out hb hbc hl hs249 hc255 (by omega) (by omega)).mono ?_
  rintro e w1 ⟨v1, rfl, hn1, hc1, hb1⟩
  obtain ⟨a2, l2, k2, rfl⟩ := slice_any hn1
  replace hn1 := Lib.hid hn1
  replace hc1 := Lib.hid hc1
  replace hb1 := Lib.hid hb1
  go_wp2_with fail
  go_ret
  exact ⟨_, rfl, hn1.out, hc1.out, hb1.out⟩

def packetL (k : List Int) : List Int := lab k ⟨#[113, 117, 105, 99, 32, 107, 101, 121]⟩ [] 16 ++ lab k ⟨#[113, 117, 105, 99, 32, 105, 118]⟩ [] 12 ++ lab k ⟨#[113, 117, 105, 99, 32, 104, 112]⟩ [] 16
theorem packetL_len (k : List Int) : (packetL k).length = 44 := by
  rw [packetL, List.length_append, List.length_append, labS_len _ _ _ _ (by decide) (by simp) (by omega), labS_len _ _ _ _ (by decide) (by simp) (by omega), labS_len _ _ _ _ (by decide) (by simp) (by omega)]
set_option maxHeartbeats 1600000 in
set_option maxRecDepth 100000 in
theorem packet_any (u : Value) (key : List Int) (w : World) (hg : Gl w) (hu : NumsAt .u8 w u key) (hb : Byt key) (hl : key.length ≤ 10000) :
    Calls Tryd.prog 43 #[u] w fun e w' => e = .returned (.agg (bys (packetL key))) ∧ Below w.heap.size w w' := by
  obtain ⟨a0, l0, k0, rfl⟩ := slice_any hu
  obtain ⟨L1, hL1⟩ := name_it (lab key ⟨#[113, 117, 105, 99, 32, 107, 101, 121]⟩ [] 16)
  obtain ⟨L2, hL2⟩ := name_it (lab key ⟨#[113, 117, 105, 99, 32, 105, 118]⟩ [] 12)
  obtain ⟨L3, hL3⟩ := name_it (lab key ⟨#[113, 117, 105, 99, 32, 104, 112]⟩ [] 16)
  have z1 : Hid (L1.length = 16) := by show _ = _; rw [hL1.out]; exact labS_len _ _ _ _ (by decide) (by simp) (by omega)
  have z2 : Hid (L2.length = 12) := by show _ = _; rw [hL2.out]; exact labS_len _ _ _ _ (by decide) (by simp) (by omega)
  have z3 : Hid (L3.length = 16) := by show _ = _; rw [hL3.out]; exact labS_len _ _ _ _ (by decide) (by simp) (by omega)
  obtain ⟨r, hr⟩ := name_it (packetL key)
  have hr' : Hid (r = L1 ++ L2 ++ L3) := by show _ = _; rw [hr.out, hL1.out, hL2.out, hL3.out]; rfl
  have hrl : Hid (r.length = 44) := by show _ = _; rw [hr.out]; exact packetL_len _
  have hbt := Lib.hid (built55 L1 L2 L3 z1.out z2.out z3.out)
  rw [← hr'.out] at hbt
  rw [← hr.out]
  have b1 := (Below.refl w.heap.size w).alloc (Nat.le_refl _) (.cells (bys (zb 44)) 55)
  have l1 := Lib.hid (Blk.new w 55 (bys (zb 44)))
  have g1 := Lib.hid (hg.below b1 hg.lt)
  have u1 := Lib.hid (hu.below b1)
  replace b1 := Lib.hid b1
  replace hb := Lib.hid hb
  clear hg hu
  go_enter Tryd.func43, Tryd.ntmps43
  go_wp2_with fail
  change Code.wp _ _ _ _ (w.alloc (.cells (bys (zb 44)) 55))
  generalize w.alloc (.cells (bys (zb 44)) 55) = w1 at b1 l1 g1 u1 ⊢
  refine region_rel_lit (.step (.step (.step (.step (.step (.step (.step (.step (.step (.step (.step (.step (.step (.base _)))))))))))))) (fun i W v => match i with
    | 0 => v = .slice a0 l0 k0
    | 1 => SlAt W v L1
    | 2 => PtrAt W v L1
    | 3 => v = .agg (bys L1)
    | 4 => v = .slice a0 l0 k0
    | 5 => SlAt W v L2
    | 6 => PtrAt W v L2
    | 7 => v = .agg (bys L2)
    | 8 => v = .slice a0 l0 k0
    | 9 => SlAt W v L3
    | 10 => PtrAt W v L3
    | 11 => v = .agg (bys L3)
    | _ => v = .agg (bys r)) mixed (by kernel_rfl) (by kernel_rfl) ?_ ?_ ?_
  · rintro (_ | _ | _ | _ | _ | _ | _ | _ | _ | _ | _ | _ | i) W W' v h hb
    all_goals first | exact h | exact PartsAt.below h hb | exact NumsAt.below h hb | exact sl_below h hb | exact SlAt.below h hb | exact PtrAt.below h hb | exact blk_spec h hb | exact spec_below h hb
  · intro i oi hoi x w9 hb9 hd
    rcases i with _ | _ | _ | _ | _ | _ | _ | _ | _ | _ | _ | _ | _ | i
    · obtain rfl := Option.some.inj hoi
      simp only [fill, Act.put, List.setIfInBounds_toArray, List.set_cons_succ, List.set_cons_zero]
      go_wp2_with fail
      exact ⟨_, rfl, Below.refl _ _, rfl⟩
    · obtain rfl := Option.some.inj hoi
      have h0 : (x 0) = .slice a0 l0 k0 := hd 0 (by kernel_rfl)
      simp only [fill, Act.put, List.setIfInBounds_toArray, List.set_cons_succ, List.set_cons_zero, h0]
      go_wp2_with fail
      refine (lab_any _ _ key [] ⟨#[113, 117, 105, 99, 32, 107, 101, 121]⟩ 16 _ w9 rfl (g1.out.below hb9 g1.out.lt) (u1.out.below hb9) (nums_nil _ _) hb.out byt_nil hl (by decide) (by simp) (by omega) (by omega)).mono ?_
      rintro e w10 ⟨v10, rfl, hn10, _, hb10⟩
      obtain ⟨a9, l9, k9, rfl⟩ := slice_any hn10
      go_wp2_with fail
      exact ⟨_, rfl, hb10, by rw [hL1.out]; exact sl_of hn10 (by rw [labS_len _ _ _ _ (by decide) (by simp) (by omega)]; omega)⟩
    · obtain rfl := Option.some.inj hoi
      have h1 : SlAt w9 (x 1) L1 := hd 1 (by kernel_rfl)
      simp only [fill, Act.put, List.setIfInBounds_toArray, List.set_cons_succ, List.set_cons_zero]
      obtain ⟨p9, ep, hp9⟩ := ptr_of arr52 h1 z1.out
      replace ep := ep w9
      obtain ⟨b8, o8, c8, e8, n8⟩ := h1
      rw [e8] at ep
      simp only [e8]
      go_wp2_with fail
      exact ⟨_, rfl, Below.refl _ _, hp9⟩
    · obtain rfl := Option.some.inj hoi
      have h2 : PtrAt w9 (x 2) L1 := hd 2 (by kernel_rfl)
      simp only [fill, Act.put, List.setIfInBounds_toArray, List.set_cons_succ, List.set_cons_zero]
      have e1 := Lib.hid (ptr_load arr52 sz52 h2 z1.out)
      go_wp2_with (refine wpList_load_is rfl 52 _ rfl rfl e1.out ?_)
      exact ⟨_, rfl, Below.refl _ _, rfl⟩
    · obtain rfl := Option.some.inj hoi
      simp only [fill, Act.put, List.setIfInBounds_toArray, List.set_cons_succ, List.set_cons_zero]
      go_wp2_with fail
      exact ⟨_, rfl, Below.refl _ _, rfl⟩
    · obtain rfl := Option.some.inj hoi
      have h4 : (x 4) = .slice a0 l0 k0 := hd 4 (by kernel_rfl)
      simp only [fill, Act.put, List.setIfInBounds_toArray, List.set_cons_succ, List.set_cons_zero, h4]
      go_wp2_with fail
      refine (lab_any _ _ key [] ⟨#[113, 117, 105, 99, 32, 105, 118]⟩ 12 _ w9 rfl (g1.out.below hb9 g1.out.lt) (u1.out.below hb9) (nums_nil _ _) hb.out byt_nil hl (by decide) (by simp) (by omega) (by omega)).mono ?_
      rintro e w10 ⟨v10, rfl, hn10, _, hb10⟩
      obtain ⟨a9, l9, k9, rfl⟩ := slice_any hn10
      go_wp2_with fail
      exact ⟨_, rfl, hb10, by rw [hL2.out]; exact sl_of hn10 (by rw [labS_len _ _ _ _ (by decide) (by simp) (by omega)]; omega)⟩
    · obtain rfl := Option.some.inj hoi
      have h5 : SlAt w9 (x 5) L2 := hd 5 (by kernel_rfl)
      simp only [fill, Act.put, List.setIfInBounds_toArray, List.set_cons_succ, List.set_cons_zero]
      obtain ⟨p9, ep, hp9⟩ := ptr_of arr53 h5 z2.out
      replace ep := ep w9
      obtain ⟨b8, o8, c8, e8, n8⟩ := h5
      rw [e8] at ep
      simp only [e8]
      go_wp2_with fail
      exact ⟨_, rfl, Below.refl _ _, hp9⟩
    · obtain rfl := Option.some.inj hoi
      have h6 : PtrAt w9 (x 6) L2 := hd 6 (by kernel_rfl)
      simp only [fill, Act.put, List.setIfInBounds_toArray, List.set_cons_succ, List.set_cons_zero]
      have e1 := Lib.hid (ptr_load arr53 sz53 h6 z2.out)
      go_wp2_with (refine wpList_load_is rfl 53 _ rfl rfl e1.out ?_)
      exact ⟨_, rfl, Below.refl _ _, rfl⟩
    · obtain rfl := Option.some.inj hoi
      simp only [fill, Act.put, List.setIfInBounds_toArray, List.set_cons_succ, List.set_cons_zero]
      go_wp2_with fail
      exact ⟨_, rfl, Below.refl _ _, rfl⟩
    · obtain rfl := Option.some.inj hoi
      have h8 : (x 8) = .slice a0 l0 k0 := hd 8 (by kernel_rfl)
      simp only [fill, Act.put, List.setIfInBounds_toArray, List.set_cons_succ, List.set_cons_zero, h8]
      go_wp2_with fail
      refine (lab_any _ _ key [] ⟨#[113, 117, 105, 99, 32, 104, 112]⟩ 16 _ w9 rfl (g1.out.below hb9 g1.out.lt) (u1.out.below hb9) (nums_nil _ _) hb.out byt_nil hl (by decide) (by simp) (by omega) (by omega)).mono ?_
      rintro e w10 ⟨v10, rfl, hn10, _, hb10⟩
      obtain ⟨a9, l9, k9, rfl⟩ := slice_any hn10
      go_wp2_with fail
      exact ⟨_, rfl, hb10, by rw [hL3.out]; exact sl_of hn10 (by rw [labS_len _ _ _ _ (by decide) (by simp) (by omega)]; omega)⟩
    · obtain rfl := Option.some.inj hoi
      have h9 : SlAt w9 (x 9) L3 := hd 9 (by kernel_rfl)
      simp only [fill, Act.put, List.setIfInBounds_toArray, List.set_cons_succ, List.set_cons_zero]
      obtain ⟨p9, ep, hp9⟩ := ptr_of arr52 h9 z3.out
      replace ep := ep w9
      obtain ⟨b8, o8, c8, e8, n8⟩ := h9
      rw [e8] at ep
      simp only [e8]
      go_wp2_with fail
      exact ⟨_, rfl, Below.refl _ _, hp9⟩
    · obtain rfl := Option.some.inj hoi
      have h10 : PtrAt w9 (x 10) L3 := hd 10 (by kernel_rfl)
      simp only [fill, Act.put, List.setIfInBounds_toArray, List.set_cons_succ, List.set_cons_zero]
      have e1 := Lib.hid (ptr_load arr52 sz52 h10 z3.out)
      go_wp2_with (refine wpList_load_is rfl 52 _ rfl rfl e1.out ?_)
      exact ⟨_, rfl, Below.refl _ _, rfl⟩
    · obtain rfl := Option.some.inj hoi
      have h3 : (x 3) = .agg (bys L1) := hd 3 (by kernel_rfl)
      have h7 : (x 7) = .agg (bys L2) := hd 7 (by kernel_rfl)
      have h11 : (x 11) = .agg (bys L3) := hd 11 (by kernel_rfl)
      simp only [fill, Act.put, List.setIfInBounds_toArray, List.set_cons_succ, List.set_cons_zero, h3, h7, h11]
      go_wp2_with (refine wpList_buildTo rfl 55 _ rfl _ rfl (bys r) (by refine Eq.trans (b := Tryd.prog.built 55 [(0, .agg (bys L1)), (1, .agg (bys L2)), (2, .agg (bys L3))]) (by kernel_rfl) hbt.out) ?_)
      exact ⟨_, rfl, Below.refl _ _, rfl⟩
    · cases hoi
  · intro x w9 hb9 hd
    have h12 : (x 12) = .agg (bys r) := hd 12 (by decide)
    simp only [fill, Act.put, List.setIfInBounds_toArray, List.set_cons_succ, List.set_cons_zero, h12]
    have z8 : (Tryd.prog.info? 55).map (·.size) = some (bys r).size := by rw [bys_size, hrl.out]; exact sz55
    replace z8 := Lib.hid z8
    have l6 := Lib.hid (below_cell hb9 l1.out)
    have ho8 : Hid ((bys (zb 44)).size = (bys r).size) := by show _ = _; rw [bys_size, bys_size, hrl.out]; rfl
    have l7 := Lib.hid (l6.out.setRow (bys r))
    have b7 := Lib.hid (below_setRow (below_all b1.out hb9) (Nat.le_refl _) (bys r))
    go_wp2_with (refine wpList_store_row rfl 55 _ _ rfl _ _ rfl rfl 55 _ l6.out z8.out ho8.out (bys_one _) ?_)
    replace l7 := l7.out
    replace b7 := b7.out
    generalize w9.setRow w.heap.size (bys r) = w10 at l7 b7 ⊢
    exact bodyPost_ret (results_cell_row rfl _ _ _ 55 _ _ _ rfl l7 Tryd.underlying55 rfl z8.out) rfl ⟨rfl, b7⟩
end Go.Proofs.YtikmfaeiecpncaaDoor
