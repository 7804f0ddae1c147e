/- A label's expansion. -/
import Derived.Test.YtikmfaeiecpncaaDoorHC
import Derived.Lib.AppendStr
namespace Go.Proofs.YtikmfaeiecpncaaDoor
open Go.RowKit

/-- A string's bytes. -/
def strB (s : ByteArray) : List Int := s.data.toList.map fun b => (b.toNat : Int)
theorem strB_len (s : ByteArray) : (strB s).length = s.size := by rw [strB, List.length_map, Array.length_toList]; rfl
theorem byt_str (s : ByteArray) : Byt (strB s) := byt_of fun n hn => by
  obtain ⟨b, _, rfl⟩ := List.mem_map.1 hn
  have := b.toNat_lt
  omega
theorem strCells_B (s : ByteArray) : Lib.strCells s = (strB s).map (Value.int .u8) := by simp [Lib.strCells, strB]
theorem un9 : Tryd.prog.underlying 9 = some .string := by kernel_rfl
theorem wpList_append_str {w : World} {ops : Array Oper} {rest : List Oper} {o : Oper} {a : Act} {Q : Exit → Act → World → Prop} (hgd : o.guard = none) (s x : Operand)
    (ho : o.op = .call { callee := .builtin .append, args := #[s, x], argTypes := #[22, 9] }) (base : Nat) (v : Value) (xs : List Int) (hs : a.eval s = v) (hown : OwnNums .u8 5 w base v xs)
    (st : ByteArray) (hx : a.eval x = .string st) (hlen : xs.length + st.size ≤ 100000) (hbase : base ≤ w.heap.size)
    (h : ∀ v' w', OwnNums .u8 5 w' base v' (xs ++ strB st) → w.grownBy w' v.ownBlock → wpList Tryd.prog ops Q rest (a.put o.dst v') w') : wpList Tryd.prog ops Q (o :: rest) a w := by
  obtain ⟨i0, hi, hz0, hz1, hz2⟩ := info_parts info5
  refine wpList_plain hgd fun K hK => ?_
  obtain ⟨v', w', hr, h2, h3, _⟩ := Lib.run_append_own_string (P := Tryd.prog) w base 22 9 o.type 5 i0 Tryd.underlying22 un9 hi hz0 hz1 hz2 v xs.length _ hown st (by unfold maxLen; omega) (by omega) hbase
  unfold Oper.wp
  simp only [execOp, ho, resolve, invoke, builtin]
  simp [hs, hx, hr, Result.andThen]
  refine hK _ _ (h v' w' ?_ h3)
  unfold OwnNums
  rw [List.length_append, strB_len, List.map_append, ← strCells_B]
  exact h2
def preB : List Int := [116, 108, 115, 49, 51, 32]
def labelInfo (s ctx : List Int) (n : Nat) : List Int := [((n / 256 % 256 : Nat) : Int), ((n % 256 : Nat) : Int), (((6 + s.length) % 256 : Nat) : Int)] ++ (preB ++ s) ++ [((ctx.length % 256 : Nat) : Int)] ++ ctx
def labelI (secret s ctx : List Int) (n : Int) : List Int := if 249 < s.length ∨ 255 < ctx.length ∨ n < 0 ∨ 8160 < n then [] else expand secret (labelInfo s ctx n.toNat) n.toNat
theorem strB_pre (s : ByteArray) : strB (⟨#[116, 108, 115, 49, 51, 32]⟩ ++ s) = preB ++ strB s := by
  simp [strB, preB]
theorem byt_info (s ctx : List Int) (n : Nat) (hs : Byt s) (hc : Byt ctx) : Byt (labelInfo s ctx n) := by
  refine byt_app (byt_app (byt_app (byt_of fun m hm => ?_) (byt_app (byt_of fun m hm => ?_) hs)) (byt_one _)) hc
  · simp at hm; rcases hm with rfl | rfl | rfl <;> omega
  · simp [preB] at hm; omega
set_option maxHeartbeats 1600000 in
set_option maxRecDepth 100000 in
theorem label_any (u v : Value) (secret ctx : List Int) (s : ByteArray) (n : Int) (w : World) (hg : Gl w) (hu : NumsAt .u8 w u secret) (hv : NumsAt .u8 w v ctx) (hb : Byt secret) (hbc : Byt ctx) (hl : secret.length ≤ 10000) (hmax : s.size ≤ 9223372036854775000) :
    Calls Tryd.prog 29 #[u, .string s, v, .int .i64 n] w fun e w' => ∃ v', e = .returned v' ∧ NumsAt .u8 w' v' (labelI secret (strB s) ctx n) ∧ Below w.heap.size w w' := by
  obtain ⟨i0, hi, hz0, hz1, hz2⟩ := info_parts info5
  obtain ⟨a0, l0, k0, rfl⟩ := slice_any hu
  have hcm := hv.len
  obtain ⟨a1, k1, rfl, _⟩ := slice_form hv
  have hsl := strB_len s
  have hcI : (ctx.length : Int) ≤ 9223372036854775807 := by omega
  have hsI : (s.size : Int) ≤ 9223372036854775000 := by omega
  obtain ⟨L, hL⟩ := name_it (labelI secret (strB s) ctx n)
  rw [← hL.out]
  have hbad : (249 < (strB s).length ∨ 255 < ctx.length ∨ n < 0 ∨ 8160 < n) → L = [] := fun h => by rw [hL.out, labelI, if_pos h]
  replace hsl := Lib.hid hsl
  replace hbad := Lib.hid hbad
  replace hcm := Lib.hid hcm
  by_cases h1 : 249 < s.size
  · have q1 : decide ((255 : Int) < 6 + s.size) = true := by simp; omega
    rw [hbad.out (.inl (by rw [hsl.out]; exact h1))]
    clear h1 hu hv
    go_enter Tryd.func29, Tryd.ntmps29
    go_wp2_with fail
    go_ret
    exact ⟨_, rfl, nums_nil _ _, Below.refl _ _⟩
  have q1 : decide ((255 : Int) < 6 + s.size) = false := by simp; omega
  by_cases h2 : 255 < ctx.length
  · have q2 : decide ((255 : Int) < ctx.length) = true := by simp; omega
    rw [hbad.out (.inr (.inl h2))]
    clear h1 h2 hu hv
    go_enter Tryd.func29, Tryd.ntmps29
    go_wp2_with fail
    go_ret
    exact ⟨_, rfl, nums_nil _ _, Below.refl _ _⟩
  have q2 : decide ((255 : Int) < ctx.length) = false := by simp; omega
  by_cases h3 : n < 0
  · have q3 : decide (n < 0) = true := by simp; omega
    rw [hbad.out (.inr (.inr (.inl h3)))]
    clear h1 h2 h3 hu hv
    go_enter Tryd.func29, Tryd.ntmps29
    go_wp2_with fail
    go_ret
    exact ⟨_, rfl, nums_nil _ _, Below.refl _ _⟩
  have q3 : decide (n < 0) = false := by simp; omega
  by_cases h4 : 8160 < n
  · have q4 : decide (8160 < n) = true := by simp; omega
    rw [hbad.out (.inr (.inr (.inr h4)))]
    clear h1 h2 h3 h4 hu hv
    go_enter Tryd.func29, Tryd.ntmps29
    go_wp2_with fail
    go_ret
    exact ⟨_, rfl, nums_nil _ _, Below.refl _ _⟩
  have q4 : decide (8160 < n) = false := by simp; omega
  obtain ⟨m, rfl⟩ := Int.eq_ofNat_of_zero_le (show 0 ≤ n by omega)
  have hLe : L = expand secret (labelInfo (strB s) ctx m) m := by
    rw [hL.out, labelI, if_neg (by rw [hsl.out]; omega)]; rfl
  replace hLe := Lib.hid hLe
  have hmI : (m : Int) ≤ 8160 := by omega
  have hs249 : s.size ≤ 249 := by omega
  have hc255 : ctx.length ≤ 255 := by omega
  obtain ⟨x0, hx0⟩ := name_it (m / 256)
  obtain ⟨x1, hx1⟩ := name_it (m % 256)
  obtain ⟨x2, hx2⟩ := name_it (6 + s.size)
  obtain ⟨x3, hx3⟩ := name_it ctx.length
  have e0 : (m : Int) / 256 = (x0 : Int) := by rw [hx0.out]; omega
  have e1 : (m : Int) % 256 = (x1 : Int) := by rw [hx1.out]; omega
  have e2 : 6 + (s.size : Int) = (x2 : Int) := by rw [hx2.out]; omega
  have hx0I : (x0 : Int) ≤ 255 := by rw [hx0.out]; omega
  have hx2I : (x2 : Int) ≤ 255 := by rw [hx2.out]; omega
  have hx3I : (x3 : Int) ≤ 255 := by rw [hx3.out]; omega
  rw [e2] at q1
  rw [← hx3.out] at q2 hcI hv ⊢
  have hf : Hid (labelInfo (strB s) ctx m = [(x0 : Int), (x1 : Int), (x2 : Int)] ++ (preB ++ strB s) ++ [(x3 : Int)] ++ ctx) := by
    show _ = _
    rw [labelInfo, hsl.out, Nat.mod_eq_of_lt (show m / 256 < 256 by omega), Nat.mod_eq_of_lt (show 6 + s.size < 256 by omega), Nat.mod_eq_of_lt (show ctx.length < 256 by omega), hx0.out, hx1.out, hx2.out, hx3.out]
  have hfl : Hid ((labelInfo (strB s) ctx m).length ≤ 600) := by
    show _ ≤ _
    rw [hf.out]; simp [preB, hsl.out]; omega
  have own1 := Lib.hid (show OwnNums .u8 5 (w.alloc (.cells #[.int .u8 x0, .int .u8 x1, .int .u8 x2] 5)) w.heap.size (.slice (some ⟨w.heap.size, 0, none⟩) 3 3) [(x0 : Int), (x1 : Int), (x2 : Int)] from World.ownsRow_lit w #[.int .u8 x0, .int .u8 x1, .int .u8 x2] 3 (Nat.le_refl _) (by unfold maxLen; omega) (by simp))
  have hs3 : Hid ([(x0 : Int), (x1 : Int), (x2 : Int)].length + (⟨#[116, 108, 115, 49, 51, 32]⟩ ++ s : ByteArray).size ≤ 100000) := by
    show _ ≤ _
    rw [ByteArray.size_append, show (⟨#[116, 108, 115, 49, 51, 32]⟩ : ByteArray).size = 6 from rfl]
    simp; omega
  replace hg := Lib.hid hg
  replace hb := Lib.hid hb
  replace hbc := Lib.hid hbc
  replace hu := Lib.hid hu
  replace hv := Lib.hid hv
  clear h1 h2 h3 h4 hbad
  go_enter Tryd.func29, Tryd.ntmps29
  go_wp2_with (at_builtin; first
    | (refine wpList_append_str rfl _ _ rfl w.heap.size _ _ rfl own1.out _ rfl hs3.out (by simp) ?_; intro v4 w4 hown4 hgr4; rw [strB_pre] at hown4; obtain ⟨a4, l4, c4, rfl⟩ := slice_any hown4.nums; replace hown4 := Lib.hid hown4; replace hgr4 := Lib.hid hgr4; have b4 := Lib.hid (((Below.refl w.heap.size w).alloc (Nat.le_refl _) _).grown hgr4.out (by simp) own1.out.lt))
    | (refine wpList_append_nums rfl _ _ 22 rfl .u8 w.heap.size 5 i0 1 Tryd.underlying22 hi hz0 hz1 hz2 _ _ _ [(x3 : Int)] rfl (hown4.out.alloc _) rfl (own_lit .u8 5 w4 w4.heap.size (Nat.le_refl _) (x3 : Int)).nums (by simp [preB, hsl.out]; omega) (by simp [preB, hsl.out]; omega) (by have := b4.out.size; simp; omega) ?_; intro v5 w5 hown5 hgr5; obtain ⟨a5, l5, c5, rfl⟩ := slice_any hown5.nums; replace hown5 := Lib.hid hown5; replace hgr5 := Lib.hid hgr5; have b5 := Lib.hid ((b4.out.alloc b4.out.size (.cells #[.int .u8 x3] 5)).grown hgr5.out (by have := b4.out.size; simp; omega) hown4.out.lt); have nc5 := Lib.hid (hv.out.below b5.out))
    | (refine wpList_append_nums rfl _ _ 22 rfl .u8 w.heap.size 5 i0 1 Tryd.underlying22 hi hz0 hz1 hz2 _ _ _ ctx rfl hown5.out rfl nc5.out (by have := hfl.out; rw [hf.out, List.length_append] at this; omega) (by have := hfl.out; rw [hf.out, List.length_append] at this; omega) b5.out.size ?_; intro v6 w6 hown6 hgr6; obtain ⟨a6, l6, c6, rfl⟩ := slice_any hown6.nums; replace hown6 := Lib.hid hown6; replace hgr6 := Lib.hid hgr6))
  have b6 : Below w.heap.size w w6 := b5.out.grown hgr6.out b5.out.size hown5.out.lt
  have n6 : NumsAt .u8 w6 (.slice a6 l6 c6) (labelInfo (strB s) ctx m) := by rw [hf.out]; exact hown6.out.nums
  refine (expandN_any _ _ secret _ m w6 (hg.out.below b6 hg.out.lt) (hu.out.below b6) n6 hb.out (byt_info _ _ _ (byt_str s) hbc.out) hl (by have := hfl.out; omega) (by omega)).mono ?_
  rintro e w7 ⟨v7, rfl, hn7, hb7⟩
  obtain ⟨a7, l7, c7, rfl⟩ := slice_any hn7
  rw [← hLe.out] at hn7
  replace hn7 := Lib.hid hn7
  have b7 := Lib.hid (below_all b6 hb7)
  go_wp2_with fail
  go_ret
  exact ⟨_, rfl, hn7.out, b7.out⟩
end Go.Proofs.YtikmfaeiecpncaaDoor
