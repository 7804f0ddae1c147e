/- All keys behind the hellos: what they are, how their block looks. -/
import Derived.Test.YtikmfaeiecpncaaDoorKP
namespace Go.Proofs.YtikmfaeiecpncaaDoor
open Go.RowKit

def whoS : Nat → ByteArray
  | 0 => ⟨#[99]⟩
  | _ => ⟨#[115]⟩
def hsS : ByteArray := ⟨#[32, 104, 115, 32, 116, 114, 97, 102, 102, 105, 99]⟩
def apS : ByteArray := ⟨#[32, 97, 112, 32, 116, 114, 97, 102, 102, 105, 99]⟩
def finS : ByteArray := ⟨#[102, 105, 110, 105, 115, 104, 101, 100]⟩
def hL (psk : List Int) : List Int := nextL (mac [] psk)
def mL (psk : List Int) : List Int := nextL (hL psk)
def trafL (psk hellos : List Int) (k : Nat) : List Int := lab (hL psk) (whoS k ++ hsS) (sha hellos) 32
def helloL (psk hellos : List Int) (k : Nat) : List Int := packetL (trafL psk hellos k)
def finL (psk hellos : List Int) (k : Nat) : List Int := lab (trafL psk hellos k) finS [] 32
def dataS (psk hellos : List Int) (k : Nat) : List Int := lab (mL psk) (whoS k ++ apS) (sha hellos) 32
def dataL (psk hellos : List Int) (k : Nat) : List Int := packetL (dataS psk hellos k)
theorem who_hs (k : Nat) : (whoS k ++ hsS).size ≤ 249 := by rcases k with _ | k <;> simp only [whoS, ByteArray.size_append] <;> decide
theorem who_ap (k : Nat) : (whoS k ++ apS).size ≤ 249 := by rcases k with _ | k <;> simp only [whoS, ByteArray.size_append] <;> decide
theorem trafL_len (psk hellos : List Int) (k : Nat) : (trafL psk hellos k).length = 32 := labS_len _ _ _ _ (who_hs k) (by rw [sha_len]; omega) (by omega)
theorem dataS_len (psk hellos : List Int) (k : Nat) : (dataS psk hellos k).length = 32 := labS_len _ _ _ _ (who_ap k) (by rw [sha_len]; omega) (by omega)
theorem finL_len (psk hellos : List Int) (k : Nat) : (finL psk hellos k).length = 32 := labS_len _ _ _ _ (by decide) (by simp) (by omega)
def setV (h0 h1 d0 d1 : List Int) (f0 f1 : Value) : Array Value := ((h0 ++ h1 ++ d0 ++ d1).map (Value.int .u8) ++ [f0, f1]).toArray
section
variable {w : World} {b : Nat} {t : TypeId} {h0 h1 d0 d1 : List Int} {f0 f1 : Value}
theorem set_s0 : setV h0 h1 d0 d1 f0 f1 = ([] ++ h0.map (Value.int .u8) ++ (h1.map (Value.int .u8) ++ d0.map (Value.int .u8) ++ d1.map (Value.int .u8) ++ [f0, f1])).toArray := by simp [setV]
theorem set_s1 : setV h0 h1 d0 d1 f0 f1 = (h0.map (Value.int .u8) ++ h1.map (Value.int .u8) ++ (d0.map (Value.int .u8) ++ d1.map (Value.int .u8) ++ [f0, f1])).toArray := by simp [setV]
theorem set_s2 : setV h0 h1 d0 d1 f0 f1 = ((h0 ++ h1).map (Value.int .u8) ++ d0.map (Value.int .u8) ++ (d1.map (Value.int .u8) ++ [f0, f1])).toArray := by simp [setV]
theorem set_s3 : setV h0 h1 d0 d1 f0 f1 = ((h0 ++ h1 ++ d0).map (Value.int .u8) ++ d1.map (Value.int .u8) ++ [f0, f1]).toArray := by simp [setV]
theorem set_size (l0 : h0.length = 44) (l1 : h1.length = 44) (l2 : d0.length = 44) (l3 : d1.length = 44) : (setV h0 h1 d0 d1 f0 f1).size = 178 := by simp [setV, l0, l1, l2, l3]
theorem set_p0 (h : Blk w b t (setV h0 h1 d0 d1 f0 f1)) : w.rangeAt b 0 (h0.map (Value.int .u8)) := by rw [set_s0] at h; exact h.part 0 rfl
theorem set_p1 (h : Blk w b t (setV h0 h1 d0 d1 f0 f1)) (l0 : h0.length = 44) : w.rangeAt b 44 (h1.map (Value.int .u8)) := by rw [set_s1] at h; exact h.part 44 (by simp [l0])
theorem set_p2 (h : Blk w b t (setV h0 h1 d0 d1 f0 f1)) (l0 : h0.length = 44) (l1 : h1.length = 44) : w.rangeAt b 88 (d0.map (Value.int .u8)) := by rw [set_s2] at h; exact h.part 88 (by simp [l0, l1])
theorem set_p3 (h : Blk w b t (setV h0 h1 d0 d1 f0 f1)) (l0 : h0.length = 44) (l1 : h1.length = 44) (l2 : d0.length = 44) : w.rangeAt b 132 (d1.map (Value.int .u8)) := by rw [set_s3] at h; exact h.part 132 (by simp [l0, l1, l2])
theorem set_w0 (h : Blk w b t (setV h0 h1 d0 d1 f0 f1)) (x : List Int) (l : x.length = h0.length) : Blk (w.setCells b 0 (x.map (Value.int .u8))) b t (setV x h1 d0 d1 f0 f1) := by
  rw [set_s0] at h ⊢; exact h.putPart 0 rfl _ (by simp [l])
theorem set_w1 (h : Blk w b t (setV h0 h1 d0 d1 f0 f1)) (l0 : h0.length = 44) (x : List Int) (l : x.length = h1.length) : Blk (w.setCells b 44 (x.map (Value.int .u8))) b t (setV h0 x d0 d1 f0 f1) := by
  rw [set_s1] at h ⊢; exact h.putPart 44 (by simp [l0]) _ (by simp [l])
theorem set_w2 (h : Blk w b t (setV h0 h1 d0 d1 f0 f1)) (l0 : h0.length = 44) (l1 : h1.length = 44) (x : List Int) (l : x.length = d0.length) : Blk (w.setCells b 88 (x.map (Value.int .u8))) b t (setV h0 h1 x d1 f0 f1) := by
  rw [set_s2] at h ⊢; exact h.putPart 88 (by simp [l0, l1]) _ (by simp [l])
theorem set_w3 (h : Blk w b t (setV h0 h1 d0 d1 f0 f1)) (l0 : h0.length = 44) (l1 : h1.length = 44) (l2 : d0.length = 44) (x : List Int) (l : x.length = d1.length) : Blk (w.setCells b 132 (x.map (Value.int .u8))) b t (setV h0 h1 d0 x f0 f1) := by
  rw [set_s3] at h ⊢; exact h.putPart 132 (by simp [l0, l1, l2]) _ (by simp [l])
theorem set_at0 (l0 : h0.length = 44) (l1 : h1.length = 44) (l2 : d0.length = 44) (l3 : d1.length = 44) : (setV h0 h1 d0 d1 f0 f1)[176]? = some f0 := by
  simp [setV, l0, l1, l2, l3]
theorem set_at1 (l0 : h0.length = 44) (l1 : h1.length = 44) (l2 : d0.length = 44) (l3 : d1.length = 44) : (setV h0 h1 d0 d1 f0 f1)[177]? = some f1 := by
  simp [setV, l0, l1, l2, l3]
theorem set_c0 (h : Blk w b t (setV h0 h1 d0 d1 f0 f1)) (l0 : h0.length = 44) (l1 : h1.length = 44) (l2 : d0.length = 44) (l3 : d1.length = 44) (u : Value) : Blk (w.setCell ⟨b, 176, none⟩ u) b t (setV h0 h1 d0 d1 u f1) := by
  have := h.set 176 u
  have e : (setV h0 h1 d0 d1 f0 f1).setIfInBounds 176 u = setV h0 h1 d0 d1 u f1 := by
    have hl : ((h0 ++ h1 ++ d0 ++ d1).map (Value.int .u8)).length = 176 := by simp [l0, l1, l2, l3]
    rw [setV, setV, List.setIfInBounds_toArray, List.set_append_right _ _ (by omega), hl]; rfl
  rwa [e] at this
theorem set_c1 (h : Blk w b t (setV h0 h1 d0 d1 f0 f1)) (l0 : h0.length = 44) (l1 : h1.length = 44) (l2 : d0.length = 44) (l3 : d1.length = 44) (u : Value) : Blk (w.setCell ⟨b, 177, none⟩ u) b t (setV h0 h1 d0 d1 f0 u) := by
  have := h.set 177 u
  have e : (setV h0 h1 d0 d1 f0 f1).setIfInBounds 177 u = setV h0 h1 d0 d1 f0 u := by
    have hl : ((h0 ++ h1 ++ d0 ++ d1).map (Value.int .u8)).length = 176 := by simp [l0, l1, l2, l3]
    rw [setV, setV, List.setIfInBounds_toArray, List.set_append_right _ _ (by omega), hl]; rfl
  rwa [e] at this
theorem set_one {a n c : _} {a' n' c' : _} : (setV h0 h1 d0 d1 (.slice a n c) (.slice a' n' c')).all (·.oneCell') = true := by simp [setV, Value.oneCell']
end
theorem zero59 : (Tryd.prog.info? 59).bind (·.zero) = some (.agg (setV (zb 44) (zb 44) (zb 44) (zb 44) (.slice none 0 0) (.slice none 0 0))) := by kernel_rfl
theorem zero64 : (Tryd.prog.info? 64).bind (·.zero) = some (.agg (setV (zb 44) (zb 44) (zb 44) (zb 44) (.slice none 0 0) (.slice none 0 0))) := by kernel_rfl
theorem whole_load {t ty : TypeId} {d : TypeDesc} {w : World} {b : Nat} {cs : Array Value} (h : Blk w b ty cs) (hu : Tryd.prog.underlying t = some d) (hd : d.isRow = true) (hi : (Tryd.prog.info? t).map (·.size) = some cs.size) :
    (Instr.loadAt t (.pointer (some ⟨b, 0, none⟩))).run Tryd.prog w = .ok (.agg cs) w := by
  have hr : w.rangeAt b 0 cs.toList := fun j v hv => by rw [h.cell, Nat.zero_add, ← Array.getElem?_toList]; exact hv
  have := run_loadAt_mid (P := Tryd.prog) w b 0 t cs.toList d hr hu hd (by rw [Array.length_toList]; exact hi)
  rwa [show cs.toList.toArray = cs from rfl] at this
theorem put_two (w : World) (ta tb : TypeId) (a0 a b0 b : Array Value) :
    Blk ((w.alloc (.cells a0 ta)).alloc (.cells b0 tb)) w.heap.size ta a0 ∧ Blk (((w.alloc (.cells a0 ta)).alloc (.cells b0 tb)).setRow w.heap.size a) (w.heap.size + 1) tb b0 ∧
    Blk ((((w.alloc (.cells a0 ta)).alloc (.cells b0 tb)).setRow w.heap.size a).setRow (w.heap.size + 1) b) w.heap.size ta a ∧ Blk ((((w.alloc (.cells a0 ta)).alloc (.cells b0 tb)).setRow w.heap.size a).setRow (w.heap.size + 1) b) (w.heap.size + 1) tb b ∧
    Below w.heap.size w ((((w.alloc (.cells a0 ta)).alloc (.cells b0 tb)).setRow w.heap.size a).setRow (w.heap.size + 1) b) := by
  have la := (Blk.new w ta a0).alloc (.cells b0 tb)
  have lb := Blk.new (w.alloc (.cells a0 ta)) tb b0
  rw [show (w.alloc (.cells a0 ta)).heap.size = w.heap.size + 1 by simp] at lb
  have bb := ((Below.refl w.heap.size w).alloc (Nat.le_refl _) (.cells a0 ta)).alloc (by simp) (.cells b0 tb)
  have lc := lb.rowOther (b' := w.heap.size) a (by omega)
  have ld := la.setRow a
  have bc := below_setRow (g := w.heap.size) bb (Nat.le_refl _) a
  exact ⟨la, lc, ld.rowOther (b' := w.heap.size + 1) b (by omega), lc.setRow b, below_setRow (g := w.heap.size + 1) bc (by omega) b⟩
theorem zb_len (n : Nat) : (zb n).length = n := by simp [zb]
end Go.Proofs.YtikmfaeiecpncaaDoor
