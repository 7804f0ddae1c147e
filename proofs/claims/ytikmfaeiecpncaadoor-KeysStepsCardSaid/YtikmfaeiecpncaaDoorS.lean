/- The digest's plain law: words, the schedule, rounds; how blocks of words lie. -/
import Derived.Test.YtikmfaeiecpncaaDoorC
import Derived.Laws.Rows
import Derived.Laws.Tables
import Derived.Laws.CopyRow
import Derived.Laws.CopyOwn
namespace Go.Proofs.YtikmfaeiecpncaaDoor
open Go.RowKit

abbrev Ws := List (BitVec 32)
def wd (x : BitVec 32) : Value := .int .u32 (V x)
def wds (xs : Ws) : Array Value := (xs.map wd).toArray
def bys (xs : List Int) : Array Value := (xs.map (Value.int .u8)).toArray
/-- A block that is known whole. -/
def Blk (w : World) (b : Nat) (ty : TypeId) (cs : Array Value) : Prop := w.heap[b]? = some (.cells cs ty (0, 0))
section
variable {w w' : World} {b : Nat} {ty : TypeId} {cs : Array Value}
theorem Blk.lt (h : Blk w b ty cs) : b < w.heap.size := by
  rcases Nat.lt_or_ge b w.heap.size with h' | h'
  · exact h'
  · simp [Blk, Array.getElem?_eq_none h'] at h
theorem Blk.below (h : Blk w b ty cs) {B : Nat} (hb : Below B w w') (h1 : b < B) : Blk w' b ty cs := (hb.block b h1).trans h
theorem Blk.grown {row : Option Nat} (h : Blk w b ty cs) (hg : w.grownBy w' row) (h1 : some b ≠ row) : Blk w' b ty cs := (hg.block b h.lt h1).trans h
theorem Blk.alloc (h : Blk w b ty cs) (o : Obj) : Blk (w.alloc o) b ty cs := (Array.getElem?_push_lt h.lt).trans (by have := h; rw [Blk, Array.getElem?_eq_getElem h.lt] at this; exact this)
theorem Blk.new (w : World) (ty : TypeId) (cs : Array Value) : Blk (w.alloc (.cells cs ty)) w.heap.size ty cs := heap_alloc_new w _
theorem Blk.cell (h : Blk w b ty cs) (i : Nat) : w.cell? ⟨b, i, none⟩ = cs[i]? := by simp [World.cell?, show w.heap[b]? = _ from h]
theorem Blk.fr (h : Blk w b ty cs) (j : Nat) : w.frozen? ⟨b, j, none⟩ = false := by simp [World.frozen?, show w.heap[b]? = _ from h]
theorem Blk.set (h : Blk w b ty cs) (o : Nat) (v : Value) : Blk (w.setCell ⟨b, o, none⟩ v) b ty (cs.setIfInBounds o v) := by
  have hlt := h.lt
  have h' : w.heap[b] = .cells cs ty (0, 0) := by have := h; rw [Blk, Array.getElem?_eq_getElem hlt] at this; exact Option.some.inj this
  show (w.heap.modify b _)[b]? = _
  rw [Array.getElem?_eq_getElem (by simpa using hlt), Array.getElem_modify_self, h']
  rfl
theorem Blk.setOther (h : Blk w b ty cs) {b' o : Nat} (v : Value) (hne : b ≠ b') : Blk (w.setCell ⟨b', o, none⟩ v) b ty cs :=
  (Below.heap_setCell w _ v b hne).trans h
end
theorem bys_at (xs : List Int) (i : Nat) (h : i < xs.length) : (bys xs)[i]? = some (.int .u8 (xs.getD i 0)) := by
  simp [bys, List.getD, List.getElem?_eq_getElem h]
theorem wds_at (xs : Ws) (i : Nat) (h : i < xs.length) : (wds xs)[i]? = some (.int .u32 (V (xs.getD i 0))) := by
  simp [wds, wd, List.getD, List.getElem?_eq_getElem h]
theorem wds_set (xs : Ws) (i : Nat) (v : BitVec 32) : (wds xs).setIfInBounds i (.int .u32 (V v)) = wds (xs.set i v) := by
  simp [wds, wd, List.map_set]
theorem wds_size (xs : Ws) : (wds xs).size = xs.length := by simp [wds]
theorem bys_size (xs : List Int) : (bys xs).size = xs.length := by simp [bys]
theorem Blk.word {w : World} {b : Nat} {ty : TypeId} {xs : Ws} (h : Blk w b ty (wds xs)) (i : Nat) (hi : i < xs.length) : w.cell? ⟨b, i, none⟩ = some (.int .u32 (V (xs.getD i 0))) := (h.cell i).trans (wds_at xs i hi)
theorem Blk.byte {w : World} {b : Nat} {ty : TypeId} {xs : List Int} (h : Blk w b ty (bys xs)) (i : Nat) (hi : i < xs.length) : w.cell? ⟨b, i, none⟩ = some (.int .u8 (xs.getD i 0)) := (h.cell i).trans (bys_at xs i hi)
theorem Blk.setWord {w : World} {b : Nat} {ty : TypeId} {xs : Ws} (h : Blk w b ty (wds xs)) (i : Nat) (v : BitVec 32) : Blk (w.setCell ⟨b, i, none⟩ (.int .u32 (V v))) b ty (wds (xs.set i v)) := by
  have := h.set i (.int .u32 (V v)); rwa [wds_set] at this
theorem V_byte (x : Int) (h0 : 0 ≤ x) (h1 : x ≤ 255) : V (BitVec.ofInt 32 x) = x := by
  obtain ⟨n, rfl⟩ := Int.eq_ofNat_of_zero_le h0
  unfold V; rw [BitVec.ofInt_natCast, BitVec.toNat_ofNat]; omega

/-! A whole array out of its block, and into it. -/
theorem load_at {P : Program} {w : World} {b : Nat} {ty : TypeId} {cs : Array Value} (h : Blk w b ty cs) (n : Nat) (e : TypeId) (hu : P.underlying ty = some (.array n e)) (hi : (P.info? ty).map (·.size) = some cs.size) :
    (Instr.loadAt ty (.pointer (some ⟨b, 0, none⟩))).run P w = .ok (.agg cs) w := by
  simp only [Instr.loadAt, Instr.sureAddr, Sem.run_bind, Sem.run_pure, Result.andThen]
  exact run_loadVar_row w b ty ty cs (0, 0) _ h hu rfl hi
theorem store_at {P : Program} {w : World} {b : Nat} {ty ty' : TypeId} {old cs : Array Value} (h : Blk w b ty' old) (hi : (P.info? ty).map (·.size) = some cs.size) (ho : old.size = cs.size) (h1 : cs.all (·.oneCell') = true) :
    (Instr.storeAt ty (.pointer (some ⟨b, 0, none⟩)) (.agg cs)).run P w = .ok () (w.setRow b cs) := by
  simp only [Instr.storeAt, Instr.sureAddr, Sem.run_bind, Sem.run_pure, Result.andThen]
  exact run_storeVar_row w b ty' ty old cs h hi ho h1
theorem Blk.setRow {w : World} {b : Nat} {ty : TypeId} {cs : Array Value} (h : Blk w b ty cs) (cs' : Array Value) : Blk (w.setRow b cs') b ty cs' := setRow_heap w b cs cs' ty (0, 0) h
theorem Blk.rowOther {w : World} {b b' : Nat} {ty : TypeId} {cs : Array Value} (h : Blk w b ty cs) (cs' : Array Value) (hne : b ≠ b') : Blk (w.setRow b' cs') b ty cs := (setRow_other w b' b cs' hne).trans h
theorem wds_one (xs : Ws) : (wds xs).all (·.oneCell') = true := by simp [wds, wd, Value.oneCell']
theorem bys_one (xs : List Int) : (bys xs).all (·.oneCell') = true := by simp [bys, Value.oneCell']
theorem arr33 : Tryd.prog.underlying 33 = some (.array 64 5) := by kernel_rfl
theorem len33 : Tryd.prog.arrayLen 33 = 64 := by kernel_rfl
theorem el33 : Tryd.prog.elem 33 = 5 := by kernel_rfl
theorem sz33 : (Tryd.prog.info? 33).map (·.size) = some 64 := by kernel_rfl
theorem arr75 : Tryd.prog.underlying 75 = some (.array 64 31) := by kernel_rfl
theorem sz75 : (Tryd.prog.info? 75).map (·.size) = some 64 := by kernel_rfl
theorem arr32 : Tryd.prog.underlying 32 = some (.array 8 31) := by kernel_rfl
theorem sz32 : (Tryd.prog.info? 32).map (·.size) = some 8 := by kernel_rfl
theorem arr26 : Tryd.prog.underlying 26 = some (.array 32 5) := by kernel_rfl
theorem sz26 : (Tryd.prog.info? 26).map (·.size) = some 32 := by kernel_rfl

/-! The schedule. -/
def byteW (blk : List Int) (i : Nat) : BitVec 32 := BitVec.ofInt 32 (blk.getD i 0)
def part (blk : List Int) (k : Nat) : Nat → BitVec 32
  | 0 => 0
  | j + 1 => (part blk k j <<< 8) ||| byteW blk (4 * k + j)
def schA (blk : List Int) : Nat → Ws
  | 0 => List.replicate 64 0
  | k + 1 => (schA blk k).set k (part blk k 4)
def sg0 (x : BitVec 32) : BitVec 32 := rot x 7 ^^^ rot x 18 ^^^ (x >>> 3)
def sg1 (x : BitVec 32) : BitVec 32 := rot x 17 ^^^ rot x 19 ^^^ (x >>> 10)
def nextW (xs : Ws) (k : Nat) : BitVec 32 := xs.getD k 0 + sg0 (xs.getD (k + 1) 0) + xs.getD (k + 9) 0 + sg1 (xs.getD (k + 14) 0)
def schB (blk : List Int) : Nat → Ws
  | 0 => schA blk 16
  | k + 1 => (schB blk k).set (16 + k) (nextW (schB blk k) k)
def sched (blk : List Int) : Ws := schB blk 48
theorem schA_len (blk : List Int) (k : Nat) : (schA blk k).length = 64 := by induction k with
  | zero => simp [schA]
  | succ k ih => simp [schA, ih]
theorem schB_len (blk : List Int) (k : Nat) : (schB blk k).length = 64 := by induction k with
  | zero => exact schA_len blk 16
  | succ k ih => simp [schB, ih]
theorem schA_zero (blk : List Int) (k : Nat) : ∀ i, k ≤ i → (schA blk k).getD i 0 = 0 := by
  induction k with
  | zero =>
    intro i _
    simp only [schA, List.getD, List.getElem?_replicate]
    split <;> rfl
  | succ k ih => intro i hi; simp only [schA, List.getD]; rw [List.getElem?_set_ne (by omega)]; exact ih i (by omega)
theorem schA_set0 (blk : List Int) (k : Nat) (hk : k < 64) : (schA blk k).set k 0 = schA blk k := by
  have h := schA_zero blk k k (Nat.le_refl _)
  have hl : k < (schA blk k).length := by rw [schA_len]; exact hk
  simp only [List.getD, List.getElem?_eq_getElem hl, Option.getD_some] at h
  rw [← h]; exact List.set_getElem_self hl

/-! The rounds. -/
def bs1 (x : BitVec 32) : BitVec 32 := rot x 6 ^^^ rot x 11 ^^^ rot x 25
def bs0 (x : BitVec 32) : BitVec 32 := rot x 2 ^^^ rot x 13 ^^^ rot x 22
def cho (x y z : BitVec 32) : BitVec 32 := (x &&& y) ^^^ (~~~x &&& z)
def maj (x y z : BitVec 32) : BitVec 32 := (x &&& y) ^^^ (x &&& z) ^^^ (y &&& z)
structure St where
  a : BitVec 32
  b : BitVec 32
  c : BitVec 32
  d : BitVec 32
  e : BitVec 32
  f : BitVec 32
  g : BitVec 32
  h : BitVec 32
  deriving DecidableEq
def St.list (s : St) : Ws := [s.a, s.b, s.c, s.d, s.e, s.f, s.g, s.h]
def rnd (k w : BitVec 32) (s : St) : St :=
  let t := s.h + bs1 s.e + cho s.e s.f s.g + k + w
  ⟨t + bs0 s.a + maj s.a s.b s.c, s.a, s.b, s.c, s.d + t, s.e, s.f, s.g⟩
def rnds (ks ws : Ws) (s : St) : Nat → St
  | 0 => s
  | n + 1 => rnd (ks.getD n 0) (ws.getD n 0) (rnds ks ws s n)
def St.add (s t : St) : St := ⟨s.a + t.a, s.b + t.b, s.c + t.c, s.d + t.d, s.e + t.e, s.f + t.f, s.g + t.g, s.h + t.h⟩
def Kc : Ws := [1116352408, 1899447441, 3049323471, 3921009573, 961987163, 1508970993, 2453635748, 2870763221, 3624381080, 310598401, 607225278, 1426881987, 1925078388, 2162078206, 2614888103, 3248222580, 3835390401, 4022224774, 264347078, 604807628, 770255983, 1249150122, 1555081692, 1996064986, 2554220882, 2821834349, 2952996808, 3210313671, 3336571891, 3584528711, 113926993, 338241895, 666307205, 773529912, 1294757372, 1396182291, 1695183700, 1986661051, 2177026350, 2456956037, 2730485921, 2820302411, 3259730800, 3345764771, 3516065817, 3600352804, 4094571909, 275423344, 430227734, 506948616, 659060556, 883997877, 958139571, 1322822218, 1537002063, 1747873779, 1955562222, 2024104815, 2227730452, 2361852424, 2428436474, 2756734187, 3204031479, 3329325298]
def H0 : St := ⟨1779033703, 3144134277, 1013904242, 2773480762, 1359893119, 2600822924, 528734635, 1541459225⟩
def comp (s : St) (blk : List Int) : St := s.add (rnds Kc (sched blk) s 64)
theorem Kc_len : Kc.length = 64 := rfl
end Go.Proofs.YtikmfaeiecpncaaDoor
