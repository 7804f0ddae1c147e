/- The digest of a text: its plain law. -/
import Derived.Test.YtikmfaeiecpncaaDoorE
namespace Go.Proofs.YtikmfaeiecpncaaDoor
open Go.RowKit

/-- Numbers that are bytes. -/
def Byt (xs : List Int) : Prop := ∀ i, 0 ≤ xs.getD i 0 ∧ xs.getD i 0 ≤ 255
theorem byt_mem {xs : List Int} (h : Byt xs) : ∀ n ∈ xs, 0 ≤ n ∧ n ≤ 255 := by
  intro n hn
  obtain ⟨i, hi, rfl⟩ := List.getElem_of_mem hn
  have := h i
  simpa [List.getD, List.getElem?_eq_getElem hi] using this
theorem byt_of {xs : List Int} (h : ∀ n ∈ xs, 0 ≤ n ∧ n ≤ 255) : Byt xs := by
  intro i
  rcases Nat.lt_or_ge i xs.length with hi | hi
  · simpa [List.getD, List.getElem?_eq_getElem hi] using h _ (List.getElem_mem hi)
  · simp [List.getD, List.getElem?_eq_none hi]
theorem byt_nil : Byt [] := byt_of (by simp)
theorem byt_app {xs ys : List Int} (h : Byt xs) (h' : Byt ys) : Byt (xs ++ ys) :=
  byt_of fun n hn => by rcases List.mem_append.1 hn with h1 | h1 <;> first | exact byt_mem h n h1 | exact byt_mem h' n h1
theorem byt_take {xs : List Int} (h : Byt xs) (k : Nat) : Byt (xs.take k) := byt_of fun n hn => byt_mem h n (List.mem_of_mem_take hn)
theorem byt_drop {xs : List Int} (h : Byt xs) (k : Nat) : Byt (xs.drop k) := byt_of fun n hn => byt_mem h n (List.mem_of_mem_drop hn)
theorem lenB_bd (n k : Nat) : 0 ≤ lenB n k ∧ lenB n k ≤ 255 := by unfold lenB; omega
theorem byt_pad (n : Nat) : Byt (padL n) := byt_of fun m hm => by
  simp only [padL, padM, List.mem_cons, List.mem_append, List.mem_replicate, List.mem_map] at hm
  rcases hm with rfl | ⟨_, rfl⟩ | ⟨k, _, rfl⟩
  · omega
  · omega
  · exact lenB_bd n k
theorem padL_len (n : Nat) : (padL n).length = 9 + padZ n := by rw [padL, padM_len]; omega

def blkAt (t : List Int) (i : Nat) : List Int := (t.drop (64 * i)).take 64
def runH (t : List Int) : Nat → St
  | 0 => H0
  | k + 1 => comp (runH t k) (blkAt t k)
def full (xs : List Int) : List Int := xs ++ padL xs.length
def hash (xs : List Int) : St := runH (full xs) ((full xs).length / 64)
def outB (s : St) : List Int := (List.range 32).map fun i => V (s.list.getD (i / 4) 0 >>> (24 - 8 * (i % 4))) % 256
def sha (xs : List Int) : List Int := outB (hash xs)
theorem full_len (xs : List Int) : (full xs).length = 64 * ((full xs).length / 64) := by
  have := padZ_end xs.length
  have h2 : (full xs).length = xs.length + (padZ xs.length + 1) + 8 := by simp [full, padL_len]; omega
  omega
theorem byt_full {xs : List Int} (h : Byt xs) : Byt (full xs) := byt_app h (byt_pad _)
theorem outB_len (s : St) : (outB s).length = 32 := by simp [outB]
theorem byt_out (s : St) : Byt (outB s) := byt_of fun m hm => by
  simp only [outB, List.mem_map] at hm
  obtain ⟨i, _, rfl⟩ := hm
  omega
theorem sha_len (xs : List Int) : (sha xs).length = 32 := outB_len _
theorem byt_sha (xs : List Int) : Byt (sha xs) := byt_out _
theorem blkAt_len (t : List Int) (i : Nat) (h : 64 * i + 64 ≤ t.length) : (blkAt t i).length = 64 := by simp [blkAt]; omega
theorem byt_blk {t : List Int} (h : Byt t) (i : Nat) : Byt (blkAt t i) := byt_take (byt_drop h _) _
theorem blkAt_at (t : List Int) (i j : Nat) (h : j < 64) : (blkAt t i).getD j 0 = t.getD (64 * i + j) 0 := by
  simp [blkAt, List.getD, List.getElem?_drop, h]
theorem getD_of {α : Type} (f : Nat → α) (n i : Nat) (d : α) (h : i < n) : ((List.range n).map f).getD i d = f i := by
  simp [List.getD, h]
theorem outB_at (s : St) (i : Nat) (h : i < 32) : (outB s).getD i 0 = V (s.list.getD (i / 4) 0 >>> (24 - 8 * (i % 4))) % 256 := getD_of _ _ _ _ h
example : sha [97, 98, 99] = [0xba, 0x78, 0x16, 0xbf, 0x8f, 0x01, 0xcf, 0xea, 0x41, 0x41, 0x40, 0xde, 0x5d, 0xae, 0x22, 0x23, 0xb0, 0x03, 0x61, 0xa3, 0x96, 0x17, 0x7a, 0x9c, 0xb4, 0x10, 0xff, 0x61, 0xf2, 0x00, 0x15, 0xad] := by kernel_rfl
end Go.Proofs.YtikmfaeiecpncaaDoor
