/- A region that draws its order, its operations reading, making memory and calling, but for the last, which comes last: walked once, by what each operation's value is told of. -/
import Derived.Test.YtikmfaeiecpncaaDoorR
namespace Go.Proofs.YtikmfaeiecpncaaDoor
open Go Go.RowKit

def ordB (ops : Array Oper) : Bool := (List.range ops.size).all (fun i => ((ops[i]?).map fun o => o.after.all fun e => !Region.binds .any e || decide (e.on < i)).getD true)
def deps (ops : Array Oper) (i : Nat) : List Nat := match ops[i]? with
  | some o => (o.after.toList.filter (Region.binds .any)).map (·.on)
  | none => []
/-- All that operation i waits for, through others too. -/
def clo (ops : Array Oper) : Nat → List Nat → List Nat
  | 0, acc => acc
  | k + 1, acc => if acc.contains k then clo ops k (deps ops k ++ acc) else clo ops k acc
def ancs (ops : Array Oper) (i : Nat) : List Nat := clo ops i (deps ops i)
def Closed (ops : Array Oper) (d : Nat → Bool) : Prop := ∀ i, d i = true → ∀ j ∈ deps ops i, d j = true
theorem clo_sound {ops : Array Oper} {d : Nat → Bool} (hc : Closed ops d) : ∀ k acc, (∀ j ∈ acc, d j = true) → ∀ j ∈ clo ops k acc, d j = true
  | 0, _, h => h
  | k + 1, acc, h => by
    unfold clo
    split
    · rename_i hk
      refine clo_sound hc k _ fun j hj => ?_
      rcases List.mem_append.1 hj with h1 | h1
      · exact hc k (h k (by simpa using hk)) j h1
      · exact h j h1
    · exact clo_sound hc k acc h
theorem deps_of {ops : Array Oper} {i : Nat} {o : Oper} (ho : ops[i]? = some o) {d : Nat → Bool} (h : (o.after.all fun e => !Region.binds .any e || d e.on) = true) : ∀ j ∈ deps ops i, d j = true := by
  intro j hj
  simp only [deps, ho, List.mem_map, List.mem_filter] at hj
  obtain ⟨e, ⟨he, hb⟩, rfl⟩ := hj
  rw [Array.all_eq_true_iff_forall_mem] at h
  have := h e (by simpa using he)
  rw [hb] at this
  simpa using this
theorem ready_iff {md : Region.Mode} {ops : Array Oper} {listed : Array Bool} {i : Nat} : i ∈ Region.ready md ops listed ↔ i < ops.size ∧ listed.getD i true = false ∧ ∃ o, ops[i]? = some o ∧ (o.after.all fun e => !Region.binds md e || listed.getD e.on false) = true := by
  unfold Region.ready
  rw [List.mem_filter, List.mem_range]
  constructor
  · rintro ⟨h1, h2⟩
    simp only [Bool.and_eq_true, Bool.not_eq_true', Array.getElem?_eq_getElem h1, Option.map_some, Option.getD_some] at h2
    exact ⟨h1, h2.1, _, Array.getElem?_eq_getElem h1, h2.2⟩
  · rintro ⟨h1, h2, o, ho, h3⟩
    exact ⟨h1, by simp only [ho, h2, Option.map_some, Option.getD_some, h3, Bool.not_false, Bool.true_and]⟩
theorem ready_nil {ops : Array Oper} (hord : ordB ops = true) {listed : Array Bool} (hsz : listed.size = ops.size) (hr : Region.ready .any ops listed = []) : ∀ i, i < ops.size → listed.getD i false = true := by
  intro i hi
  induction i using Nat.strongRecOn with
  | _ i ih =>
    cases hl : listed.getD i false with
    | true => rfl
    | false =>
      exfalso
      have : i ∈ Region.ready .any ops listed := by
        refine ready_iff.2 ⟨hi, ?_, _, Array.getElem?_eq_getElem hi, ?_⟩
        · simp only [Array.getD, hsz, hi, dif_pos] at hl ⊢
          exact hl
        · have ho := List.all_eq_true.1 hord i (List.mem_range.2 hi)
          rw [Array.getElem?_eq_getElem hi] at ho
          simp only [Option.map_some, Option.getD_some] at ho
          rw [Array.all_eq_true_iff_forall_mem] at ho ⊢
          intro e hee
          have h1 := ho e hee
          cases hb : Region.binds .any e with
          | false => rfl
          | true =>
            rw [hb] at h1
            simp only [Bool.not_true, Bool.false_or, decide_eq_true_eq] at h1 ⊢
            exact ih e.on h1 (by omega)
      rw [hr] at this
      cases this

/-! ### The last operation, apart -/
def lastQ (P : Program) (ops : Array Oper) (o : Oper) (Q : Exit → Act → World → Prop) : Exit → Act → World → Prop
  | .normal, a, w => wpList P ops Q [o] a w
  | e, a, w => Q e a w
theorem lastQ_out {P : Program} {ops : Array Oper} {o : Oper} {Q : Exit → Act → World → Prop} : LetsOut (lastQ P ops o Q) ↔ LetsOut Q := Iff.rfl
theorem wp_lastQ {P : Program} {ops : Array Oper} {o o' : Oper} {Q : Exit → Act → World → Prop} {K : Act → World → Prop} {a : Act} {w : World} (h : o'.wp P a w K (lastQ P ops o Q)) : o'.wp P a w K Q := by
  unfold Oper.wp at *
  generalize (execOp a.eval o').run P w = r at *
  cases r with
  | ok n w' =>
    cases n <;> simp only [Oper.upon] at h ⊢ <;>
      first
        | exact h
        | exact Calls.mono h (fun e w'' he => by cases e <;> exact he)
  | halt x w' => cases x <;> simp only [Oper.upon] at h ⊢ <;> exact h
/-- Guards look at what stands ahead. -/
def guardB (l : List Oper) : Bool := l.all fun o => match o.guard with
  | some (j, _) => decide (j < l.length)
  | none => true
theorem app_at (l : List Oper) (o : Oper) (i : Nat) (h : i < l.length) : (l ++ [o]).toArray[i]? = l.toArray[i]? := by
  simp [List.getElem?_append_left h]
theorem wanted_app {l : List Oper} {o oi : Oper} (hg : guardB l = true) (hm : oi ∈ l) (tmps : Array Value) : Region.wanted oi (yielded (l ++ [o]).toArray tmps) = Region.wanted oi (yielded l.toArray tmps) := by
  have h := List.all_eq_true.1 hg oi hm
  unfold Region.wanted
  cases hgd : oi.guard with
  | none => rfl
  | some p =>
    obtain ⟨j, b⟩ := p
    rw [hgd] at h
    simp only [decide_eq_true_eq] at h
    simp only [yielded, app_at l o j h]
def lastB (l : List Oper) (o : Oper) : Bool := ordB (l ++ [o]).toArray && guardB l && (List.range l.length).all fun i => (ancs (l ++ [o]).toArray l.length).contains i
theorem ord_app {l : List Oper} {o : Oper} (h : ordB (l ++ [o]).toArray = true) : ordB l.toArray = true := by
  refine List.all_eq_true.2 fun i hi => ?_
  have hi' : i < l.length := by simpa using hi
  have := List.all_eq_true.1 h i (by simp; omega)
  rwa [app_at l o i hi'] at this

theorem push_getD (listed : Array Bool) (i : Nat) (b : Bool) (h : i < listed.size) : (listed.push false).getD i b = listed.getD i b := by
  simp only [Array.getD_eq_getD_getElem?, Array.getElem?_push_lt h, Array.getElem?_eq_getElem h]
theorem push_set (listed : Array Bool) (i : Nat) (h : i < listed.size) : (listed.push false).setIfInBounds i true = (listed.setIfInBounds i true).push false := by
  apply Array.ext_getElem?
  intro j
  rw [Array.getElem?_setIfInBounds, Array.getElem?_push, Array.getElem?_push, Array.getElem?_setIfInBounds]
  simp only [Array.size_setIfInBounds]
  by_cases hij : i = j
  · subst hij
    rw [if_pos rfl, if_pos (by simp; omega), if_neg (by omega), if_pos rfl, if_pos h]
  · rw [if_neg hij, if_neg hij]
theorem set_getD (listed : Array Bool) (i j : Nat) (h : i < listed.size) : (listed.setIfInBounds i true).getD j false = upd (fun j => listed.getD j false) i j := by
  unfold upd
  simp only [Array.getD_eq_getD_getElem?]
  rw [Array.getElem?_setIfInBounds]
  split
  · rename_i hij; subst hij; simp
  · rename_i hij; rw [if_neg (fun e => hij e.symm)]
theorem closed_set {ops : Array Oper} {listed : Array Bool} {i : Nat} (hc : Closed ops fun j => listed.getD j false) (hi : i < listed.size) {o : Oper} (ho : ops[i]? = some o) (h : (o.after.all fun e => !Region.binds .any e || listed.getD e.on false) = true) :
    Closed ops fun j => (listed.setIfInBounds i true).getD j false := by
  intro k hk j hj
  simp only [set_getD _ _ _ hi, upd] at hk ⊢
  split
  · rfl
  · split at hk
    · rename_i hki; subst hki
      exact deps_of ho (d := fun j => listed.getD j false) h j hj
    · exact hc k hk j hj

theorem any_peel {P : Program} {l : List Oper} {o : Oper} {Q : Exit → Act → World → Prop} (hB : lastB l o = true) : ∀ (fuel : Nat) (listed : Array Bool) (a : Act) (w : World), listed.size = l.length → Closed l.toArray (fun j => listed.getD j false) →
    wpAny P .any l.toArray (lastQ P (l ++ [o]).toArray o Q) fuel listed a w → wpAny P .any (l ++ [o]).toArray Q (fuel + 1) (listed.push false) a w := by
  have hB' := hB
  simp only [lastB, Bool.and_eq_true] at hB'
  obtain ⟨⟨hord, hg⟩, hanc⟩ := hB'
  have hord1 := ord_app hord
  have hso : (l ++ [o]).toArray.size = l.length + 1 := by simp
  have hn : (l ++ [o]).toArray[l.length]? = some o := by simp
  have lt_of : ∀ i oi, l.toArray[i]? = some oi → i < l.length := fun i oi h => by
    rcases Nat.lt_or_ge i l.length with h' | h'
    · exact h'
    · simp [List.getElem?_eq_none h'] at h
  have edge : ∀ i oi, (l ++ [o]).toArray[i]? = some oi → i ≤ l.length → ∀ e ∈ oi.after, Region.binds .any e = true → e.on < i := by
    intro i oi hoi hi e he hb
    have := List.all_eq_true.1 hord i (List.mem_range.2 (by omega))
    rw [hoi] at this
    simp only [Option.map_some, Option.getD_some] at this
    rw [Array.all_eq_true_iff_forall_mem] at this
    have := this e he
    rw [hb] at this
    simpa using this
  have all_push : ∀ (listed : Array Bool) i oi, listed.size = l.length → (l ++ [o]).toArray[i]? = some oi → i ≤ l.length → (oi.after.all fun e => !Region.binds .any e || (listed.push false).getD e.on false) = (oi.after.all fun e => !Region.binds .any e || listed.getD e.on false) := by
    intro listed i oi hsz hoi hi
    rw [Bool.eq_iff_iff, Array.all_eq_true_iff_forall_mem, Array.all_eq_true_iff_forall_mem]
    constructor <;> intro h e he <;> have h1 := h e he <;> (cases hb : Region.binds .any e with
      | false => rfl
      | true =>
        have h2 := edge i oi hoi hi e he hb
        rw [hb] at h1
        simp only [Bool.not_true, Bool.false_or] at h1 ⊢
        rw [push_getD _ _ _ (by omega)] at *
        exact h1)
  -- all done: the last one is ready, and only that
  have fin : ∀ (fuel : Nat) (listed : Array Bool) (a : Act) (w : World), listed.size = l.length → (∀ i, i < l.length → listed.getD i false = true) → wpList P (l ++ [o]).toArray Q [o] a w → l.length ∈ Region.ready .any (l ++ [o]).toArray (listed.push false) ∧
      wpOp P (l ++ [o]).toArray Q l.length (wpAny P .any (l ++ [o]).toArray Q fuel ((listed.push false).setIfInBounds l.length true)) a w := by
    intro fuel listed a w hsz hall h
    have hdone : Region.ready .any (l ++ [o]).toArray ((listed.push false).setIfInBounds l.length true) = [] := by
      apply List.eq_nil_iff_forall_not_mem.2
      intro i hi
      obtain ⟨h1, h2, _⟩ := ready_iff.1 hi
      rw [hso] at h1
      simp only [Array.getD_eq_getD_getElem?, Array.getElem?_setIfInBounds] at h2
      by_cases hil : l.length = i
      · rw [if_pos hil, if_pos (by simp; omega)] at h2; cases h2
      · rw [if_neg hil, Array.getElem?_push_lt (by omega)] at h2
        have := hall i (by omega)
        simp only [Array.getD_eq_getD_getElem?, Array.getElem?_eq_getElem (show i < listed.size by omega), Option.getD_some] at this h2
        rw [this] at h2; cases h2
    constructor
    · refine ready_iff.2 ⟨by omega, ?_, o, hn, ?_⟩
      · simp [Array.getD_eq_getD_getElem?, ← hsz]
      · rw [all_push listed _ o hsz hn (Nat.le_refl _), Array.all_eq_true_iff_forall_mem]
        intro e he
        cases hb : Region.binds .any e with
        | false => rfl
        | true =>
          simp only [Bool.not_true, Bool.false_or]
          exact hall _ (edge _ o hn (Nat.le_refl _) e he hb)
    · unfold wpOp
      simp only [hn]
      have hk : ∀ a w, Q .normal a w → wpAny P .any (l ++ [o]).toArray Q fuel ((listed.push false).setIfInBounds l.length true) a w := by
        intro a w hq
        cases fuel with
        | zero => exact ⟨hdone, hq⟩
        | succ fuel => exact ⟨fun _ => hq, fun i hi => by rw [hdone] at hi; cases hi⟩
      unfold wpList at h
      split
      · rename_i hw; rw [if_pos hw] at h; exact h.imp (Oper.wp_mono hk) id
      · rename_i hw; rw [if_neg hw] at h; exact hk _ _ h
  have last_all : ∀ (listed : Array Bool), listed.size = l.length → Closed l.toArray (fun j => listed.getD j false) → l.length ∈ Region.ready .any (l ++ [o]).toArray (listed.push false) → ∀ i, i < l.length → listed.getD i false = true := by
    intro listed hsz hc hr i hi
    obtain ⟨_, _, o', ho', h3⟩ := ready_iff.1 hr
    obtain rfl := Option.some.inj (hn.symm.trans ho')
    rw [all_push listed _ _ hsz hn (Nat.le_refl _)] at h3
    have hc' : Closed (l ++ [o]).toArray (fun j => listed.getD j false) := by
      intro k hk j hj
      have hkl : k < l.length := by
        rcases Nat.lt_or_ge k l.length with h' | h'
        · exact h'
        · simp [Array.getD_eq_getD_getElem?, Array.getElem?_eq_none (show listed.size ≤ k by omega)] at hk
      refine hc k hk j ?_
      simpa only [deps, app_at l o k hkl] using hj
    have h4 := clo_sound hc' l.length _ (deps_of hn (d := fun j => listed.getD j false) h3)
    have h5 := List.all_eq_true.1 hanc i (List.mem_range.2 hi)
    exact h4 i (by simpa [ancs] using h5)
  intro fuel
  induction fuel with
  | zero =>
    intro listed a w hsz hc h
    obtain ⟨h0, hq⟩ := h
    have hall := ready_nil hord1 (listed := listed) (by simpa using hsz) h0
    obtain ⟨hr, hwp⟩ := fin 0 listed a w hsz (by simpa using hall) hq
    refine ⟨fun e => (by rw [e] at hr; cases hr), fun i hi => ?_⟩
    have hil : i = l.length := by
      obtain ⟨h1, h2, _⟩ := ready_iff.1 hi
      rw [hso] at h1
      rcases Nat.lt_or_ge i l.length with h' | h'
      · have := hall i (by simpa using h')
        rw [push_getD _ _ _ (by omega)] at h2
        simp only [Array.getD_eq_getD_getElem?, Array.getElem?_eq_getElem (show i < listed.size by omega), Option.getD_some] at this h2
        rw [this] at h2; cases h2
      · omega
    subst hil
    exact hwp
  | succ fuel ih =>
    intro listed a w hsz hc h
    obtain ⟨h0, h1⟩ := h
    have done : (∀ i, i < l.length → listed.getD i false = true) → wpList P (l ++ [o]).toArray Q [o] a w := fun hall => h0 (by
      apply List.eq_nil_iff_forall_not_mem.2
      intro i hi
      obtain ⟨h1, h2, _⟩ := ready_iff.1 hi
      have h1' : i < l.length := by simpa using h1
      have := hall i h1'
      simp only [Array.getD_eq_getD_getElem?, Array.getElem?_eq_getElem (show i < listed.size by omega), Option.getD_some] at this h2
      rw [this] at h2; cases h2)
    refine ⟨fun e => ?_, fun i hi => ?_⟩
    · exfalso
      have hr : Region.ready .any l.toArray listed = [] := by
        apply List.eq_nil_iff_forall_not_mem.2
        intro i hi
        obtain ⟨h1, h2, oi, hoi, h3⟩ := ready_iff.1 hi
        have h1' : i < l.length := by simpa using h1
        have : i ∈ Region.ready .any (l ++ [o]).toArray (listed.push false) := by
          refine ready_iff.2 ⟨by omega, by rw [push_getD _ _ _ (by omega)]; exact h2, oi, by rw [app_at l o i h1']; exact hoi, ?_⟩
          rw [all_push listed i oi hsz (by rw [app_at l o i h1']; exact hoi) (by omega)]
          exact h3
        rw [e] at this
        cases this
      have hall : ∀ i, i < l.length → listed.getD i false = true := by simpa using ready_nil hord1 (by simpa using hsz) hr
      have := (fin 0 listed a w hsz hall (done hall)).1
      rw [e] at this
      cases this
    · obtain ⟨hi1, hi2, oi, hoi, hi3⟩ := ready_iff.1 hi
      rw [hso] at hi1
      rcases Nat.lt_or_ge i l.length with h' | h'
      · rw [push_getD _ _ _ (by omega)] at hi2
        rw [all_push listed i oi hsz hoi (by omega)] at hi3
        rw [app_at l o i h'] at hoi
        have hm : oi ∈ l := List.mem_of_getElem? (by simpa using hoi)
        have h2 := h1 i (ready_iff.2 ⟨by simpa using h', hi2, oi, hoi, hi3⟩)
        have hK : ∀ a w, wpAny P .any l.toArray (lastQ P (l ++ [o]).toArray o Q) fuel (listed.setIfInBounds i true) a w → wpAny P .any (l ++ [o]).toArray Q (fuel + 1) ((listed.push false).setIfInBounds i true) a w := by
          intro a w hh
          rw [push_set _ _ (by omega)]
          exact ih _ a w (by simpa using hsz) (closed_set hc (by omega) hoi hi3) hh
        unfold wpOp at h2 ⊢
        rw [app_at l o i h']
        simp only [hoi] at h2 ⊢
        rw [wanted_app hg hm]
        split
        · rename_i hw; rw [if_pos hw] at h2
          exact h2.imp (fun h => wp_lastQ (Oper.wp_mono hK h)) id
        · rename_i hw; rw [if_neg hw] at h2; exact hK _ _ h2
      · obtain rfl : i = l.length := by omega
        have hall := last_all listed hsz hc hi
        exact (fin (fuel + 1) listed a w hsz hall (done hall)).2

theorem closed_none (ops : Array Oper) (n : Nat) : Closed ops fun j => (Array.replicate n false).getD j false := by
  intro i hi
  simp only [Array.getD_eq_getD_getElem?, Array.getElem?_replicate] at hi
  split at hi <;> cases hi
theorem region_peel {P : Program} {id : Nat} {l : List Oper} {o : Oper} {Q : Exit → Act → World → Prop} {a : Act} {w : World} (hm : P.follows .mixedOrders = true) (hB : lastB l o = true)
    (h : wpAny P .any l.toArray (lastQ P (l ++ [o]).toArray o Q) l.length (Array.replicate l.length false) a w.drew) : (Code.region id (l ++ [o]).toArray true).wp P Q a w := by
  refine wp_region_any hm ?_
  have := any_peel hB l.length _ a w.drew (by simp) (closed_none _ _) h
  have e : (Array.replicate l.length false).push false = Array.replicate (l ++ [o]).toArray.size false := by
    apply Array.ext_getElem?
    intro j
    simp only [Array.getElem?_push, Array.getElem?_replicate, Array.size_replicate, List.size_toArray, List.length_append, List.length_singleton]
    by_cases h1 : j = l.length
    · rw [if_pos h1, if_pos (by omega)]
    · rw [if_neg h1]
      by_cases h2 : j < l.length
      · rw [if_pos h2, if_pos (by omega)]
      · rw [if_neg h2, if_neg (by omega)]
  rw [e] at this
  simpa using this
/-- All read; the last writes. -/
theorem peel_quiet {P : Program} {id : Nat} {l : List Oper} {o : Oper} {Q : Exit → Act → World → Prop} {a : Act} {w : World} (hm : P.follows .mixedOrders = true) (hB : lastB l o = true) (hL : Region.lexB .any l.toArray = true)
    (h : wpQuiet P l.toArray (fun w' => ∃ n, w' = w.drewN n) (fun a' => ∀ w', (∃ n, w' = w.drewN n) → wpList P (l ++ [o]).toArray Q [o] a' w') l a) : (Code.region id (l ++ [o]).toArray true).wp P Q a w := by
  refine region_peel hm hB ?_
  simp only [Region.lexB, Bool.and_eq_true] at hL
  refine wpAny_of_quiet (C := fun w' => ∃ n, w' = w.drewN n) (Q := fun a' => ∀ w', (∃ n, w' = w.drewN n) → wpList P (l ++ [o]).toArray Q [o] a' w') (fun a w' hw' h => h w' hw') _ _ _ _ ⟨1, rfl⟩ ?_
  have := wpAnyQ_lex (C := fun w' => ∃ n, w' = w.drewN n) (md := .any) hL.1 l 0 (Array.replicate l.length false) a (by simp) (by simpa using hL.2) h
  simpa using this

/-! ### By what is told of each value -/
def fill : List Oper → Nat → (Nat → Value) → Act → Act
  | [], _, _, a => a
  | o :: l, k, x, a => fill l (k + 1) x (a.put o.dst (x k))
theorem fill_congr : ∀ (l : List Oper) (k : Nat) (x y : Nat → Value) (a : Act), (∀ j, k ≤ j → x j = y j) → fill l k x a = fill l k y a
  | [], _, _, _, _, _ => rfl
  | o :: l, k, x, y, a, h => by
    unfold fill
    rw [h k (Nat.le_refl _)]
    exact fill_congr l (k + 1) x y _ fun j hj => h j (by omega)
theorem fill_comm : ∀ (l : List Oper) (k : Nat) (x : Nat → Value) (a : Act) (d : Nat) (v : Value), d ∉ l.filterMap (·.dst) → (fill l k x a).put (some d) v = fill l k x (a.put (some d) v)
  | [], _, _, _, _, _, _ => rfl
  | o :: l, k, x, a, d, v, h => by
    unfold fill
    have h1 : d ∉ l.filterMap (·.dst) := fun hd => h (by rw [List.filterMap_cons]; split <;> simp [hd])
    rw [fill_comm l (k + 1) x _ d v h1]
    cases ho : o.dst with
    | none => rfl
    | some i =>
      have : i ≠ d := fun e => h (by rw [List.filterMap_cons, ho]; simp [e])
      rw [put_swap _ this]
theorem fill_put : ∀ (l : List Oper) (k : Nat) (x : Nat → Value) (a : Act), (l.filterMap (·.dst)).Nodup → ∀ (i : Nat) (oi : Oper) (v : Value), l[i]? = some oi → (fill l k x a).put oi.dst v = fill l k (fun j => if j = k + i then v else x j) a
  | [], _, _, _, _, i, oi, v, h => by simp at h
  | o :: l, k, x, a, hn, 0, oi, v, h => by
    obtain rfl : o = oi := by simpa using h
    unfold fill
    rw [fill_congr l (k + 1) (fun j => if j = k + 0 then v else x j) x _ (fun j hj => if_neg (by omega))]
    cases ho : o.dst with
    | none => rfl
    | some d =>
      rw [List.filterMap_cons, ho] at hn
      simp only [List.nodup_cons] at hn
      rw [fill_comm l _ _ _ d v hn.1, put_same]
      simp
  | o :: l, k, x, a, hn, i + 1, oi, v, h => by
    unfold fill
    have hn' : (l.filterMap (·.dst)).Nodup := by
      rw [List.filterMap_cons] at hn
      split at hn
      · exact hn
      · exact (List.nodup_cons.1 hn).2
    rw [fill_put l (k + 1) x _ hn' i oi v (by simpa using h)]
    show _ = fill l (k + 1) _ (a.put o.dst (if k = k + (i + 1) then v else x k))
    rw [if_neg (by omega)]
    exact fill_congr l (k + 1) _ _ _ fun j _ => by
      have : (j = k + 1 + i) ↔ (j = k + (i + 1)) := by omega
      simp only [this]
theorem put_self (a : Act) (o : Option Tmp) : ∃ v, a.put o v = a := by
  cases o with
  | none => exact ⟨undef, rfl⟩
  | some d =>
    refine ⟨a.tmps.getD d undef, ?_⟩
    obtain ⟨t, ds⟩ := a
    simp only [Act.put]
    congr 1
    apply Array.ext_getElem?
    intro j
    rw [Array.getElem?_setIfInBounds]
    split
    · rename_i hj; subst hj
      split
      · rename_i hlt; simp [Array.getElem?_eq_getElem hlt]
      · rename_i hlt; rw [Array.getElem?_eq_none (by omega)]
    · rfl
theorem fill_self : ∀ (l : List Oper) (k : Nat) (a : Act), ∃ x, fill l k x a = a
  | [], _, _ => ⟨fun _ => undef, rfl⟩
  | o :: l, k, a => by
    obtain ⟨v, hv⟩ := put_self a o.dst
    obtain ⟨x, hx⟩ := fill_self l (k + 1) a
    refine ⟨fun j => if j = k then v else x j, ?_⟩
    show fill l (k + 1) _ (a.put o.dst (if k = k then v else x k)) = a
    rw [if_pos rfl, hv, fill_congr l (k + 1) _ x a fun j hj => if_neg (by omega), hx]
def stepQ (Q : Exit → Act → World → Prop) (o : Oper) (S : World → Value → Prop) (w : World) (A : Act) : Exit → Act → World → Prop
  | .normal, a, w' => ∃ v, a = A.put o.dst v ∧ Below w.heap.size w w' ∧ S w' v
  | e, a, w' => Q e a w'
theorem wp_stepQ {P : Program} {o o' : Oper} {Q : Exit → Act → World → Prop} {S : World → Value → Prop} {K : Act → World → Prop} {A a : Act} {w w0 : World} (h : o'.wp P a w K (stepQ Q o S w0 A)) : o'.wp P a w K Q := by
  unfold Oper.wp at *
  generalize (execOp a.eval o').run P w = r at *
  cases r with
  | ok n w' =>
    cases n <;> simp only [Oper.upon] at h ⊢ <;>
      first
        | exact h
        | exact Calls.mono h (fun e w'' he => by cases e <;> exact he)
  | halt x w' => cases x <;> simp only [Oper.upon] at h ⊢ <;> exact h
def relB (l : List Oper) : Bool := ordB l.toArray && decide (l.filterMap (·.dst)).Nodup
theorem any_rel {P : Program} {l : List Oper} {Q : Exit → Act → World → Prop} {a0 : Act} {w0 : World} (spec : Nat → World → Value → Prop) (hB : relB l = true)
    (stable : ∀ i w w' v, spec i w v → Below w.heap.size w w' → spec i w' v)
    (hs : ∀ i oi, l[i]? = some oi → ∀ x w, Below w0.heap.size w0 w → (∀ j, (ancs l.toArray i).contains j = true → spec j w (x j)) →
      wpList P l.toArray (stepQ Q oi (spec i) w (fill l 0 x a0)) [oi] (fill l 0 x a0) w)
    (he : ∀ x w, Below w0.heap.size w0 w → (∀ j, j < l.length → spec j w (x j)) → Q .normal (fill l 0 x a0) w) :
    wpAny P .any l.toArray Q l.length (Array.replicate l.length false) a0 w0.drew := by
  simp only [relB, Bool.and_eq_true, decide_eq_true_eq] at hB
  obtain ⟨hord, hnd⟩ := hB
  have main : ∀ (fuel : Nat) (listed : Array Bool) (x : Nat → Value) (w : World), listed.size = l.length → listed.toList.count false ≤ fuel → Closed l.toArray (fun j => listed.getD j false) → Below w0.heap.size w0 w → (∀ j, listed.getD j false = true → spec j w (x j)) →
      wpAny P .any l.toArray Q fuel listed (fill l 0 x a0) w := by
    intro fuel
    induction fuel with
    | zero =>
      intro listed x w hsz hc hcl hb hI
      have hall : ∀ i, i < l.length → listed.getD i false = true := by
        intro i hi
        have hi' : i < listed.size := by omega
        have : (listed[i]'hi') ≠ false := by
          intro hf
          have : false ∈ listed.toList := by rw [← hf]; exact Array.getElem_mem_toList hi'
          have := List.count_pos_iff.2 this
          omega
        simp only [Array.getD, hi', dif_pos]
        cases hx : listed[i]'hi' with
        | true => exact hx
        | false => exact absurd hx this
      refine ⟨?_, he x w hb fun j hj => hI j (hall j hj)⟩
      apply List.eq_nil_iff_forall_not_mem.2
      intro i hi
      obtain ⟨h1, h2, _⟩ := ready_iff.1 hi
      have h1' : i < l.length := by simpa using h1
      have := hall i h1'
      simp only [Array.getD_eq_getD_getElem?, Array.getElem?_eq_getElem (show i < listed.size by omega), Option.getD_some] at this h2
      rw [this] at h2; cases h2
    | succ fuel ih =>
      intro listed x w hsz hc hcl hb hI
      refine ⟨fun hr => he x w hb fun j hj => hI j (ready_nil hord (by simpa using hsz) hr j (by simpa using hj)), ?_⟩
      intro i hi
      obtain ⟨h1, h2, oi, hoi, h3⟩ := ready_iff.1 hi
      have h1' : i < l.length := by simpa using h1
      have hi' : i < listed.size := by omega
      have hoi' : l[i]? = some oi := by simpa using hoi
      have hstep := hs i oi hoi' x w hb fun j hj => hI j (clo_sound hcl i _ (deps_of hoi (d := fun j => listed.getD j false) h3) j (by simpa [ancs] using hj))
      have hf : listed[i]'hi' = false := by
        simp only [Array.getD, hi', dif_pos] at h2
        exact h2
      have hnext : ∀ a w', (∃ v, a = (fill l 0 x a0).put oi.dst v ∧ Below w.heap.size w w' ∧ spec i w' v) → wpAny P .any l.toArray Q fuel (listed.setIfInBounds i true) a w' := by
        rintro a w' ⟨v, rfl, hb', hv⟩
        rw [fill_put l 0 x a0 hnd i oi v hoi']
        refine ih _ _ w' (by simp [hsz]) ?_ (closed_set hcl hi' hoi h3) (hb.trans ⟨hb'.os, hb'.tape, hb'.output, hb'.size, fun k hk => hb'.block k (Nat.lt_of_lt_of_le hk hb.size)⟩) ?_
        · have h2 : (listed.setIfInBounds i true).toList = listed.toList.set i true := by simp
          rw [h2]
          have hlt2 : i < listed.toList.length := by simpa using hi'
          have h3 := List.count_set (a := true) (b := false) hlt2
          rw [h3]
          have h4 : listed.toList[i] = false := by simpa using hf
          rw [h4]
          simp
          have : 0 < listed.toList.count false := List.count_pos_iff.2 (by rw [← h4]; exact List.getElem_mem hlt2)
          simp at this hc
          omega
        · intro j hj
          rw [set_getD _ _ _ hi'] at hj
          unfold upd at hj
          by_cases hji : j = i
          · subst hji; simp only [Nat.zero_add, if_true]; exact hv
          · rw [if_neg hji] at hj
            rw [if_neg (by omega)]
            exact stable j w w' _ (hI j hj) hb'
      unfold wpOp
      simp only [hoi]
      unfold wpList at hstep
      split
      · rename_i hw; rw [if_pos hw] at hstep
        exact hstep.imp (fun h => wp_stepQ (Oper.wp_mono hnext h)) id
      · rename_i hw; rw [if_neg hw] at hstep; exact hnext _ _ hstep
  obtain ⟨x, hx⟩ := fill_self l 0 a0
  have := main l.length (Array.replicate l.length false) x w0.drew (by simp) (by simp) (closed_none _ _) (below_drewN (Below.refl _ _) 1) (by
    intro j hj
    simp only [Array.getD_eq_getD_getElem?, Array.getElem?_replicate] at hj
    split at hj <;> cases hj)
  rwa [hx] at this

/-- The two together: each operation but the last by what is told of its value; then the last. -/
theorem region_rel {P : Program} {id : Nat} {l : List Oper} {o : Oper} {Q : Exit → Act → World → Prop} {a0 : Act} {w0 : World} (spec : Nat → World → Value → Prop) (hm : P.follows .mixedOrders = true) (hB : lastB l o = true) (hB2 : relB l = true)
    (stable : ∀ i w w' v, spec i w v → Below w.heap.size w w' → spec i w' v)
    (hs : ∀ i oi, l[i]? = some oi → ∀ x w, Below w0.heap.size w0 w → (∀ j, (ancs l.toArray i).contains j = true → spec j w (x j)) →
      wpList P l.toArray (stepQ (lastQ P (l ++ [o]).toArray o Q) oi (spec i) w (fill l 0 x a0)) [oi] (fill l 0 x a0) w)
    (he : ∀ x w, Below w0.heap.size w0 w → (∀ j, j < l.length → spec j w (x j)) → wpList P (l ++ [o]).toArray Q [o] (fill l 0 x a0) w) :
    (Code.region id (l ++ [o]).toArray true).wp P Q a0 w0 :=
  region_peel hm hB (any_rel spec hB2 stable hs he)

/-! ### Of a list that is written out -/
inductive Split : List Oper → List Oper → Oper → Prop
  | base (o : Oper) : Split [o] [] o
  | step {a : Oper} {L l : List Oper} {o : Oper} : Split L l o → Split (a :: L) (a :: l) o
theorem Split.eq {L l : List Oper} {o : Oper} (h : Split L l o) : L = l ++ [o] := by
  induction h with
  | base o => rfl
  | step _ ih => rw [ih]; rfl
theorem peel_quiet_lit {P : Program} {id : Nat} {L l : List Oper} {o : Oper} {Q : Exit → Act → World → Prop} {a : Act} {w : World} (hS : Split L l o) (hm : P.follows .mixedOrders = true) (hB : lastB l o = true) (hL : Region.lexB .any l.toArray = true)
    (h : wpQuiet P l.toArray (fun w' => ∃ n, w' = w.drewN n) (fun a' => ∀ w', (∃ n, w' = w.drewN n) → wpList P L.toArray Q [o] a' w') l a) : (Code.region id L.toArray true).wp P Q a w := by
  obtain rfl := hS.eq
  exact peel_quiet hm hB hL h
theorem region_rel_lit {P : Program} {id : Nat} {L l : List Oper} {o : Oper} {Q : Exit → Act → World → Prop} {a0 : Act} {w0 : World} (hS : Split L l o) (spec : Nat → World → Value → Prop) (hm : P.follows .mixedOrders = true) (hB : lastB l o = true) (hB2 : relB l = true)
    (stable : ∀ i w w' v, spec i w v → Below w.heap.size w w' → spec i w' v)
    (hs : ∀ i oi, l[i]? = some oi → ∀ x w, Below w0.heap.size w0 w → (∀ j, (ancs l.toArray i).contains j = true → spec j w (x j)) →
      wpList P l.toArray (stepQ (lastQ P L.toArray o Q) oi (spec i) w (fill l 0 x a0)) [oi] (fill l 0 x a0) w)
    (he : ∀ x w, Below w0.heap.size w0 w → (∀ j, j < l.length → spec j w (x j)) → wpList P L.toArray Q [o] (fill l 0 x a0) w) :
    (Code.region id L.toArray true).wp P Q a0 w0 := by
  obtain rfl := hS.eq
  exact region_rel spec hm hB hB2 stable hs he
end Go.Proofs.YtikmfaeiecpncaaDoor
