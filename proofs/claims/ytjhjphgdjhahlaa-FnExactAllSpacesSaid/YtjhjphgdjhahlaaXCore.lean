/- Plain facts about sets of at most seven items, told as numbers below 128, and families of them. No program. -/
import Derived.Laws.BitsLemmas
import Derived.Test.YtjhjphgdjhahlaaWWords
import Derived.Test.YtjhjphgdjhahlaaWMore
-- plain
namespace Go.Proofs.Ytjhjphgdjhahlaa.P
open Go.RowKit Go.Proofs.YtjhjphgdjhahlaaW.PrintWords Go.Proofs.YtjhjphgdjhahlaaW.PrintLast Go.Proofs.YtjhjphgdjhahlaaW.PrintMore

def upd (F : Nat → Bool) (i : Nat) (b : Bool) : Nat → Bool := fun j => if j = i then b else F j
/-- the family of a list of sets -/
def famOf (l : List Int) : Nat → Bool := fun x => decide ((x : Int) ∈ l)

theorem famOf_snoc (l : List Int) (i : Nat) (h : i < l.length) (h0 : 0 ≤ l[i]) : ∀ j, upd (famOf (l.take i)) (l[i]).toNat true j = famOf (l.take (i+1)) j := by
  intro j
  rw [List.take_succ_eq_append_getElem h]
  simp only [upd, famOf, List.mem_append, List.mem_singleton]
  by_cases e : j = (l[i]).toNat
  · subst e; simp [Int.toNat_of_nonneg h0]
  · have : ¬ (j : Int) = l[i] := by omega
    simp [e, this]

/-- the items of a set, increasing -/
def itemsOf (x : Nat) : List Nat := (List.range 7).filter fun i => x.testBit i
def ints (l : List Nat) : List Int := l.map fun (i : Nat) => (i : Int)
/-- a set without an item; with an item -/
def wout (x i : Nat) : Nat := x &&& (127 - 2 ^ i)
def wth (x i : Nat) : Nat := x ||| 2 ^ i
def innerF (F : Nat → Bool) (x : Nat) (l : List Nat) : Nat := l.foldl (fun o i => if F (wout x i) then wth o i else o) 0
def inner (F : Nat → Bool) (x : Nat) : Nat := innerF F x (itemsOf x)
def outerF (F : Nat → Bool) (x : Nat) (l : List Nat) : Nat := l.foldl (fun o i => if x.testBit i then o else if F (wth x i) then wth o i else o) 0
def outer (F : Nat → Bool) (x : Nat) : Nat := outerF F x (List.range 7)
theorem innerF_snoc (F : Nat → Bool) (x : Nat) (l : List Nat) (i : Nat) : innerF F x (l ++ [i]) = if F (wout x i) then wth (innerF F x l) i else innerF F x l := by
  simp [innerF]
theorem outerF_succ (F : Nat → Bool) (x : Nat) (k : Nat) : outerF F x (List.range (k + 1)) = if x.testBit k then outerF F x (List.range k) else if F (wth x k) then wth (outerF F x (List.range k)) k else outerF F x (List.range k) := by
  simp [outerF, List.range_succ]
theorem wth_lt (x i : Nat) (hx : x < 128) (hi : i < 7) : wth x i < 128 := by
  unfold wth; exact Nat.or_lt_two_pow (n := 7) hx (Nat.pow_lt_pow_right (by omega) hi)
theorem wout_lt (x i : Nat) (hx : x < 128) : wout x i < 128 := by
  unfold wout; exact Nat.lt_of_le_of_lt Nat.and_le_left hx
theorem innerF_lt (F : Nat → Bool) (x : Nat) (l : List Nat) (hl : ∀ i ∈ l, i < 7) : innerF F x l < 128 := by
  unfold innerF
  have : ∀ (l : List Nat) (o : Nat), (∀ i ∈ l, i < 7) → o < 128 → l.foldl (fun o i => if F (wout x i) then wth o i else o) o < 128 := by
    intro l
    induction l with
    | nil => intro o _ h; exact h
    | cons a l ih =>
      intro o hl ho
      simp only [List.foldl_cons]
      apply ih _ (fun i hi => hl i (by simp [hi]))
      split
      · exact wth_lt _ _ ho (hl a (by simp))
      · exact ho
  exact this l 0 hl (by omega)
theorem outerF_lt (F : Nat → Bool) (x : Nat) (k : Nat) (hk : k ≤ 7) : outerF F x (List.range k) < 128 := by
  induction k with
  | zero => simp [outerF]
  | succ k ih =>
    rw [outerF_succ]
    have := ih (by omega)
    split
    · exact this
    · split
      · exact wth_lt _ _ this (by omega)
      · exact this
theorem inner_lt (F : Nat → Bool) (x : Nat) : inner F x < 128 := innerF_lt F x _ (by intro i hi; simp [itemsOf] at hi; exact hi.1)
theorem outer_lt (F : Nat → Bool) (x : Nat) : outer F x < 128 := outerF_lt F x 7 (by omega)

/-! How Go's operations tell these. -/
theorem shl_one (i : Nat) (hi : i < 8) : shl .i64 1 (i : Int) = ((2 ^ i : Nat) : Int) := by
  revert i; decide +kernel
theorem go_shr (x i : Nat) (hx : x < 128) (hi : i < 8) : shr .i64 (x : Int) (i : Int) = ((x >>> i : Nat) : Int) := by
  have : ∀ x, x < 128 → ∀ i, i < 8 → shr .i64 ((x : Nat) : Int) ((i : Nat) : Int) = ((x >>> i : Nat) : Int) := by decide +kernel
  exact this x hx i hi
theorem go_bit (x i : Nat) (hx : x < 128) (hi : i < 8) : (Go.bits .and .i64 (shr .i64 (x : Int) (i : Int)) 1) = if x.testBit i then 1 else 0 := by
  have : ∀ x, x < 128 → ∀ i, i < 8 → (Go.bits .and .i64 (shr .i64 ((x : Nat) : Int) ((i : Nat) : Int)) 1) = if x.testBit i then 1 else 0 := by decide +kernel
  exact this x hx i hi
theorem go_wth (x i : Nat) (hx : x < 128) (hi : i < 7) : Go.bits .or .i64 (x : Int) ((2 ^ i : Nat) : Int) = ((wth x i : Nat) : Int) := by
  have : ∀ x, x < 128 → ∀ i, i < 7 → Go.bits .or .i64 ((x : Nat) : Int) ((2 ^ i : Nat) : Int) = ((wth x i : Nat) : Int) := by decide +kernel
  exact this x hx i hi
theorem go_wout (x i : Nat) (hx : x < 128) (hi : i < 7) : Go.bits .andNot .i64 (x : Int) ((2 ^ i : Nat) : Int) = ((wout x i : Nat) : Int) := by
  have : ∀ x, x < 128 → ∀ i, i < 7 → Go.bits .andNot .i64 ((x : Nat) : Int) ((2 ^ i : Nat) : Int) = ((wout x i : Nat) : Int) := by decide +kernel
  exact this x hx i hi
set_option maxRecDepth 100000 in
theorem go_or (x y : Nat) (hx : x < 128) (hy : y < 128) : Go.bits .or .i64 (x : Int) (y : Int) = ((x ||| y : Nat) : Int) := by
  have : ∀ x, x < 128 → ∀ y, y < 128 → Go.bits .or .i64 ((x : Nat) : Int) ((y : Nat) : Int) = ((x ||| y : Nat) : Int) := by decide +kernel
  exact this x hx y hy
/-- '1 << a' by a letter. -/
theorem bit_letter (a : Nat) (ha : a < 8) : ∃ p : Int, IntKind.i64.wrap (2 ^ a) = p ∧ wrap64 (2 ^ a) = p ∧ p = ((2 ^ a : Nat) : Int) := by
  have h : ∀ a, a < 8 → IntKind.i64.wrap (2 ^ (a : Nat)) = ((2 ^ a : Nat) : Int) ∧ wrap64 (2 ^ a) = ((2 ^ a : Nat) : Int) := by decide +kernel
  exact ⟨_, (h a ha).1, (h a ha).2, rfl⟩
/-- 'x >> i & 1' by a letter. -/
theorem shr_letter (x i : Nat) (hx : x < 128) (hi : i < 8) : ∃ s : Int, (x : Int) / 2 ^ i = s ∧ Go.bits .and .i64 s 1 = if x.testBit i then 1 else 0 := by
  refine ⟨_, rfl, ?_⟩
  have := go_bit x i hx hi
  have e : shr .i64 (x : Int) (i : Int) = (x : Int) / 2 ^ i := by
    unfold shr; rw [Nat.min_eq_left (by simp [IntKind.bits]; omega)]; simp
  rw [e] at this; exact this
/-- the sets of a family, increasing -/
def setsUpto (F : Nat → Bool) (k : Nat) : List Nat := (List.range k).filter F
def setsOf (F : Nat → Bool) : List Nat := setsUpto F 128
theorem setsUpto_succ (F : Nat → Bool) (k : Nat) : setsUpto F (k + 1) = if F k then setsUpto F k ++ [k] else setsUpto F k := by
  unfold setsUpto; rw [List.range_succ, List.filter_append]; cases h : F k <;> simp [h]
theorem setsUpto_len (F : Nat → Bool) (k : Nat) : (setsUpto F k).length ≤ k := by
  have := List.length_filter_le F (List.range k); simpa [setsUpto] using this
/-- a set with other names -/
def renL (names : List Nat) (l : List Nat) (o : Nat) : Nat := l.foldl (fun o i => wth o (names[i]?.getD 0)) o
def renN (names : List Nat) (x : Nat) : Nat := renL names (itemsOf x) 0
theorem ints_len (l : List Nat) : (ints l).length = l.length := by simp [ints]
theorem rd_ints (l : List Nat) (i : Nat) : rd (ints l) (i : Int) = ((l[i]?.getD 0 : Nat) : Int) := by
  unfold rd ints
  rw [Int.toNat_natCast, List.getD_eq_getElem?_getD, List.getElem?_map]
  cases h : l[i]? <;> simp
theorem wrap_small {i : Int} (h0 : 0 ≤ i) (h : i < 9223372036854775807) : wrap64 (i + 1) = i + 1 := by unfold wrap64; omega
theorem itemsOf_mem {x i : Nat} (h : i ∈ itemsOf x) : i < 7 ∧ x.testBit i = true := by simpa [itemsOf] using h
theorem itemsOf_len (x : Nat) : (itemsOf x).length ≤ 7 := by
  have := List.length_filter_le (fun i => x.testBit i) (List.range 7); simpa [itemsOf] using this
theorem lt_of_testBit {x i n : Nat} (hx : x < 2 ^ n) (h : x.testBit i = true) : i < n := by
  apply Classical.byContradiction; intro hn
  have : x.testBit i = false := Nat.testBit_lt_two_pow (Nat.lt_of_lt_of_le hx (Nat.pow_le_pow_right (by omega) (by omega)))
  rw [this] at h; cases h
theorem renL_lt (names : List Nat) (hn : ∀ y ∈ names, y < 7) (l : List Nat) : ∀ o, o < 128 → renL names l o < 128 := by
  induction l with
  | nil => intro o h; exact h
  | cons a l ih =>
    intro o ho
    simp only [renL, List.foldl_cons]
    apply ih
    apply wth_lt _ _ ho
    cases h : names[a]? with
    | none => simp
    | some y => simpa using hn y (List.mem_of_getElem? h)
theorem renN_lt (names : List Nat) (hn : ∀ y ∈ names, y < 7) (x : Nat) : renN names x < 128 := renL_lt names hn _ 0 (by omega)
/-- what is renamed, of a list of sets -/
def renI (names : List Nat) (l : List Int) : List Int := l.map fun x => ((renN names x.toNat : Nat) : Int)
/-! Is a list of sets a space? As impl asks it. -/
def incOk (n : Nat) (l : List Int) (j : Nat) : Bool := decide (0 ≤ l[j]?.getD 0 ∧ l[j]?.getD 0 < 2 ^ n) && (decide (j = 0) || decide (l[j - 1]?.getD 0 < l[j]?.getD 0))
def orOk (F : Nat → Bool) (l : List Int) (x : Nat) : Bool := l.all fun y => F (x ||| y.toNat)
def rowOk (F : Nat → Bool) (l : List Int) (x : Int) : Bool := (decide (x = 0) || decide (inner F x.toNat ≠ 0)) && orOk F l x.toNat
def isSpN (n : Nat) (l : List Int) : Bool := decide (l.length ≤ 2 ^ n) && ((List.range l.length).all (incOk n l) && (famOf l 0 && (famOf l (2 ^ n - 1) && l.all (rowOk (famOf l) l))))
def isSpB (n : Int) (l : List Int) : Bool := if 1 ≤ n ∧ n ≤ 7 then isSpN n.toNat l else false
theorem all_range_false {p : Nat → Bool} {k i : Nat} (hi : i < k) (h : p i = false) : (List.range k).all p = false := by
  rw [List.all_eq_false]; exact ⟨i, by simpa using hi, by simp [h]⟩
theorem all_range_true {p : Nat → Bool} {k : Nat} (h : ∀ i, i < k → p i = true) : (List.range k).all p = true := by
  rw [List.all_eq_true]; intro i hi; exact h i (by simpa using hi)
theorem all_at_false {α : Type} {p : α → Bool} {l : List α} {i : Nat} (hi : i < l.length) (h : p l[i] = false) : l.all p = false := by
  rw [List.all_eq_false]; exact ⟨l[i], List.getElem_mem hi, by simp [h]⟩
theorem all_at_true {α : Type} {p : α → Bool} {l : List α} (h : ∀ i (hi : i < l.length), p l[i] = true) : l.all p = true := by
  rw [List.all_eq_true]; intro x hx
  obtain ⟨i, hi, rfl⟩ := List.getElem_of_mem hx
  exact h i hi
end Go.Proofs.Ytjhjphgdjhahlaa.P
