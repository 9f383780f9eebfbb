/- impl's 'spaces': what it makes. -/
import Derived.Test.YtjhjphgdjhahlaaQ0
import Derived.Test.YtjhjphgdjhahlaaXCmp
import Derived.Test.YtjhjphgdjhahlaaXCore
import Derived.Test.YtjhjphgdjhahlaaXGood
import Derived.Test.YtjhjphgdjhahlaaXSpacesL
namespace Go.Proofs.Ytjhjphgdjhahlaa.P
open Go.RowKit Go.Proofs.YtjhjphgdjhahlaaW.PrintWords Go.Proofs.YtjhjphgdjhahlaaW.PrintLast Go.Proofs.YtjhjphgdjhahlaaW.PrintMore
set_option linter.unusedVariables false

/-- the sets between that of no items and that of all, that a number tells -/
def midM (m k : Nat) : List Int := ((List.range k).filter (fun i => m.testBit i)).map fun i => ((i + 1 : Nat) : Int)
def setsM (n m : Nat) : List Int := [0] ++ midM m (2 ^ n - 2) ++ [((2 ^ n - 1 : Nat) : Int)]
def goodM (n m : Nat) : Bool := isSpB n (setsM n m)
def rawS (n c : Nat) : List S28 := ((List.range c).filter (goodM n)).map fun m => ⟨(n : Int), setsM n m⟩
def rawSpaces (n : Nat) : List S28 := rawS n (2 ^ (2 ^ n - 2))
theorem midM_succ (m i : Nat) : midM m (i + 1) = if m.testBit i then midM m i ++ [((i + 1 : Nat) : Int)] else midM m i := by
  unfold midM; rw [List.range_succ, List.filter_append]; cases h : m.testBit i <;> simp [h]
theorem midM_len (m i : Nat) : (midM m i).length ≤ i := by
  have := List.length_filter_le (fun i => m.testBit i) (List.range i); simpa [midM] using this
theorem rawS_succ (n c : Nat) : rawS n (c + 1) = rawS n c ++ if goodM n c then [⟨(n : Int), setsM n c⟩] else [] := by
  unfold rawS; rw [List.range_succ, List.filter_append]; cases h : goodM n c <;> simp [h]
theorem rawS_len (n c : Nat) : (rawS n c).length ≤ c := by
  have := List.length_filter_le (goodM n) (List.range c); simpa [rawS] using this
theorem rawS_f0 (n c : Nat) : ∀ x ∈ rawS n c, x.f0 = (n : Int) := by
  intro x hx
  simp only [rawS, List.mem_map] at hx
  obtain ⟨m, _, rfl⟩ := hx; rfl
theorem wraps_i64 (n : Int) (h0 : 0 ≤ n) (h1 : n < 2 ^ 60) : IntKind.i64.wrap n = n := by rw [IntKind.wrap_i64]; omega
theorem bit_one (m i : Nat) (hm : m < 2 ^ 60) (hi : i < 60) : Go.bits .and .i64 (shr .i64 (m : Int) (i : Int)) 1 = if m.testBit i then 1 else 0 := by
  have e : shr .i64 (m : Int) (i : Int) = ((m / 2 ^ i : Nat) : Int) := by
    unfold shr; rw [Nat.min_eq_left (by simp [IntKind.bits]; omega)]; simp
  have hlt : m / 2 ^ i < 2 ^ 60 := Nat.lt_of_le_of_lt (Nat.div_le_self _ _) hm
  have h := bits_mask .i64 60 (by decide) wraps_i64 1 (by decide) ((m / 2 ^ i : Nat) : Int) (Int.natCast_nonneg _) (by omega)
  rw [show ((2 : Int) ^ 1 - 1) = 1 from rfl, show ((2 : Int) ^ 1) = 2 from rfl] at h
  rw [e, h, Nat.testBit_eq_decide_div_mod_eq]
  by_cases hd : m / 2 ^ i % 2 = 1
  · simp only [hd, decide_true, if_true]; omega
  · simp only [hd, decide_false, Bool.false_eq_true, if_false]; omega
theorem pow_small (n : Nat) (h1 : 1 ≤ n) (h4 : n ≤ 4) : 2 ≤ 2 ^ n ∧ 2 ^ n ≤ 16 ∧ 1 ≤ 2 ^ (2 ^ n - 2) ∧ 2 ^ (2 ^ n - 2) ≤ 16384 := by
  have : ∀ n, n ≤ 4 → 1 ≤ n → 2 ≤ 2 ^ n ∧ 2 ^ n ≤ 16 ∧ 1 ≤ 2 ^ (2 ^ n - 2) ∧ 2 ^ (2 ^ n - 2) ≤ 16384 := by decide
  exact this n h4 h1

section
variable (n : Nat) (h1 : 1 ≤ n) (h4 : n ≤ 4)
include h1 h4
theorem spacesL_l1 (m : Nat) (hm : m < 16384) (l3 : List S28) (h3 : l3.length ≤ 16384) (x15 : Int) (r : List S28) (hq : Ev (fun k => spacesL.l0 k (n : Int) (l3 ++ if goodM n m then [⟨(n : Int), setsM n m⟩] else []) ((2 ^ n - 1 : Nat) : Int) x15 ((m + 1 : Nat) : Int)) r) :
    ∀ (j i : Nat), i + j = 2 ^ n - 2 → Ev (fun k => spacesL.l1 k (n : Int) l3 ((2 ^ n - 1 : Nat) : Int) (m : Int) ((i + 1 : Nat) : Int) x15 (m : Int) (n : Int) ([0] ++ midM m i)) r := by
  obtain ⟨p1, p2, _, _⟩ := pow_small n h1 h4
  intro j
  induction j with
  | zero =>
    intro i hi
    obtain rfl : i = 2 ^ n - 2 := by omega
    refine Ev.step (fun k => spacesL.l1.eq_2 _ _ _ _ _ _ _ _ _ k) ?_
    have hlen : ([0] ++ midM m (2 ^ n - 2)).length < 17592186044416 := by have := midM_len m (2 ^ n - 2); simp; omega
    have ew : wrap64 ((m : Int) + 1) = ((m + 1 : Nat) : Int) := by rw [wrap_small (by omega) (by omega)]; omega
    refine Ev.neg (by omega) (Ev.pos hlen ?_)
    simp only [Option.bind_some, ew]
    refine Ev.bind (a := goodM n m) (Ev.now _) ?_
    cases hg : goodM n m with
    | true =>
      rw [hg] at hq
      refine Ev.pos rfl (Ev.pos (by omega) ?_)
      exact hq
    | false =>
      rw [hg] at hq
      refine Ev.neg (by simp) ?_
      simpa using hq
  | succ j ih =>
    intro i hi
    refine Ev.step (fun k => spacesL.l1.eq_2 _ _ _ _ _ _ _ _ _ k) ?_
    have e1 : wrap64 (((i + 1 : Nat) : Int) - 1) = (i : Int) := by unfold wrap64; omega
    have e2 : wrap64 (((i + 1 : Nat) : Int) + 1) = ((i + 1 + 1 : Nat) : Int) := by unfold wrap64; omega
    have hlen : ([0] ++ midM m i).length < 17592186044416 := by have := midM_len m i; simp; omega
    have h2 := ih (i + 1) (by omega)
    rw [midM_succ] at h2
    simp only [e1, e2, bit_one m i (by omega) (by omega)]
    refine Ev.pos (by omega) (Ev.pos (by omega) ?_)
    cases hb : m.testBit i with
    | true =>
      rw [hb] at h2
      refine Ev.pos (by simp) (Ev.pos hlen ?_)
      simpa using h2
    | false =>
      rw [hb] at h2
      refine Ev.neg (by simp) ?_
      simpa using h2
theorem spacesL_l0 : ∀ (j c : Nat), c + j = 2 ^ (2 ^ n - 2) → Ev (fun k => spacesL.l0 k (n : Int) (rawS n c) ((2 ^ n - 1 : Nat) : Int) ((2 ^ (2 ^ n - 2) : Nat) : Int) (c : Int)) (rawSpaces n) := by
  obtain ⟨p1, p2, p3, p4⟩ := pow_small n h1 h4
  intro j
  induction j with
  | zero =>
    intro c hc
    obtain rfl : c = 2 ^ (2 ^ n - 2) := by omega
    refine Ev.step (fun k => spacesL.l0.eq_2 _ _ _ _ _ k) (Ev.neg (by omega) (Ev.now _))
  | succ j ih =>
    intro c hc
    refine Ev.step (fun k => spacesL.l0.eq_2 _ _ _ _ _ k) (Ev.pos (by omega) ?_)
    have h2 := ih (c + 1) (by omega)
    rw [rawS_succ] at h2
    have := spacesL_l1 n h1 h4 c (by omega) (rawS n c) (by have := rawS_len n c; omega) _ _ h2 (2 ^ n - 2) 0 (by omega)
    exact this
theorem spacesL_pure : Ev (fun k => spacesL.f k (n : Int)) (rawSpaces n) := by
  have hf : ∀ n, n ≤ 4 → 1 ≤ n → 0 ≤ IntKind.u64.wrap ((shl .u64 1 ((n : Nat) : Int)) - 2) ∧ wrap64 ((shl .i64 1 (n : Int)) - 1) = ((2 ^ n - 1 : Nat) : Int) ∧ shl .i64 1 (IntKind.u64.wrap ((shl .u64 1 (n : Int)) - 2)) = ((2 ^ (2 ^ n - 2) : Nat) : Int) := by decide +kernel
  obtain ⟨q1, q2, q3⟩ := hf n h4 h1
  refine Ev.congr (fun k => spacesL.f.eq_1 k _) (Ev.pos (by omega) (Ev.pos q1 ?_))
  rw [q2, q3]
  exact spacesL_l0 n h1 h4 (2 ^ (2 ^ n - 2)) 0 (by omega)
theorem rawSpaces_ne : rawSpaces n ≠ [] := by
  have hf : ∀ n, n ≤ 4 → 1 ≤ n → goodM n (2 ^ (2 ^ n - 2) - 1) = true := by decide +kernel
  have hg := hf n h4 h1
  obtain ⟨p1, p2, p3, p4⟩ := pow_small n h1 h4
  have : (⟨(n : Int), setsM n (2 ^ (2 ^ n - 2) - 1)⟩ : S28) ∈ rawSpaces n := by
    unfold rawSpaces rawS
    exact List.mem_map.2 ⟨_, List.mem_filter.2 ⟨by simp; omega, hg⟩, rfl⟩
  intro h; rw [h] at this; cases this
theorem rawSpaces_f1 : ∀ x ∈ rawSpaces n, x.f1.length < 4611686018427387904 := by
  obtain ⟨p1, p2, p3, p4⟩ := pow_small n h1 h4
  intro x hx
  simp only [rawSpaces, rawS, List.mem_map] at hx
  obtain ⟨m, _, rfl⟩ := hx
  have := midM_len m (2 ^ n - 2)
  simp [setsM]; omega
end
def leS (a b : S28) : Bool := decide (cmpL a.f1 b.f1 ≤ 0)
/-- all spaces of so many items, in order -/
def allSp (n : Nat) : List S28 := (rawSpaces n).mergeSort leS
theorem leS_trans (a b c : S28) (h : leS a b = true) (h' : leS b c = true) : leS a c = true := by
  simp only [leS, decide_eq_true_eq] at *
  exact (cmpL_trans _ _ _ h h').1
theorem leS_total (a b : S28) : (leS a b || leS b a) = true := by
  simp only [leS, Bool.or_eq_true, decide_eq_true_eq]
  have := cmpL_neg a.f1 b.f1; omega
theorem sorted_is {n c : Nat} {xs ys : List S28} (hp : xs.Perm ys) (hx : xs.Pairwise (fun a b => leS a b = true)) (hy : ys.Pairwise (fun a b => leS a b = true)) (hn : ∀ x ∈ xs, x.f0 = (n : Int)) : xs = ys := by
  refine List.Perm.eq_of_pairwise (le := fun a b => leS a b = true) ?_ hx hy hp
  intro a b ha hb h1 h2
  simp only [leS, decide_eq_true_eq] at h1 h2
  have := cmpL_neg a.f1 b.f1
  have e : a.f1 = b.f1 := cmpL_eq (by omega)
  have e0 : a.f0 = b.f0 := (hn a ha).trans (hn b (hp.mem_iff.2 hb)).symm
  cases a; cases b; simp_all
def impl_spaces.f (a0 : Int) : Option (List S28) := if 1 ≤ a0 ∧ a0 ≤ 4 then some (allSp a0.toNat) else none
theorem impl_spaces.calls (a0 : Int) (r : List S28) (w : World) (h : impl_spaces.f a0 = some r) :
    Calls Try.prog 85 #[.int .i64 a0] w fun e w' => ∃ v0_ : Value, e = .returned (v0_) ∧ Kd.S k28 28 w' w.heap.size (fun _ => True) v0_ r ∧ Below w.heap.size w w' := by
  unfold impl_spaces.f at h
  by_cases ha : 1 ≤ a0 ∧ a0 ≤ 4
  · rw [if_pos ha] at h
    obtain rfl := Option.some.inj h
    obtain ⟨n, rfl⟩ : ∃ n : Nat, a0 = n := ⟨a0.toNat, by omega⟩
    have h1 : 1 ≤ n := by omega
    have h4 : n ≤ 4 := by omega
    rw [show ((n : Int)).toNat = n by omega]
    obtain ⟨k, hk⟩ := (spacesL_pure n h1 h4).rounds
    have hl : (rawSpaces n).length ≤ 16384 := Nat.le_trans (rawS_len _ _) (pow_small n h1 h4).2.2.2
    refine (spacesL.calls k (n : Int) _ w hk (rawSpaces_ne n h1 h4) (rawSpaces_f1 n h1 h4) (by omega)).mono ?_
    rintro e w' ⟨v, ys, rfl, hS, hb, hp, ho⟩
    refine ⟨v, rfl, ?_, hb⟩
    have : ys = allSp n := by
      refine sorted_is (n := n) (c := 0) (hp.trans (List.mergeSort_perm _ _).symm) ?_ (List.pairwise_mergeSort leS_trans leS_total _) (fun x hx => rawS_f0 n _ x (hp.mem_iff.1 hx))
      exact ho.imp (fun h => by simpa [leS] using h)
    rw [← this]; exact hS
  · rw [if_neg ha] at h; cases h
end Go.Proofs.Ytjhjphgdjhahlaa.P
