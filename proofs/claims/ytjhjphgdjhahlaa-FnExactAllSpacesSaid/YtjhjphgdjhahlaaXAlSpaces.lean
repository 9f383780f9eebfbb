/- spec's list of all spaces: the same as impl's, sorted. -/
import Derived.Test.YtjhjphgdjhahlaaQ0
import Derived.Test.YtjhjphgdjhahlaaQ1
import Derived.Test.YtjhjphgdjhahlaaQ4
import Derived.Test.YtjhjphgdjhahlaaXCmp
import Derived.Test.YtjhjphgdjhahlaaXFamily
import Derived.Test.YtjhjphgdjhahlaaXGood
import Derived.Test.YtjhjphgdjhahlaaXSpaces
namespace Go.Proofs.Ytjhjphgdjhahlaa.P
open Go.RowKit Go.Proofs.YtjhjphgdjhahlaaW.PrintWords Go.Proofs.YtjhjphgdjhahlaaW.PrintLast Go.Proofs.YtjhjphgdjhahlaaW.PrintMore
set_option linter.unusedVariables false

theorem alBefore_from (l m : List Int) (hl : l.length < 1152921504606846976) (hm : m.length < 1152921504606846976) : ∀ (j i : Nat), i + j = l.length → i ≤ m.length → Ev (fun k => spec_alBefore.l0 k l m (i : Int)) (decide (cmpL (l.drop i) (m.drop i) < 0)) := by
  intro j
  induction j with
  | zero =>
    intro i hi him
    refine Ev.step (fun k => spec_alBefore.l0.eq_2 _ _ _ k) (Ev.neg (by omega) ?_)
    refine Ev.step (fun k => spec_alBefore.j1.eq_2 _ _ _ _ k) (Ev.neg (by simp) (Ev.one ?_))
    rw [List.drop_eq_nil_of_le (by omega)]
    by_cases h : i < m.length
    · rw [List.drop_eq_getElem_cons h]; simp [cmpL]; omega
    · rw [List.drop_eq_nil_of_le (by omega)]; simp [cmpL]; omega
  | succ j ih =>
    intro i hi him
    have hi1 : i < l.length := by omega
    refine Ev.step (fun k => spec_alBefore.l0.eq_2 _ _ _ k) (Ev.pos (by omega) ?_)
    refine Ev.step (fun k => spec_alBefore.j1.eq_2 _ _ _ _ k) ?_
    rw [List.drop_eq_getElem_cons hi1]
    by_cases h : i < m.length
    · have e1 : rd l (i : Int) = l[i] := by unfold rd; simp [hi1]
      have e2 : rd m (i : Int) = m[i] := by unfold rd; simp [h]
      have ew : wrap64 ((i : Int) + 1) = ((i + 1 : Nat) : Int) := by unfold wrap64; omega
      refine Ev.pos (by simp; omega) (Ev.pos (by omega) (Ev.pos (by omega) (Ev.pos (by omega) ?_)))
      rw [List.drop_eq_getElem_cons h, e1, e2, ew]
      by_cases he : l[i] = m[i]
      · refine Ev.pos he ?_
        have := ih (i + 1) (by omega) (by omega)
        simpa [cmpL, he] using this
      · refine Ev.neg he (Ev.one ?_)
        have ec : cmpL (l[i] :: l.drop (i + 1)) (m[i] :: m.drop (i + 1)) = if l[i] < m[i] then -1 else if m[i] < l[i] then 1 else cmpL (l.drop (i + 1)) (m.drop (i + 1)) := rfl
        rw [decide_eq_decide, ec]
        by_cases hlt : l[i] < m[i]
        · rw [if_pos hlt]; omega
        · rw [if_neg hlt, if_pos (by omega)]; omega
    · refine Ev.neg (by simp; omega) (Ev.one ?_)
      rw [List.drop_eq_nil_of_le (show m.length ≤ i by omega)]
      simp [cmpL]; omega
theorem alBefore_pure (l m : List Int) (hl : l.length < 1152921504606846976) (hm : m.length < 1152921504606846976) : Ev (fun k => spec_alBefore.f k l m) (decide (cmpL l m < 0)) := by
  have := alBefore_from l m hl hm l.length 0 (by omega) (by omega)
  exact Ev.congr (fun k => spec_alBefore.f.eq_1 k _ _) (by simpa using this)

/-- all good ones so far, in order -/
def upS (n c : Nat) : List S28 := (rawS n c).mergeSort leS
theorem upS_len (n c : Nat) : (upS n c).length ≤ c := by unfold upS; rw [List.length_mergeSort]; exact rawS_len n c
theorem upS_mem {n c : Nat} {x : S28} (h : x ∈ upS n c) : x ∈ rawS n c := (List.mergeSort_perm _ _).mem_iff.1 h
theorem upS_sorted (n c : Nat) : (upS n c).Pairwise (fun a b => leS a b = true) := List.pairwise_mergeSort leS_trans leS_total _
theorem rawS_f1 {n c : Nat} (h1 : 1 ≤ n) (h4 : n ≤ 4) : ∀ x ∈ rawS n c, x.f1.length ≤ 16 := by
  intro x hx
  simp only [rawS, List.mem_map] at hx
  obtain ⟨m, _, rfl⟩ := hx
  exact (setsM_len n m h1 h4).1
theorem upS_put (n c i : Nat) (s : S28) (hi : i ≤ (upS n c).length) (hs : s.f0 = (n : Int)) (hg : rawS n (c + 1) = rawS n c ++ [s]) (hb : ∀ j (h : j < (upS n c).length), i ≤ j → cmpL s.f1 (upS n c)[j].f1 < 0) (ha : i = 0 ∨ ∃ h : i - 1 < (upS n c).length, ¬ cmpL s.f1 (upS n c)[i - 1].f1 < 0) :
    (upS n c).take i ++ [s] ++ (upS n c).drop i = upS n (c + 1) := by
  have hp : ((upS n c).take i ++ [s] ++ (upS n c).drop i).Perm (rawS n (c + 1)) := by
    rw [hg]
    have h1 : ((upS n c).take i ++ [s] ++ (upS n c).drop i).Perm ((upS n c).take i ++ (upS n c).drop i ++ [s]) := by
      rw [List.append_assoc, List.append_assoc]
      exact List.Perm.append_left _ List.perm_append_comm
    rw [List.take_append_drop] at h1
    exact h1.trans ((List.mergeSort_perm _ _).append_right _)
  refine sorted_is (n := n) (c := 0) (hp.trans (List.mergeSort_perm _ _).symm) ?_ (upS_sorted n (c + 1)) (fun x hx => rawS_f0 n (c + 1) x (hp.mem_iff.1 hx))
  have hso := upS_sorted n c
  have hat : ∀ p q (hp : p < (upS n c).length) (hq : q < (upS n c).length), p ≤ q → leS (upS n c)[p] (upS n c)[q] = true := fun p q hp hq h => by
    rcases Nat.lt_or_ge p q with h' | h'
    · exact List.pairwise_iff_getElem.1 hso p q hp hq h'
    · obtain rfl : p = q := by omega
      simp [leS, cmpL_self]
  rw [List.append_assoc, List.singleton_append, List.pairwise_append, List.pairwise_cons]
  refine ⟨hso.sublist (List.take_sublist _ _), ⟨?_, hso.sublist (List.drop_sublist _ _)⟩, ?_⟩
  · intro x hx
    obtain ⟨j, hj, rfl⟩ := List.getElem_of_mem hx
    rw [List.getElem_drop]
    have := hb (i + j) (by simp at hj; omega) (by omega)
    simp only [leS, decide_eq_true_eq]; omega
  · intro x hx y hy
    obtain ⟨j, hj, rfl⟩ := List.getElem_of_mem hx
    have hj2 : j < i ∧ j < (upS n c).length := by simp at hj; omega
    rw [List.getElem_take]
    have hxs : leS (upS n c)[j] s = true := by
      rcases ha with rfl | ⟨h, hn⟩
      · omega
      · refine leS_trans _ _ _ (hat j (i - 1) hj2.2 h (by omega)) ?_
        have := cmpL_neg s.f1 (upS n c)[i - 1].f1
        simp only [leS, decide_eq_true_eq]; omega
    rcases List.mem_cons.1 hy with rfl | hy
    · exact hxs
    · obtain ⟨q, hq, rfl⟩ := List.getElem_of_mem hy
      rw [List.getElem_drop]
      exact hat j (i + q) hj2.2 (by simp at hq; omega) (by omega)

section
variable (n : Nat) (h1 : 1 ≤ n) (h4 : n ≤ 4)
include h1 h4
set_option linter.unusedSectionVars false
theorem alSpaces_l2 (c : Nat) (hc : c < 16384) (hg : goodM n c = true) (r : List S28) (hq : Ev (fun k => spec_alSpaces.l0 k (n : Int) ((2 ^ n - 1 : Nat) : Int) (upS n (c + 1)) ((c + 1 : Nat) : Int)) r) :
    ∀ (i : Nat), i ≤ (upS n c).length → (∀ j (h : j < (upS n c).length), i ≤ j → cmpL (setsM n c) (upS n c)[j].f1 < 0) → Ev (fun k => spec_alSpaces.l2 k (n : Int) ((2 ^ n - 1 : Nat) : Int) (upS n c) (c : Int) (i : Int) (n : Int) (setsM n c)) r := by
  have hlen := upS_len n c
  have hraw : rawS n (c + 1) = rawS n c ++ [⟨(n : Int), setsM n c⟩] := by rw [rawS_succ, hg]; rfl
  have ew : wrap64 ((c : Int) + 1) = ((c + 1 : Nat) : Int) := by unfold wrap64; omega
  -- the end, wherever it comes
  have hend : ∀ i, i ≤ (upS n c).length → (∀ j (h : j < (upS n c).length), i ≤ j → cmpL (setsM n c) (upS n c)[j].f1 < 0) → (i = 0 ∨ ∃ h : i - 1 < (upS n c).length, ¬ cmpL (setsM n c) (upS n c)[i - 1].f1 < 0) →
      Ev (fun k => spec_alSpaces.l0 k (n : Int) ((2 ^ n - 1 : Nat) : Int) ([] ++ (upS n c).take i ++ [⟨(n : Int), setsM n c⟩] ++ (upS n c).drop i) (wrap64 ((c : Int) + 1))) r := fun i hi hb ha => by
    have e := upS_put n c i ⟨(n : Int), setsM n c⟩ hi rfl hraw hb ha
    rw [List.nil_append, e, ew]; exact hq
  intro i
  induction i with
  | zero =>
    intro hi hb
    refine Ev.step (fun k => spec_alSpaces.l2.eq_2 _ _ _ _ _ _ _ k) (Ev.neg (by omega) ?_)
    have := hend 0 hi hb (.inl rfl)
    simp only [Option.bind_some]
    refine Ev.pos (by omega) (Ev.pos (by omega) ?_)
    refine Ev.pos (by simp) (Ev.pos (by simp) (Ev.pos (by simp; omega) ?_))
    simpa using this
  | succ i ih =>
    intro hi hb
    have hil : i < (upS n c).length := by omega
    have e1 : wrap64 (((i + 1 : Nat) : Int) - 1) = (i : Int) := by unfold wrap64; omega
    have er : rd_T28 (upS n c) (i : Int) = (upS n c)[i] := by unfold rd_T28; simp [hil]
    have hs16 := (setsM_len n c h1 h4).1
    have hu16 := rawS_f1 h1 h4 _ (upS_mem (List.getElem_mem hil))
    refine Ev.step (fun k => spec_alSpaces.l2.eq_2 _ _ _ _ _ _ _ k) (Ev.pos (by omega) ?_)
    simp only [e1]
    refine Ev.pos (by omega) (Ev.pos (by omega) (Ev.bind (by rw [er]; exact alBefore_pure _ _ (by omega) (by omega)) ?_))
    by_cases hbf : cmpL (setsM n c) (upS n c)[i].f1 < 0
    · rw [show decide (cmpL (setsM n c) (upS n c)[i].f1 < 0) = true by simpa using hbf]
      refine Ev.pos rfl ?_
      exact ih (by omega) (fun j h hij => by
        rcases Nat.lt_or_ge i j with h' | h'
        · exact hb j h (by omega)
        · obtain rfl : j = i := by omega
          exact hbf)
    · rw [show decide (cmpL (setsM n c) (upS n c)[i].f1 < 0) = false by simpa using hbf]
      refine Ev.neg (by simp) ?_
      have := hend (i + 1) hi hb (.inr ⟨by omega, by simpa using hbf⟩)
      simp only [Option.bind_some]
      refine Ev.pos (by omega) (Ev.pos (by omega) ?_)
      refine Ev.pos (by simp; omega) (Ev.pos (by simp; omega) (Ev.pos (by simp; omega) ?_))
      rw [Int.toNat_natCast]
      exact this
theorem alSpaces_l1 (m : Nat) (hm : m < 16384) (r : List S28) (hq : Ev (fun k => spec_alSpaces.l0 k (n : Int) ((2 ^ n - 1 : Nat) : Int) (upS n (m + 1)) ((m + 1 : Nat) : Int)) r) :
    ∀ (j i : Nat), i + j = 2 ^ n - 2 → Ev (fun k => spec_alSpaces.l1 k (n : Int) ((2 ^ n - 1 : Nat) : Int) (upS n m) (m : Int) ((i + 1 : Nat) : Int) (n : Int) ([0] ++ midM m i)) r := by
  obtain ⟨p1, p2, _, _⟩ := pow_small n h1 h4
  intro j
  induction j with
  | zero =>
    intro i hi
    obtain rfl : i = 2 ^ n - 2 := by omega
    refine Ev.step (fun k => spec_alSpaces.l1.eq_2 _ _ _ _ _ _ _ k) ?_
    have hlen : ([0] ++ midM m (2 ^ n - 2)).length < 17592186044416 := by have := midM_len m (2 ^ n - 2); simp; omega
    have ew : wrap64 ((m : Int) + 1) = ((m + 1 : Nat) : Int) := by unfold wrap64; omega
    have hsl := setsM_len n m h1 h4
    refine Ev.neg (by omega) (Ev.pos hlen ?_)
    simp only [Option.bind_some]
    refine Ev.bind (alGood_pure n (by omega) (setsM n m) (setsM_rising n m h1) (setsM_in n m h1) (by omega) (by omega)) ?_
    change Ev (fun k => if goodM n m = true then _ else _) r
    cases hg : goodM n m with
    | true =>
      refine Ev.pos rfl ?_
      exact alSpaces_l2 n h1 h4 m hm hg r hq _ (Nat.le_refl _) (fun j h hj => by omega)
    | false =>
      refine Ev.neg (by simp) ?_
      have e : upS n (m + 1) = upS n m := by unfold upS; rw [rawS_succ, hg]; simp
      rw [e] at hq
      rw [ew]; exact hq
  | succ j ih =>
    intro i hi
    refine Ev.step (fun k => spec_alSpaces.l1.eq_2 _ _ _ _ _ _ _ k) ?_
    have e1 : wrap64 (((i + 1 : Nat) : Int) - 1) = (i : Int) := by unfold wrap64; omega
    have e2 : wrap64 (((i + 1 : Nat) : Int) + 1) = ((i + 1 + 1 : Nat) : Int) := by unfold wrap64; omega
    have hlen : ([0] ++ midM m i).length < 17592186044416 := by have := midM_len m i; simp; omega
    have h2 := ih (i + 1) (by omega)
    rw [midM_succ] at h2
    simp only [e1, e2]
    refine Ev.pos (by omega) (Ev.bind (by rw [spIn_nat m i (by omega)]; exact Ev.now _) ?_)
    cases hb : m.testBit i with
    | true =>
      rw [hb] at h2
      refine Ev.pos rfl (Ev.pos hlen ?_)
      simpa using h2
    | false =>
      rw [hb] at h2
      refine Ev.neg (by simp) ?_
      simpa using h2
theorem alSpaces_l0 : ∀ (j c : Nat), c + j = 2 ^ (2 ^ n - 2) → Ev (fun k => spec_alSpaces.l0 k (n : Int) ((2 ^ n - 1 : Nat) : Int) (upS n c) (c : Int)) (allSp n) := by
  obtain ⟨p1, p2, p3, p4⟩ := pow_small n h1 h4
  have hf : ∀ n, n ≤ 4 → 1 ≤ n → 0 ≤ wrap64 (((2 ^ n - 1 : Nat) : Int) - 1) ∧ shl .i64 1 (wrap64 (((2 ^ n - 1 : Nat) : Int) - 1)) = ((2 ^ (2 ^ n - 2) : Nat) : Int) := by decide +kernel
  obtain ⟨q1, q2⟩ := hf n h4 h1
  intro j
  induction j with
  | zero =>
    intro c hc
    obtain rfl : c = 2 ^ (2 ^ n - 2) := by omega
    exact Ev.step (fun k => spec_alSpaces.l0.eq_2 _ _ _ _ k) (Ev.pos q1 (Ev.neg (by rw [q2]; omega) (Ev.now _)))
  | succ j ih =>
    intro c hc
    refine Ev.step (fun k => spec_alSpaces.l0.eq_2 _ _ _ _ k) (Ev.pos q1 (Ev.pos (by rw [q2]; omega) ?_))
    exact alSpaces_l1 n h1 h4 c (by omega) _ (ih (c + 1) (by omega)) (2 ^ n - 2) 0 (by omega)
theorem alSpaces_pure : Ev (fun k => spec_alSpaces.f k (n : Int)) (allSp n) := by
  obtain ⟨q1, q2, q3⟩ := pow_wrap n (by omega)
  refine Ev.congr (fun k => spec_alSpaces.f.eq_1 k _) (Ev.pos (by omega) ?_)
  rw [q1, ← q3]
  have := alSpaces_l0 n h1 h4 (2 ^ (2 ^ n - 2)) 0 (Nat.zero_add _)
  simpa [upS, rawS] using this
end
end Go.Proofs.Ytjhjphgdjhahlaa.P
