/- The plain law: spec's CountSpaces and impl's count the same. -/
import Derived.Test.YtjhjphgdjhahlaaQ0
import Derived.Test.YtjhjphgdjhahlaaQ1
import Derived.Test.YtjhjphgdjhahlaaQ3
import Derived.Test.YtjhjphgdjhahlaaQ5
import Derived.Test.YtjhjphgdjhahlaaXFamily
import Derived.Test.YtjhjphgdjhahlaaXGood
import Derived.Test.YtjhjphgdjhahlaaXSpaces
namespace Go.Proofs.Ytjhjphgdjhahlaa.Pure
open Go.RowKit Go.Proofs.Ytjhjphgdjhahlaa.P Go.Proofs.YtjhjphgdjhahlaaW.PrintWords Go.Proofs.YtjhjphgdjhahlaaW.PrintLast

theorem CountSpaces_l0 (n : Nat) (h1 : 1 ≤ n) (h4 : n ≤ 4) : ∀ (j c : Nat), c + j = 2 ^ (2 ^ n - 2) → Ev (fun k => spec_CountSpaces.l0 k ((rawS n c).length : Int) ((2 ^ n - 1 : Nat) : Int) (c : Int)) (((rawSpaces n).length : Int), true) := by
  obtain ⟨p1, p2, p3, p4⟩ := pow_small n h1 h4
  have hf : ∀ n, n ≤ 4 → 1 ≤ n → 0 ≤ wrap64 (((2 ^ n - 1 : Nat) : Int) - 1) ∧ shl .i64 1 (wrap64 (((2 ^ n - 1 : Nat) : Int) - 1)) = ((2 ^ (2 ^ n - 2) : Nat) : Int) := by decide +kernel
  obtain ⟨q1, q2⟩ := hf n h4 h1
  intro j
  induction j with
  | zero =>
    intro c hc
    obtain rfl : c = 2 ^ (2 ^ n - 2) := by omega
    refine Ev.step (fun k => spec_CountSpaces.l0.eq_2 _ _ _ k) (Ev.pos q1 (Ev.neg (by rw [q2]; omega) (Ev.now _)))
  | succ j ih =>
    intro c hc
    have hl := rawS_len n c
    have h2 := ih (c + 1) (by omega)
    rw [rawS_succ] at h2
    have e1 : wrap64 ((c : Int) + 1) = ((c + 1 : Nat) : Int) := by unfold wrap64; omega
    refine Ev.step (fun k => spec_CountSpaces.l0.eq_2 _ _ _ k) (Ev.pos q1 (Ev.pos (by rw [q2]; omega) (Ev.bind (alFamily_pure n h1 h4 c (by omega)) ?_)))
    simp only [e1]
    cases hg : goodM n c with
    | true =>
      rw [hg] at h2
      refine Ev.pos rfl ?_
      have e2 : wrap64 (((rawS n c).length : Int) + 1) = (((rawS n c).length + 1 : Nat) : Int) := by unfold wrap64; omega
      rw [e2]
      simpa using h2
    | false =>
      rw [hg] at h2
      refine Ev.neg (by simp) ?_
      simpa using h2
theorem FnExactCountSpaces : laws_FnExactCountSpaces.Pure := by
  intro a0 _
  apply Ev.rounds
  refine Ev.congr (fun k => laws_FnExactCountSpaces.f.eq_1 k _) ?_
  by_cases ha : 1 ≤ a0 ∧ a0 ≤ 4
  · obtain ⟨n, rfl⟩ : ∃ n : Nat, a0 = n := ⟨a0.toNat, by omega⟩
    have h1 : 1 ≤ n := by omega
    have h4 : n ≤ 4 := by omega
    have hw : impl_within.f (n : Int) 1 4 = some true := by unfold impl_within.f; rw [if_pos (by omega)]; congr 1; rw [decide_eq_true_eq]; omega
    have hi : spec_l1In.f (n : Int) 1 4 = some true := by unfold spec_l1In.f; rw [if_pos (by omega)]; congr 1; rw [decide_eq_true_eq]; omega
    obtain ⟨q1, q2, q3⟩ := pow_wrap n (by omega)
    refine Ev.bind (a := (((rawSpaces n).length : Int), true)) ?_ ?_
    · refine Ev.congr (fun k => spec_CountSpaces.f.eq_1 k _) ?_
      rw [hi]
      refine Ev.bind (Ev.now _) ?_
      refine Ev.pos rfl (Ev.pos (by omega) ?_)
      rw [q1, ← q3]
      exact CountSpaces_l0 n h1 h4 _ 0 (Nat.zero_add _)
    · have e : impl_CountSpaces.f (n : Int) = some (((rawSpaces n).length : Int), true) := by
        unfold impl_CountSpaces.f impl_spaces.f
        rw [hw]
        simp only [Option.bind_some, if_true]
        rw [if_pos (by omega), show ((n : Int)).toNat = n by omega]
        simp [allSp]
      simp only [e, Option.bind_some, bne_self_eq_false, Bool.false_eq_true, if_false, if_true]
      exact Ev.now _
  · have hw : impl_within.f a0 1 4 = some false := by
      unfold impl_within.f; split
      · congr 1; rw [decide_eq_false_iff_not]; omega
      · rfl
    have hi : spec_l1In.f a0 1 4 = some false := by
      unfold spec_l1In.f; split
      · congr 1; rw [decide_eq_false_iff_not]; omega
      · rfl
    refine Ev.bind (a := (0, false)) ?_ ?_
    · refine Ev.congr (fun k => spec_CountSpaces.f.eq_1 k _) ?_
      rw [hi]
      refine Ev.bind (Ev.now _) ?_
      exact Ev.neg (by simp) (Ev.now _)
    · have e : impl_CountSpaces.f a0 = some (0, false) := by
        unfold impl_CountSpaces.f
        rw [hw]; simp
      simp only [e, Option.bind_some, bne_self_eq_false, Bool.false_eq_true, if_false, if_true]
      exact Ev.now _
end Go.Proofs.Ytjhjphgdjhahlaa.Pure
