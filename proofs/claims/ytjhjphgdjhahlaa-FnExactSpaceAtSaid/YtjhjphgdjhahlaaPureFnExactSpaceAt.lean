/- The plain law: spec's SpaceAt and impl's tell the same space. -/
import Derived.Test.YtjhjphgdjhahlaaQ0
import Derived.Test.YtjhjphgdjhahlaaQ1
import Derived.Test.YtjhjphgdjhahlaaQ6
import Derived.Test.YtjhjphgdjhahlaaQ7
import Derived.Test.YtjhjphgdjhahlaaXAlSpaces
import Derived.Test.YtjhjphgdjhahlaaXExact
import Derived.Test.YtjhjphgdjhahlaaXGood
import Derived.Test.YtjhjphgdjhahlaaXSpaces
namespace Go.Proofs.Ytjhjphgdjhahlaa.Pure
open Go.RowKit Go.Proofs.Ytjhjphgdjhahlaa.P Go.Proofs.YtjhjphgdjhahlaaW.PrintWords Go.Proofs.YtjhjphgdjhahlaaW.PrintLast

/-- what both answer -/
def spaceAt (a0 a1 : Int) : Int × List Int × Bool :=
  if 1 ≤ a0 ∧ a0 ≤ 3 then (if 0 ≤ a1 ∧ a1 < ((allSp a0.toNat).length : Int) then ((rd_T28 (allSp a0.toNat) a1).f0, (rd_T28 (allSp a0.toNat) a1).f1, true) else (0, [], false)) else (0, [], false)
theorem listed (a0 : Int) : spec_alListed.f a0 = some (decide (1 ≤ a0 ∧ a0 ≤ 3)) := by
  unfold spec_alListed.f spec_l1In.f
  by_cases h : a0 ≥ 1
  · rw [if_pos h]; simp only [Option.bind_some]; congr 1; rw [decide_eq_decide]; omega
  · rw [if_neg h]; simp only [Option.bind_some]; congr 1; rw [eq_comm, decide_eq_false_iff_not]; omega
theorem allSp_len (n : Nat) (h1 : 1 ≤ n) (h4 : n ≤ 4) : (allSp n).length ≤ 16384 := by
  have := rawS_len n (2 ^ (2 ^ n - 2))
  have := (pow_small n h1 h4).2.2.2
  unfold allSp rawSpaces; rw [List.length_mergeSort]; omega
theorem spec_at (a0 a1 : Int) : Ev (fun k => spec_SpaceAt.f k a0 a1) (spaceAt a0 a1) := by
  refine Ev.congr (fun k => spec_SpaceAt.f.eq_1 k _ _) ?_
  rw [listed]
  refine Ev.bind (Ev.now _) ?_
  unfold spaceAt
  by_cases ha : 1 ≤ a0 ∧ a0 ≤ 3
  · rw [if_pos ha]
    obtain ⟨n, rfl⟩ : ∃ n : Nat, a0 = n := ⟨a0.toNat, by omega⟩
    rw [show ((n : Int)).toNat = n by omega]
    have hl := allSp_len n (by omega) (by omega)
    refine Ev.pos (by simpa using ha) (Ev.bind (alSpaces_pure n (by omega) (by omega)) ?_)
    have ew : wrap64 (((allSp n).length : Int) - 1) = ((allSp n).length : Int) - 1 := by unfold wrap64; omega
    have ei : spec_l1In.f a1 0 (wrap64 (((allSp n).length : Int) - 1)) = some (decide (0 ≤ a1 ∧ a1 < ((allSp n).length : Int))) := by
      rw [ew]; unfold spec_l1In.f
      by_cases h : a1 ≥ 0
      · rw [if_pos h]; congr 1; rw [decide_eq_decide]; omega
      · rw [if_neg h]; congr 1; rw [eq_comm, decide_eq_false_iff_not]; omega
    simp only [ei]
    refine Ev.bind (Ev.now _) ?_
    by_cases hr : 0 ≤ a1 ∧ a1 < ((allSp n).length : Int)
    · rw [if_pos hr]
      exact Ev.pos (by simpa using hr) (Ev.pos hr.1 (Ev.pos hr.2 (Ev.now _)))
    · rw [if_neg hr]
      exact Ev.neg (by simpa using hr) (Ev.now _)
  · rw [if_neg ha]
    exact Ev.neg (by simpa using ha) (Ev.now _)
theorem impl_at (a0 a1 : Int) : impl_SpaceAt.f a0 a1 = some (spaceAt a0 a1) := by
  have hw : ∀ x y z : Int, impl_within.f x y z = some (decide (y ≤ x ∧ x ≤ z)) := fun x y z => by
    unfold impl_within.f
    by_cases h : y ≤ x
    · rw [if_pos h]; congr 1; rw [decide_eq_decide]; omega
    · rw [if_neg h]; congr 1; rw [eq_comm, decide_eq_false_iff_not]; omega
  unfold impl_SpaceAt.f impl_AllSpaces.f spaceAt
  rw [hw]
  by_cases ha : 1 ≤ a0 ∧ a0 ≤ 3
  · obtain ⟨n, rfl⟩ : ∃ n : Nat, a0 = n := ⟨a0.toNat, by omega⟩
    have hl := allSp_len n (by omega) (by omega)
    have ew : wrap64 (((allSp n).length : Int) - 1) = ((allSp n).length : Int) - 1 := by unfold wrap64; omega
    have es : impl_spaces.f (n : Int) = some (allSp n) := by
      unfold impl_spaces.f; rw [if_pos (by omega), show ((n : Int)).toNat = n by omega]
    rw [if_pos ha, show ((n : Int)).toNat = n by omega, show decide (1 ≤ (n : Int) ∧ (n : Int) ≤ 3) = true by simpa using ha]
    simp only [Option.bind_some, if_true, es, ew, hw]
    by_cases hr : 0 ≤ a1 ∧ a1 < ((allSp n).length : Int)
    · rw [if_pos hr, show decide (0 ≤ a1 ∧ a1 ≤ ((allSp n).length : Int) - 1) = true by rw [decide_eq_true_eq]; omega]
      rw [if_pos rfl, if_pos hr.1, if_pos hr.2]
    · rw [if_neg hr, show decide (0 ≤ a1 ∧ a1 ≤ ((allSp n).length : Int) - 1) = false by rw [decide_eq_false_iff_not]; omega]
      simp
  · rw [if_neg ha, show decide (1 ≤ a0 ∧ a0 ≤ 3) = false by rw [decide_eq_false_iff_not]; exact ha]
    simp
theorem spaceAt_len (a0 a1 : Int) : (spaceAt a0 a1).2.1.length ≤ 16 := by
  unfold spaceAt
  split
  · rename_i ha
    split
    · rename_i hr
      have hm : rd_T28 (allSp a0.toNat) a1 ∈ allSp a0.toNat := by
        unfold rd_T28
        have h : a1.toNat < (allSp a0.toNat).length := by omega
        rw [List.getD_eq_getElem?_getD, List.getElem?_eq_getElem h]; exact List.getElem_mem _
      have hm2 : rd_T28 (allSp a0.toNat) a1 ∈ rawSpaces a0.toNat := (List.mergeSort_perm _ _).mem_iff.1 hm
      exact rawS_f1 (by omega) (by omega) _ hm2
    · simp
  · simp
theorem FnExactSpaceAt : laws_FnExactSpaceAt.Pure := by
  intro a0 a1 _ _
  apply Ev.rounds
  have hl := spaceAt_len a0 a1
  have hi := impl_at a0 a1
  have hs := spec_at a0 a1
  obtain ⟨r, hr⟩ : ∃ r, spaceAt a0 a1 = r := ⟨_, rfl⟩
  rw [hr] at hl hi hs
  have he := eqSpace_pure r.1 r.1 r.2.1 r.2.1 (by omega)
  simp only [and_self, decide_true] at he
  have hm := markSpace_pure r.1 r.2.1 1 (by omega)
  have hh := heldSpace_pure r.1 1 r.2.1.length (by omega)
  have h1 : Ev (fun k => laws_FnExactSpaceAt.j1 k ((1 + r.2.1.length : Nat) : Int) false r.1 (marks 1 r.2.1.length)) true := by
    refine Ev.step (fun k => laws_FnExactSpaceAt.j1.eq_2 _ _ _ _ k) (Ev.neg (by simp) (Ev.bind hh ?_))
    exact Ev.neg (by omega) (Ev.pos rfl (Ev.now _))
  have h0 : Ev (fun k => laws_FnExactSpaceAt.j0 k a0 a1 r.2.2 false r.1 r.2.1 r.1 r.2.1) true := by
    refine Ev.step (fun k => laws_FnExactSpaceAt.j0.eq_2 _ _ _ _ _ _ _ _ k) (Ev.neg (by simp) (Ev.bind hm ?_))
    refine Ev.bind hh (Ev.neg (by omega) (Ev.pos rfl ?_))
    rw [hi]
    refine Ev.bind (Ev.now _) (Ev.bind he ?_)
    simp only [bne_self_eq_false]
    exact Ev.pos (by simp) h1
  refine Ev.congr (fun k => laws_FnExactSpaceAt.f.eq_1 k _ _) (Ev.bind hs ?_)
  rw [hi]
  refine Ev.bind (Ev.now _) (Ev.bind he ?_)
  simp only [bne_self_eq_false]
  exact Ev.pos (by simp) h0
end Go.Proofs.Ytjhjphgdjhahlaa.Pure
