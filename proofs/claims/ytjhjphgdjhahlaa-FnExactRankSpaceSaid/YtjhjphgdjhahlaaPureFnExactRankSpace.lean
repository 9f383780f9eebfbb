/- The plain law: spec's RankSpace and impl's rank a space alike. -/
import Derived.Test.YtjhjphgdjhahlaaQ0
import Derived.Test.YtjhjphgdjhahlaaQ1
import Derived.Test.YtjhjphgdjhahlaaQ6
import Derived.Test.YtjhjphgdjhahlaaQ7
import Derived.Test.YtjhjphgdjhahlaaXAlSpaces
import Derived.Test.YtjhjphgdjhahlaaXCore
import Derived.Test.YtjhjphgdjhahlaaXEqual
import Derived.Test.YtjhjphgdjhahlaaXGood
import Derived.Test.YtjhjphgdjhahlaaXRank
import Derived.Test.YtjhjphgdjhahlaaXRankSpace
import Derived.Test.YtjhjphgdjhahlaaXSpaces
import Derived.Test.YtjhjphgdjhahlaaXToSpace
namespace Go.Proofs.Ytjhjphgdjhahlaa.Pure
open Go.RowKit Go.Proofs.Ytjhjphgdjhahlaa.P Go.Proofs.YtjhjphgdjhahlaaW.PrintWords Go.Proofs.YtjhjphgdjhahlaaW.PrintLast

theorem listed (a0 : Int) : spec_alListed.f a0 = some (decide (1 ≤ a0 ∧ a0 ≤ 3)) := by
  unfold spec_alListed.f spec_l1In.f
  by_cases h : a0 ≥ 1
  · rw [if_pos h]; simp only [Option.bind_some]; congr 1; rw [decide_eq_decide]; omega
  · rw [if_neg h]; simp only [Option.bind_some]; congr 1; rw [eq_comm, decide_eq_false_iff_not]; omega
theorem l1Same_from (l m : List Int) (hl : l.length < 1152921504606846976) (hlm : l.length = m.length) : ∀ (j i : Nat), i + j = l.length → Ev (fun k => spec_l1Same.l0 k l m (l.length : Int) (i : Int)) (decide (l.drop i = m.drop i)) := by
  intro j
  induction j with
  | zero =>
    intro i hi
    refine Ev.step (fun k => spec_l1Same.l0.eq_2 _ _ _ _ k) (Ev.neg (by omega) (Ev.one ?_))
    rw [List.drop_eq_nil_of_le (by omega), List.drop_eq_nil_of_le (by omega)]; simp
  | succ j ih =>
    intro i hi
    have hi1 : i < l.length := by omega
    have hi2 : i < m.length := by omega
    have ew : wrap64 ((i : Int) + 1) = ((i + 1 : Nat) : Int) := by unfold wrap64; omega
    refine Ev.step (fun k => spec_l1Same.l0.eq_2 _ _ _ _ k) (Ev.pos (by omega) (Ev.pos (by omega) (Ev.pos (by omega) (Ev.pos (by omega) ?_))))
    have e1 : rd l (i : Int) = l[i] := by unfold rd; simp [hi1]
    have e2 : rd m (i : Int) = m[i] := by unfold rd; simp [hi2]
    have key : decide (l.drop i = m.drop i) = (decide (l[i] = m[i]) && decide (l.drop (i + 1) = m.drop (i + 1))) := by
      rw [Bool.eq_iff_iff]
      simp only [decide_eq_true_eq, Bool.and_eq_true]
      rw [List.drop_eq_getElem_cons hi1, List.drop_eq_getElem_cons hi2, List.cons.injEq]
    rw [e1, e2, ew, key]
    by_cases he : l[i] = m[i]
    · refine Ev.pos he ?_
      rw [show decide (l[i] = m[i]) = true by simpa using he, Bool.true_and]
      exact ih (i + 1) (by omega)
    · refine Ev.neg he (Ev.one ?_)
      rw [show decide (l[i] = m[i]) = false by simpa using he, Bool.false_and]
theorem l1Same_pure (l m : List Int) (hl : l.length < 1152921504606846976) : Ev (fun k => spec_l1Same.f k l m) (decide (l = m)) := by
  refine Ev.congr (fun k => spec_l1Same.f.eq_1 k _ _) ?_
  by_cases h : l.length = m.length
  · refine Ev.pos (by omega) ?_
    have := l1Same_from l m hl h l.length 0 (by omega)
    simpa using this
  · refine Ev.neg (by omega) (Ev.one ?_)
    rw [eq_comm, decide_eq_false_iff_not]
    rintro rfl; exact h rfl
theorem rank_from (n : Nat) (l : List Int) (xs : List S28) (hx : xs.length ≤ 16384) (hf : ∀ x ∈ xs, x.f1.length ≤ 16) (p : Nat) (hp : p < xs.length) (he : xs[p].f1 = l) (hu : ∀ i (hi : i < xs.length), xs[i].f1 = l → i = p) : ∀ (j i : Nat), i + j = xs.length →
    Ev (fun k => spec_RankSpace.l0 k (if p < i then (p : Int) else 0) xs (xs.length : Int) (i : Int) (n : Int) l) ((p : Int), true) := by
  intro j
  induction j with
  | zero =>
    intro i hi
    refine Ev.step (fun k => spec_RankSpace.l0.eq_2 _ _ _ _ _ _ k) (Ev.neg (by omega) (Ev.one ?_))
    rw [if_pos (by omega)]
  | succ j ih =>
    intro i hi
    have hil : i < xs.length := by omega
    have ew : wrap64 ((i : Int) + 1) = ((i + 1 : Nat) : Int) := by unfold wrap64; omega
    have er : rd_T28 xs (i : Int) = xs[i] := by unfold rd_T28; simp [hil]
    have h2 := ih (i + 1) (by omega)
    have hfl := hf _ (List.getElem_mem hil)
    refine Ev.step (fun k => spec_RankSpace.l0.eq_2 _ _ _ _ _ _ k) (Ev.pos (by omega) (Ev.pos (by omega) (Ev.pos (by omega) (Ev.bind (by rw [er]; exact l1Same_pure _ l (by omega)) ?_))))
    simp only [ew]
    by_cases hc : xs[i].f1 = l
    · have := hu i hil hc
      subst this
      rw [show decide (xs[i].f1 = l) = true by simpa using hc]
      refine Ev.pos rfl ?_
      rw [if_pos (by omega)] at h2
      exact h2
    · rw [show decide (xs[i].f1 = l) = false by simpa using hc]
      refine Ev.neg (by simp) ?_
      have hne : i ≠ p := fun h => hc (by subst h; exact he)
      have e : (if p < i + 1 then (p : Int) else 0) = if p < i then (p : Int) else 0 := by
        by_cases h : p < i
        · rw [if_pos h, if_pos (by omega)]
        · rw [if_neg h, if_neg (by omega)]
      rw [e] at h2
      exact h2
theorem spec_rank (a0 : Int) (l : List Int) (hl : l.length ≤ 1048576) (r : Int × Bool) (h : impl_RankSpace.f a0 l = some r) : Ev (fun k => spec_RankSpace.f k a0 l) r := by
  have h := Option.some.inj h
  subst h
  refine Ev.congr (fun k => spec_RankSpace.f.eq_1 k _ _) (Ev.bind (spGood_pure a0 l (by omega)) ?_)
  cases hg : isSpB a0 l with
  | false =>
    refine Ev.neg (by simp) ?_
    refine Ev.step (fun k => spec_RankSpace.j0.eq_2 _ _ _ k) (Ev.pos rfl (Ev.one (by simp)))
  | true =>
    refine Ev.pos rfl ?_
    rw [listed]
    refine Ev.bind (Ev.now _) ?_
    obtain ⟨n1, n7, _⟩ := isSpB_n hg
    obtain ⟨n, rfl⟩ : ∃ n : Nat, a0 = n := ⟨a0.toNat, by omega⟩
    by_cases h3 : (n : Int) ≤ 3
    · rw [show decide (1 ≤ (n : Int) ∧ (n : Int) ≤ 3) = true by rw [decide_eq_true_eq]; omega, if_pos ⟨rfl, h3⟩, show ((n : Int)).toNat = n by omega]
      refine Ev.step (fun k => spec_RankSpace.j0.eq_2 _ _ _ k) (Ev.neg (by simp) (Ev.bind (alSpaces_pure n (by omega) (by omega)) ?_))
      obtain ⟨p, hp, he, hu⟩ := allSp_place n l (by omega) (by omega) hg
      rw [rank_at hp he hu]
      have hlen : (allSp n).length ≤ 16384 := by
        have := rawS_len n (2 ^ (2 ^ n - 2))
        have := (pow_small n (by omega) (by omega)).2.2.2
        unfold allSp rawSpaces; rw [List.length_mergeSort]; omega
      have hf : ∀ x ∈ allSp n, x.f1.length ≤ 16 := fun x hx => rawS_f1 (by omega) (by omega) x ((List.mergeSort_perm _ _).mem_iff.1 hx)
      have := rank_from n l (allSp n) hlen hf p hp he hu (allSp n).length 0 (by omega)
      simpa using this
    · rw [show decide (1 ≤ (n : Int) ∧ (n : Int) ≤ 3) = false by rw [decide_eq_false_iff_not]; omega, if_neg (fun h => h3 h.2)]
      exact Ev.step (fun k => spec_RankSpace.j0.eq_2 _ _ _ k) (Ev.pos rfl (Ev.now _))
theorem FnExactRankSpace (a0 : Int) (l : List Int) (hl : l.length ≤ 9223372036854775807) : ∃ k, laws_FnExactRankSpace.f k a0 l = some true := by
  apply Ev.rounds
  refine Ev.congr (fun k => laws_FnExactRankSpace.f.eq_1 k _ _) ?_
  have hz := szSpace_pure a0 l 1048576 hl (Nat.le_refl _)
  rw [show ((1048576 : Nat) : Int) = 1048576 from rfl] at hz
  rw [hz]
  refine Ev.bind (Ev.now _) ?_
  by_cases hs : l.length ≤ 1048576
  · rw [if_pos hs]
    refine Ev.neg (by omega) (Ev.bind (toSpace_pure a0 l hs) ?_)
    obtain ⟨r, hr⟩ : ∃ r, impl_RankSpace.f a0 l = some r := ⟨_, rfl⟩
    refine Ev.bind (spec_rank a0 l hs r hr) (Ev.bind (toSpace_pure a0 l hs) ?_)
    simp only [hr]
    refine Ev.bind (Ev.now _) (Ev.pos rfl ?_)
    simp only [bne_self_eq_false]
    refine Ev.step (fun k => laws_FnExactRankSpace.j0.eq_2 _ _ _ _ _ k) (Ev.neg (by simp) (Ev.bind (toSpace_pure a0 l hs) ?_))
    have he := eqSpace_pure a0 a0 l l (by omega)
    simp only [and_self, decide_true] at he
    refine Ev.bind he ?_
    exact Ev.pos (by simp) (Ev.now _)
  · rw [if_neg hs]
    exact Ev.pos (by omega) (Ev.now _)
end Go.Proofs.Ytjhjphgdjhahlaa.Pure
