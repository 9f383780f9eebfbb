/- spec's 'alGood' at the families of sets that a number tells. -/
import Derived.Test.YtjhjphgdjhahlaaQ0
import Derived.Test.YtjhjphgdjhahlaaQ3
import Derived.Test.YtjhjphgdjhahlaaXCore
import Derived.Test.YtjhjphgdjhahlaaXGood
import Derived.Test.YtjhjphgdjhahlaaXSpaces
namespace Go.Proofs.Ytjhjphgdjhahlaa.P
open Go.RowKit Go.Proofs.YtjhjphgdjhahlaaW.PrintWords Go.Proofs.YtjhjphgdjhahlaaW.PrintLast Go.Proofs.YtjhjphgdjhahlaaW.PrintMore
set_option linter.unusedVariables false

theorem isSpB_row {n : Nat} {l : List Int} {x : Int} (hx : x ∈ l) (hp : 0 < x) (hz : inner (famOf l) x.toNat = 0) : isSpB n l = false := by
  have : l.all (rowOk (famOf l) l) = false := by
    rw [List.all_eq_false]
    refine ⟨x, hx, ?_⟩
    unfold rowOk
    simp [hz]; omega
  unfold isSpB
  split
  · unfold isSpN; rw [this]; simp
  · rfl
theorem alGood_from (n : Nat) (hn : n < 8) (l : List Int) (hs : l.Pairwise (· < ·)) (hb : ∀ x ∈ l, 0 ≤ x ∧ x < 2 ^ n) (hl : l.length < 1152921504606846976) (hne : 1 ≤ l.length) : ∀ (m i : Nat), i + m = (l.drop 1).length →
    Ev (fun k => spec_alGood.l0 k (l.drop 1) ((l.drop 1).length : Int) (i : Int) (n : Int) l) (isSpB n l) := by
  intro m
  induction m with
  | zero =>
    intro i hi
    refine Ev.step (fun k => spec_alGood.l0.eq_2 _ _ _ _ _ k) (Ev.neg (by omega) ?_)
    exact Ev.bind (spGood_pure n l hl) (Ev.now _)
  | succ m ih =>
    intro i hi
    have hil : i < (l.drop 1).length := by omega
    have hil2 : i + 1 < l.length := by simp at hil; omega
    have he : (l.drop 1)[i] = l[i + 1] := by simp
    obtain ⟨x, hx, hx1, hx2⟩ := el_nat l n hn hs hb hl (i + 1) hil2
    have h2 := ih (i + 1) (by omega)
    have hlb : i < 1152921504606846976 := by omega
    have ew : wrap64 ((i : Int) + 1) = ((i + 1 : Nat) : Int) := by rw [wrap_small (by omega) (by omega)]; omega
    refine Ev.step (fun k => spec_alGood.l0.eq_2 _ _ _ _ _ k) ?_
    refine Ev.pos (by omega) (Ev.pos (by omega) (Ev.pos (by omega) (Ev.bind (by rw [rd_at _ i hil, he, hx]; exact spInner_pure l x hx1 hs hl) ?_)))
    simp only [ew]
    by_cases hz : inner (famOf l) x = 0
    · refine Ev.pos (by omega) (Ev.one ?_)
      have hp : l[0] < l[i + 1] := List.pairwise_iff_getElem.1 hs 0 (i + 1) (by omega) hil2 (by omega)
      have h0 := (hb _ (List.getElem_mem (show 0 < l.length by omega))).1
      exact (isSpB_row (n := n) (x := l[i + 1]) (List.getElem_mem _) (by omega) (by rw [hx2]; exact hz)).symm
    · refine Ev.neg (by omega) ?_
      exact h2
theorem alGood_pure (n : Nat) (hn : n < 8) (l : List Int) (hs : l.Pairwise (· < ·)) (hb : ∀ x ∈ l, 0 ≤ x ∧ x < 2 ^ n) (hl : l.length < 1152921504606846976) (hne : 1 ≤ l.length) : Ev (fun k => spec_alGood.f k (n : Int) l) (isSpB n l) := by
  refine Ev.congr (fun k => spec_alGood.f.eq_1 k _ _) (Ev.pos (by omega) ?_)
  exact alGood_from n hn l hs hb hl hne (l.drop 1).length 0 (by omega)

theorem midM_mem {m k : Nat} {x : Int} (h : x ∈ midM m k) : 1 ≤ x ∧ x ≤ k := by
  simp only [midM, List.mem_map, List.mem_filter, List.mem_range] at h
  obtain ⟨i, ⟨hi, _⟩, rfl⟩ := h
  omega
theorem midM_rising (m k : Nat) : (midM m k).Pairwise (· < ·) := by
  unfold midM
  rw [List.pairwise_map]
  exact (List.pairwise_lt_range.filter _).imp (fun h => by omega)
theorem setsM_rising (n m : Nat) (h1 : 1 ≤ n) : (setsM n m).Pairwise (· < ·) := by
  have hp : 2 ≤ 2 ^ n := by
    have : 2 ^ 1 ≤ 2 ^ n := Nat.pow_le_pow_right (by omega) h1
    simpa using this
  unfold setsM
  rw [List.append_assoc, List.singleton_append, List.pairwise_cons, List.pairwise_append]
  refine ⟨?_, midM_rising _ _, List.pairwise_singleton _ _, ?_⟩
  · intro x hx
    rcases List.mem_append.1 hx with h | h
    · have := midM_mem h; omega
    · simp at h; omega
  · intro x hx y hy
    have := midM_mem hx
    simp at hy; omega
theorem setsM_in (n m : Nat) (h1 : 1 ≤ n) : ∀ x ∈ setsM n m, 0 ≤ x ∧ x < 2 ^ n := by
  have hp : 2 ≤ 2 ^ n := by
    have : 2 ^ 1 ≤ 2 ^ n := Nat.pow_le_pow_right (by omega) h1
    simpa using this
  have hc : ((2 ^ n : Nat) : Int) = 2 ^ n := by simp
  intro x hx
  rw [← hc]
  simp only [setsM, List.mem_append, List.mem_singleton] at hx
  rcases hx with (h | h) | h
  · omega
  · have := midM_mem h; omega
  · omega
theorem setsM_len (n m : Nat) (h1 : 1 ≤ n) (h4 : n ≤ 4) : (setsM n m).length ≤ 16 ∧ 1 ≤ (setsM n m).length := by
  obtain ⟨p1, p2, _, _⟩ := pow_small n h1 h4
  have := midM_len m (2 ^ n - 2)
  simp [setsM]; omega
end Go.Proofs.Ytjhjphgdjhahlaa.P
