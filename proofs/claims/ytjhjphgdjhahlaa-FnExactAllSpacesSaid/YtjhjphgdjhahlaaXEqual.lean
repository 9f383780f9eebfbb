/- What the exact laws' own helpers say of slices of integers: equal. -/
import Derived.Test.YtjhjphgdjhahlaaQ0
import Derived.Test.YtjhjphgdjhahlaaQ5
import Derived.Test.YtjhjphgdjhahlaaXGood
namespace Go.Proofs.Ytjhjphgdjhahlaa.P
open Go.RowKit Go.Proofs.YtjhjphgdjhahlaaW.PrintWords Go.Proofs.YtjhjphgdjhahlaaW.PrintLast Go.Proofs.YtjhjphgdjhahlaaW.PrintMore
set_option linter.unusedVariables false

theorem eqIntS_from (l m : List Int) (hl : l.length < 1152921504606846976) (hlm : l.length = m.length) : ∀ (j i : Nat), i + j = l.length → Ev (fun k => laws_eqIntS.l0 k l m (i : Int)) (decide (l.drop i = m.drop i)) := by
  intro j
  induction j with
  | zero =>
    intro i hi
    refine Ev.step (fun k => laws_eqIntS.l0.eq_2 _ _ _ k) (Ev.neg (by omega) (Ev.one ?_))
    rw [List.drop_eq_nil_of_le (by omega), List.drop_eq_nil_of_le (by omega)]; simp
  | succ j ih =>
    intro i hi
    have hi1 : i < l.length := by omega
    have hi2 : i < m.length := by omega
    have ew : wrap64 ((i : Int) + 1) = ((i + 1 : Nat) : Int) := by unfold wrap64; omega
    refine Ev.step (fun k => laws_eqIntS.l0.eq_2 _ _ _ k) (Ev.pos (by omega) (Ev.pos (by omega) (Ev.pos (by omega) ?_)))
    have e1 : rd l (i : Int) = l[i] := by unfold rd; simp [hi1]
    have e2 : rd m (i : Int) = m[i] := by unfold rd; simp [hi2]
    have key : decide (l.drop i = m.drop i) = (decide (l[i] = m[i]) && decide (l.drop (i + 1) = m.drop (i + 1))) := by
      rw [Bool.eq_iff_iff]
      simp only [decide_eq_true_eq, Bool.and_eq_true]
      rw [List.drop_eq_getElem_cons hi1, List.drop_eq_getElem_cons hi2, List.cons.injEq]
    rw [e1, e2, ew, key]
    by_cases he : l[i] = m[i]
    · refine Ev.pos he ?_
      rw [show decide (l[i] = m[i]) = true by simpa using he, Bool.true_and]
      exact ih (i + 1) (by omega)
    · refine Ev.neg he (Ev.one ?_)
      rw [show decide (l[i] = m[i]) = false by simpa using he, Bool.false_and]
theorem eqIntS_pure (l m : List Int) (hl : l.length < 1152921504606846976) : Ev (fun k => laws_eqIntS.f k l m) (decide (l = m)) := by
  refine Ev.congr (fun k => laws_eqIntS.f.eq_1 k _ _) ?_
  by_cases h : l.length = m.length
  · refine Ev.pos (by omega) ?_
    have := eqIntS_from l m hl h l.length 0 (by omega)
    simpa using this
  · refine Ev.neg (by omega) (Ev.one ?_)
    rw [eq_comm, decide_eq_false_iff_not]
    rintro rfl; exact h rfl

theorem eqSpace_pure (a b : Int) (l m : List Int) (hl : l.length < 1152921504606846976) : Ev (fun k => laws_eqSpace.f k a l b m) (decide (a = b ∧ l = m)) := by
  refine Ev.congr (fun k => laws_eqSpace.f.eq_1 k _ _ _ _) ?_
  by_cases h : a = b
  · refine Ev.pos h (Ev.bind (eqIntS_pure l m hl) ?_)
    by_cases hm : l = m
    · simp only [h, hm, decide_true, if_true, and_self]; exact Ev.now _
    · simp only [h, hm, decide_false, Bool.false_eq_true, if_false, and_false]; exact Ev.now _
  · refine Ev.neg h (Ev.one (by simp [h]))
end Go.Proofs.Ytjhjphgdjhahlaa.P
