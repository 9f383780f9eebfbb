/- What the exact laws' own helpers say of slices of integers: marked, held. -/
import Derived.Test.YtjhjphgdjhahlaaQ0
import Derived.Test.YtjhjphgdjhahlaaQ6
import Derived.Test.YtjhjphgdjhahlaaXGood
namespace Go.Proofs.Ytjhjphgdjhahlaa.P
open Go.RowKit Go.Proofs.YtjhjphgdjhahlaaW.PrintWords Go.Proofs.YtjhjphgdjhahlaaW.PrintLast Go.Proofs.YtjhjphgdjhahlaaW.PrintMore
set_option linter.unusedVariables false

/-- the marks from a number on -/
def marks (s n : Nat) : List Int := (List.range n).map fun j => ((s + j : Nat) : Int)
theorem marks_len (s n : Nat) : (marks s n).length = n := by simp [marks]
theorem marks_get (s n i : Nat) (h : i < n) : (marks s n)[i]'(by rw [marks_len]; exact h) = ((s + i : Nat) : Int) := by simp [marks]
theorem marks_succ (s n : Nat) : marks s (n + 1) = marks s n ++ [((s + n : Nat) : Int)] := by simp [marks, List.range_succ]
theorem markIntS_from (l : List Int) (s : Nat) (hl : l.length + s < 1152921504606846976) : ∀ (j i : Nat), i + j = l.length → Ev (fun k => laws_markIntS.l0 k (marks s i ++ l.drop i) ((s + i : Nat) : Int) (i : Int)) (((s + l.length : Nat) : Int), marks s l.length) := by
  intro j
  induction j with
  | zero =>
    intro i hi
    obtain rfl : i = l.length := by omega
    refine Ev.step (fun k => laws_markIntS.l0.eq_2 _ _ _ k) (Ev.neg (by simp [marks_len]) (Ev.one ?_))
    rw [List.drop_length, List.append_nil]
  | succ j ih =>
    intro i hi
    have hi1 : i < l.length := by omega
    have ew : wrap64 ((i : Int) + 1) = ((i + 1 : Nat) : Int) := by unfold wrap64; omega
    have es : wrap64 (((s + i : Nat) : Int) + 1) = ((s + (i + 1) : Nat) : Int) := by unfold wrap64; omega
    refine Ev.step (fun k => laws_markIntS.l0.eq_2 _ _ _ k) (Ev.pos (by simp [marks_len]; omega) (Ev.pos (by omega) ?_))
    have hset : (marks s i ++ l.drop i).set (((i : Int)).toNat) ((s + i : Nat) : Int) = marks s (i + 1) ++ l.drop (i + 1) := by
      rw [Int.toNat_natCast, List.drop_eq_getElem_cons hi1, marks_succ]
      rw [List.set_append_right _ _ (by rw [marks_len]; omega), marks_len, Nat.sub_self, List.set_cons_zero]
      simp
    rw [ew, es, hset]
    exact ih (i + 1) (by omega)
theorem markIntS_pure (l : List Int) (s : Nat) (hl : l.length + s < 1152921504606846976) : Ev (fun k => laws_markIntS.f k l (s : Int)) (((s + l.length : Nat) : Int), marks s l.length) := by
  refine Ev.congr (fun k => laws_markIntS.f.eq_1 k _ _) ?_
  have := markIntS_from l s hl l.length 0 (by omega)
  simpa [marks] using this
theorem heldIntS_from (s n : Nat) (hl : n + s < 1152921504606846976) : ∀ (j i : Nat), i + j = n → Ev (fun k => laws_heldIntS.l0 k (marks s n) ((s + i : Nat) : Int) (i : Int)) (((s + n : Nat) : Int)) := by
  intro j
  induction j with
  | zero =>
    intro i hi
    obtain rfl : i = n := by omega
    exact Ev.step (fun k => laws_heldIntS.l0.eq_2 _ _ _ k) (Ev.neg (by simp [marks_len]) (Ev.now _))
  | succ j ih =>
    intro i hi
    have hi1 : i < (marks s n).length := by rw [marks_len]; omega
    have ew : wrap64 ((i : Int) + 1) = ((i + 1 : Nat) : Int) := by unfold wrap64; omega
    have es : wrap64 (((s + i : Nat) : Int) + 1) = ((s + (i + 1) : Nat) : Int) := by unfold wrap64; omega
    have e1 : rd (marks s n) (i : Int) = ((s + i : Nat) : Int) := by unfold rd; simp [marks, show i < n by omega]
    refine Ev.step (fun k => laws_heldIntS.l0.eq_2 _ _ _ k) (Ev.pos (by omega) (Ev.pos (by omega) (Ev.pos e1 ?_)))
    rw [ew, es]
    exact ih (i + 1) (by omega)
theorem heldIntS_pure (s n : Nat) (hl : n + s < 1152921504606846976) : Ev (fun k => laws_heldIntS.f k (marks s n) (s : Int)) (((s + n : Nat) : Int)) := by
  refine Ev.congr (fun k => laws_heldIntS.f.eq_1 k _ _) ?_
  have := heldIntS_from s n hl n 0 (by omega)
  simpa using this
end Go.Proofs.Ytjhjphgdjhahlaa.P
