/- What the exact laws' own helpers say of a space that comes in: its size, and its copy. -/
import Derived.Test.YtjhjphgdjhahlaaQ0
import Derived.Test.YtjhjphgdjhahlaaQ1
import Derived.Test.YtjhjphgdjhahlaaXGood
namespace Go.Proofs.Ytjhjphgdjhahlaa.P
open Go.RowKit Go.Proofs.YtjhjphgdjhahlaaW.PrintWords Go.Proofs.YtjhjphgdjhahlaaW.PrintLast Go.Proofs.YtjhjphgdjhahlaaW.PrintMore
set_option linter.unusedVariables false

theorem toIntS_from (l : List Int) (hl : l.length ≤ 1048576) : ∀ (j i : Nat), i + j = l.length → Ev (fun k => laws_toIntS.l0 k l (l.take i ++ List.replicate j 0) (i : Int)) l := by
  intro j
  induction j with
  | zero =>
    intro i hi
    refine Ev.step (fun k => laws_toIntS.l0.eq_2 _ _ _ k) (Ev.neg (by omega) (Ev.one ?_))
    rw [List.take_of_length_le (by omega)]; simp
  | succ j ih =>
    intro i hi
    have hi1 : i < l.length := by omega
    have ew : wrap64 ((i : Int) + 1) = ((i + 1 : Nat) : Int) := by unfold wrap64; omega
    have er : rd l (i : Int) = l[i] := by unfold rd; simp [hi1]
    have hlen : (l.take i ++ List.replicate (j + 1) (0 : Int)).length = l.length := by simp; omega
    refine Ev.step (fun k => laws_toIntS.l0.eq_2 _ _ _ k) (Ev.pos (by omega) (Ev.pos (by omega) (Ev.pos (by rw [hlen]; omega) ?_)))
    have hset : (l.take i ++ List.replicate (j + 1) (0 : Int)).set (((i : Int)).toNat) (rd l (i : Int)) = l.take (i + 1) ++ List.replicate j 0 := by
      rw [Int.toNat_natCast, er, List.set_append_right _ _ (by simp; omega), List.length_take, Nat.min_eq_left (by omega), Nat.sub_self, List.replicate_succ, List.set_cons_zero, List.take_succ_eq_append_getElem hi1, List.append_assoc]
      rfl
    rw [hset, ew]
    exact ih (i + 1) (by omega)
theorem toIntS_pure (l : List Int) (hl : l.length ≤ 1048576) : Ev (fun k => laws_toIntS.f k l) l := by
  refine Ev.congr (fun k => laws_toIntS.f.eq_1 k _) (Ev.pos (by omega) (Ev.pos (by omega) ?_))
  have := toIntS_from l hl l.length 0 (by omega)
  simpa using this
theorem toSpace_pure (a : Int) (l : List Int) (hl : l.length ≤ 1048576) : Ev (fun k => laws_toSpace.f k a l) (a, l) :=
  Ev.congr (fun k => laws_toSpace.f.eq_1 k _ _) (Ev.bind (toIntS_pure l hl) (Ev.now _))
theorem szSpace_pure (a : Int) (l : List Int) (left : Nat) (hl : l.length ≤ 9223372036854775807) (h : left ≤ 1048576) : laws_szSpace.f a l (left : Int) = some (if l.length ≤ left then ((left - l.length : Nat) : Int) else -1) := by
  unfold laws_szSpace.f laws_szIntS.f
  have ew : wrap64 ((left : Int) - (l.length : Int)) = (left : Int) - (l.length : Int) := by unfold wrap64; omega
  rw [ew]
  by_cases hc : l.length ≤ left
  · rw [if_neg (by omega), if_pos hc]; simp only [Option.bind_some]; rw [if_neg (by omega)]; congr 1; omega
  · rw [if_pos (by omega), if_neg hc]; rfl
end Go.Proofs.Ytjhjphgdjhahlaa.P
