/- slices.Compare and impl's 'compare': lists of integers, the first one that differs counts. -/
import Derived.Test.YtjhjphgdjhahlaaQ0
import Derived.Test.YtjhjphgdjhahlaaQ5
import Derived.Test.YtjhjphgdjhahlaaXCore
import Derived.Sort.Grow
namespace Go.Proofs.Ytjhjphgdjhahlaa.P
open Go.RowKit Go.Proofs.YtjhjphgdjhahlaaW.PrintWords Go.Proofs.YtjhjphgdjhahlaaW.PrintLast Go.Proofs.YtjhjphgdjhahlaaW.PrintMore
set_option linter.unusedVariables false

def cmpL : List Int → List Int → Int
  | [], [] => 0
  | [], _ :: _ => -1
  | _ :: _, [] => 1
  | a :: xs, b :: ys => if a < b then -1 else if b < a then 1 else cmpL xs ys
theorem cmpL_self (l : List Int) : cmpL l l = 0 := by
  induction l with
  | nil => rfl
  | cons a l ih => simp [cmpL, ih]
theorem cmpL_eq : ∀ {l m : List Int}, cmpL l m = 0 → l = m
  | [], [], _ => rfl
  | [], _ :: _, h => by simp [cmpL] at h
  | _ :: _, [], h => by simp [cmpL] at h
  | a :: xs, b :: ys, h => by
    simp only [cmpL] at h
    split at h
    · omega
    · split at h
      · omega
      · rw [cmpL_eq h, show a = b by omega]
theorem cmpL_zero {l m : List Int} : cmpL l m = 0 ↔ l = m := ⟨cmpL_eq, fun h => by rw [h, cmpL_self]⟩
theorem cmpL_neg : ∀ (l m : List Int), cmpL m l = - cmpL l m
  | [], [] => rfl
  | [], _ :: _ => rfl
  | _ :: _, [] => rfl
  | a :: xs, b :: ys => by
    simp only [cmpL]
    rcases Int.lt_trichotomy a b with h | h | h
    · rw [if_pos h, if_neg (by omega), if_pos h]; rfl
    · subst h; simp [cmpL_neg xs ys]
    · rw [if_pos h, if_neg (by omega), if_pos h]
theorem cmpL_trans : ∀ (l m n : List Int), cmpL l m ≤ 0 → cmpL m n ≤ 0 → cmpL l n ≤ 0 ∧ (cmpL l n = 0 → cmpL l m = 0 ∧ cmpL m n = 0)
  | [], [], n, h, h' => ⟨h', fun e => ⟨rfl, e⟩⟩
  | [], _ :: _, [], _, h' => by simp [cmpL] at h'
  | [], _ :: _, _ :: _, _, _ => by simp [cmpL]
  | _ :: _, [], _, h, _ => by simp [cmpL] at h
  | _ :: _, _ :: _, [], _, h' => by simp [cmpL] at h'
  | a :: xs, b :: ys, c :: zs, h, h' => by
    have ih := cmpL_trans xs ys zs
    simp only [cmpL] at *
    split at h <;> split at h' <;> (try split at h) <;> (try split at h') <;> (try omega)
    all_goals
      by_cases hac : a < c
      · simp [hac]; try omega
      · first | (exfalso; omega) | (rw [if_neg hac, if_neg (by omega)]; simp_all)
theorem cmpL_bounds : ∀ (l m : List Int), -1 ≤ cmpL l m ∧ cmpL l m ≤ 1
  | [], [] => by simp [cmpL]
  | [], _ :: _ => by simp [cmpL]
  | _ :: _, [] => by simp [cmpL]
  | a :: xs, b :: ys => by
    simp only [cmpL]
    split
    · omega
    · split
      · omega
      · exact cmpL_bounds xs ys

theorem Compare_from (l0 l1 : List Int) (h0 : l0.length < 4611686018427387904) : ∀ (m i k : Nat), i + m = l0.length → i ≤ l1.length → m < k →
    slices_Compare_int_int.l0 k l0 l1 l0 (l0.length : Int) (i : Int) = some (cmpL (l0.drop i) (l1.drop i)) := by
  intro m
  induction m with
  | zero =>
    intro i k hi hi1 hk
    obtain ⟨k, rfl⟩ : ∃ j, k = j + 1 := ⟨k - 1, by omega⟩
    simp only [slices_Compare_int_int.l0]
    rw [if_neg (by omega), List.drop_eq_nil_of_le (by omega)]
    by_cases h : i < l1.length
    · rw [if_pos (by omega), List.drop_eq_getElem_cons h]; rfl
    · rw [if_neg (by omega), List.drop_eq_nil_of_le (by omega)]; rfl
  | succ m ih =>
    intro i k hi hi1 hk
    obtain ⟨k, rfl⟩ : ∃ j, k = j + 1 := ⟨k - 1, by omega⟩
    simp only [slices_Compare_int_int.l0]
    rw [if_pos (by omega), if_pos (by omega), if_pos (by omega)]
    rw [List.drop_eq_getElem_cons (show i < l0.length by omega)]
    by_cases h : i < l1.length
    · rw [if_neg (by omega), if_pos (by omega), List.drop_eq_getElem_cons h]
      have e0 : rd l0 (i : Int) = l0[i] := by unfold rd; simp [show i < l0.length by omega]
      have e1 : rd l1 (i : Int) = l1[i] := by unfold rd; simp [h]
      have ew : wrap64 ((i : Int) + 1) = ((i + 1 : Nat) : Int) := by rw [wrap_small (by omega) (by omega)]; omega
      rw [e0, e1]
      simp only [cmp_Compare_int.f, cmp_isNaN_int.f, Option.bind_some, bne_self_eq_false, Bool.false_eq_true, if_false, cmpL]
      by_cases ha : l0[i] < l1[i]
      · simp [ha]
      · by_cases hb : l1[i] < l0[i]
        · simp [ha, hb]
        · have hi' := ih (i + 1) k (by omega) (by omega) (by omega)
          simp only [ha, if_false, gt_iff_lt, hb, Option.bind_some, if_true, ew]
          exact hi'
    · rw [if_pos (by omega), List.drop_eq_nil_of_le (show l1.length ≤ i by omega)]; rfl
theorem Compare_pure (l0 l1 : List Int) (h0 : l0.length < 4611686018427387904) (k : Nat) (hk : l0.length < k) : slices_Compare_int_int.f k l0 l1 = some (cmpL l0 l1) := by
  have := Compare_from l0 l1 h0 l0.length 0 k (by omega) (by omega) hk
  simpa [slices_Compare_int_int.f] using this

set_option maxHeartbeats 800000 in
theorem compare_calls (n0 n1 : Int) (A0 : Option Addr) (c0 : Nat) (l0 : List Int) (A1 : Option Addr) (c1 : Nat) (l1 : List Int) (w : World) (hr0 : Kd.C (Kd.int .i64) w A0 l0.length l0) (hc0 : l0.length ≤ c0) (hr1 : Kd.C (Kd.int .i64) w A1 l1.length l1) (hc1 : l1.length ≤ c1) (h0 : l0.length < 4611686018427387904) :
    Calls Try.prog 52 #[.agg #[.int .i64 n0, .slice A0 l0.length c0], .agg #[.int .i64 n1, .slice A1 l1.length c1]] w fun e w' => e = .returned (.int .i64 (cmpL l0 l1)) ∧ ∃ q os', w' = Go.Sort.grow (w.drewN q) os' := by
  have hu := Try.underlying28
  have hp := Compare_pure l0 l1 h0 (l0.length + 1) (by omega)
  have HP := Aside0.mk hp
  have HR0 := Aside0.mk hr0
  have HR1 := Aside0.mk hr1
  have HC0 := Aside0.mk hc0
  have HC1 := Aside0.mk hc1
  clear hp hr0 hr1 hc0 hc1
  go_enter Try.func52, Try.ntmps52
  go_wp2_with (go_at_call 96; (with_reducible refine (slices_Compare_int_int.calls (l0.length + 1) A0 c0 l0 A1 c1 l1 (cmpL l0 l1) _ ?h0 HC0.out ?h1 HC1.out HP.out).mono ?_); (case h0 => exact Kd.C_below HR0.out (below_alloc (below_alloc (Below.refl _ _) _) _)); (case h1 => exact Kd.C_below HR1.out (below_alloc (below_alloc (Below.refl _ _) _) _)); rintro e w' ⟨rfl, nd, rfl⟩)
  go_ret
  exact ⟨rfl, nd, _, by rw [Go.Sort.alloc_eq_grow, Go.Sort.alloc_eq_grow, Go.Sort.grow_grow]; rfl⟩
end Go.Proofs.Ytjhjphgdjhahlaa.P
