/- Texts of this claim, put together: Q6, XCore, XCmp, XGood, XAlBefore, XFam, XKb, XCore2, XThose, XFringe. -/
import Derived.Test.YtjhjphgdjhahlaaM0
import Derived.Test.YtjhjphgdjhahlaaM1
import Derived.Laws.BitsLemmas
import Derived.Test.YtjhjphgdjhahlaaWWords
import Derived.Test.YtjhjphgdjhahlaaWMore
import Derived.Sort.Grow
import Derived.Test.YtjhjphgdjhahlaaWKept
-- PRINTED by print.py (a twelfth state) out of the translation. Not trusted: Lean checks it.
namespace Go.Proofs.Ytjhjphgdjhahlaa.P
open Go.RowKit Go.Proofs.YtjhjphgdjhahlaaW.PrintWords Go.Proofs.YtjhjphgdjhahlaaW.PrintLast Go.Proofs.YtjhjphgdjhahlaaW.PrintMore
attribute [local go_sem] max2_int min2_int max_two min_two max_three min_three max_four min_four   -- for this text's walks alone
set_option linter.unusedVariables false
set_option linter.unusedSimpArgs false

/-! ### spec_alSpaces: function 87 -/
mutual
def spec_alSpaces.l0 : Nat → Int → Int → List (S28) → Int → Option ((List (S28)))
  | 0, _, _, _, _ => none
  | k + 1, x0, x3, x4, x5 => if 0 ≤ (wrap64 (x3 - 1)) then (if x5 < (shl .i64 1 (wrap64 (x3 - 1))) then (spec_alSpaces.l1 k x0 x3 x4 x5 1 x0 (([0] : List Int))) else (some x4)) else (none)
def spec_alSpaces.l1 : Nat → Int → Int → List (S28) → Int → Int → Int → List Int → Option ((List (S28)))
  | 0, _, _, _, _, _, _, _ => none
  | k + 1, x0, x3, x4, x5, x7, x211000, x211001 => if x7 < x3 then ((spec_spIn.f x5 (wrap64 (x7 - 1))).bind fun t211 => (if t211 = true then (if x211001.length < 17592186044416 then (spec_alSpaces.l1 k x0 x3 x4 x5 (wrap64 (x7 + 1)) x211000 (x211001 ++ [x7])) else (none)) else (spec_alSpaces.l1 k x0 x3 x4 x5 (wrap64 (x7 + 1)) x211000 x211001))) else (if x211001.length < 17592186044416 then ((some (x211001 ++ [x3] : List Int)).bind fun y215 => ((spec_alGood.f k x211000 y215).bind fun t218 => (if t218 = true then (spec_alSpaces.l2 k x0 x3 x4 x5 (x4.length : Int) x211000 y215) else (spec_alSpaces.l0 k x0 x3 x4 (wrap64 (x5 + 1)))))) else (none))
def spec_alSpaces.l2 : Nat → Int → Int → List (S28) → Int → Int → Int → List Int → Option ((List (S28)))
  | 0, _, _, _, _, _, _, _ => none
  | k + 1, x0, x3, x4, x5, x8, x211000, x211001 => if x8 > 0 then (if 0 ≤ (wrap64 (x8 - 1)) then (if (wrap64 (x8 - 1)) < (x4.length : Int) then ((spec_alBefore.f k x211001 ((rd_T28 x4 (wrap64 (x8 - 1))).f1)).bind fun t220 => (if t220 = true then (spec_alSpaces.l2 k x0 x3 x4 x5 (wrap64 (x8 - 1)) x211000 x211001) else ((some (([] : List (S28)) : List (S28))).bind fun y221 => (if 0 ≤ x8 then (if x8 ≤ (x4.length : Int) then ((some (x4.take (x8 : Int).toNat : List (S28))).bind fun y224 => (if y221.length + y224.length < 4398046511104 then ((some (y221 ++ y224 : List (S28))).bind fun y229 => (if y229.length < 4398046511104 then ((some (y229 ++ [(⟨x211000, x211001⟩ : S28)] : List (S28))).bind fun y232 => ((some (x4.drop (x8 : Int).toNat : List (S28))).bind fun y235 => (if y232.length + y235.length < 4398046511104 then (spec_alSpaces.l0 k x0 x3 (y232 ++ y235) (wrap64 (x5 + 1))) else (none)))) else (none))) else (none))) else (none)) else (none))))) else (none)) else (none)) else ((some (([] : List (S28)) : List (S28))).bind fun y243 => (if 0 ≤ x8 then (if x8 ≤ (x4.length : Int) then ((some (x4.take (x8 : Int).toNat : List (S28))).bind fun y246 => (if y243.length + y246.length < 4398046511104 then ((some (y243 ++ y246 : List (S28))).bind fun y251 => (if y251.length < 4398046511104 then ((some (y251 ++ [(⟨x211000, x211001⟩ : S28)] : List (S28))).bind fun y254 => ((some (x4.drop (x8 : Int).toNat : List (S28))).bind fun y257 => (if y254.length + y257.length < 4398046511104 then (spec_alSpaces.l0 k x0 x3 (y254 ++ y257) (wrap64 (x5 + 1))) else (none)))) else (none))) else (none))) else (none)) else (none)))
end
def spec_alSpaces.f (k : Nat) (a0 : Int) : Option ((List (S28))) := if 0 ≤ a0 then (spec_alSpaces.l0 k a0 (wrap64 ((shl .i64 1 a0) - 1)) ([] : List (S28)) 0) else (none)
theorem spec_alSpaces.mono_l : ∀ k, (∀ y0 y1 y2 y3, LeO (spec_alSpaces.l0 k y0 y1 y2 y3) (spec_alSpaces.l0 (k + 1) y0 y1 y2 y3)) ∧ (∀ y0 y1 y2 y3 y4 y5 y6, LeO (spec_alSpaces.l1 k y0 y1 y2 y3 y4 y5 y6) (spec_alSpaces.l1 (k + 1) y0 y1 y2 y3 y4 y5 y6)) ∧ (∀ y0 y1 y2 y3 y4 y5 y6, LeO (spec_alSpaces.l2 k y0 y1 y2 y3 y4 y5 y6) (spec_alSpaces.l2 (k + 1) y0 y1 y2 y3 y4 y5 y6))
  | 0 => ⟨fun _ _ _ _ r h => by simp [spec_alSpaces.l0] at h, fun _ _ _ _ _ _ _ r h => by simp [spec_alSpaces.l1] at h, fun _ _ _ _ _ _ _ r h => by simp [spec_alSpaces.l2] at h⟩
  | k + 1 => by
    obtain ⟨ih0, ih1, ih2⟩ := spec_alSpaces.mono_l k
    refine ⟨?_, ?_, ?_⟩
    · intro y0 y1 y2 y3
      unfold spec_alSpaces.l0
      repeat' first
      | (with_reducible exact ih0 _ _ _ _)
      | (with_reducible exact ih1 _ _ _ _ _ _ _)
      | (with_reducible exact ih2 _ _ _ _ _ _ _)
      | (with_reducible exact spec_alBefore.mono _ _ _)
      | (with_reducible exact spec_alGood.mono _ _ _)
      | (with_reducible exact LeO.refl _)
      | (with_reducible exact LeO.none _)
      | (with_reducible refine LeO.ite ?_ ?_)
      | (with_reducible refine LeO.bind ?_ (fun _ => ?_))
      | exact ih0 _ _ _ _
      | exact ih1 _ _ _ _ _ _ _
      | exact ih2 _ _ _ _ _ _ _
      | exact spec_alBefore.mono _ _ _
      | exact spec_alGood.mono _ _ _
      | exact LeO.none _
      | refine LeO.ite ?_ ?_
      | refine LeO.bind ?_ (fun _ => ?_)
    · intro y0 y1 y2 y3 y4 y5 y6
      unfold spec_alSpaces.l1
      repeat' first
      | (with_reducible exact ih0 _ _ _ _)
      | (with_reducible exact ih1 _ _ _ _ _ _ _)
      | (with_reducible exact ih2 _ _ _ _ _ _ _)
      | (with_reducible exact spec_alBefore.mono _ _ _)
      | (with_reducible exact spec_alGood.mono _ _ _)
      | (with_reducible exact LeO.refl _)
      | (with_reducible exact LeO.none _)
      | (with_reducible refine LeO.ite ?_ ?_)
      | (with_reducible refine LeO.bind ?_ (fun _ => ?_))
      | exact ih0 _ _ _ _
      | exact ih1 _ _ _ _ _ _ _
      | exact ih2 _ _ _ _ _ _ _
      | exact spec_alBefore.mono _ _ _
      | exact spec_alGood.mono _ _ _
      | exact LeO.none _
      | refine LeO.ite ?_ ?_
      | refine LeO.bind ?_ (fun _ => ?_)
    · intro y0 y1 y2 y3 y4 y5 y6
      unfold spec_alSpaces.l2
      repeat' first
      | (with_reducible exact ih0 _ _ _ _)
      | (with_reducible exact ih1 _ _ _ _ _ _ _)
      | (with_reducible exact ih2 _ _ _ _ _ _ _)
      | (with_reducible exact spec_alBefore.mono _ _ _)
      | (with_reducible exact spec_alGood.mono _ _ _)
      | (with_reducible exact LeO.refl _)
      | (with_reducible exact LeO.none _)
      | (with_reducible refine LeO.ite ?_ ?_)
      | (with_reducible refine LeO.bind ?_ (fun _ => ?_))
      | exact ih0 _ _ _ _
      | exact ih1 _ _ _ _ _ _ _
      | exact ih2 _ _ _ _ _ _ _
      | exact spec_alBefore.mono _ _ _
      | exact spec_alGood.mono _ _ _
      | exact LeO.none _
      | refine LeO.ite ?_ ?_
      | refine LeO.bind ?_ (fun _ => ?_)
theorem spec_alSpaces.mono : ∀ a0 k, LeO (spec_alSpaces.f k a0) (spec_alSpaces.f (k + 1) a0) := by
  intro a0 k
  obtain ⟨ih0, ih1, ih2⟩ := spec_alSpaces.mono_l k
  unfold spec_alSpaces.f
  repeat' first
      | (with_reducible exact ih0 _ _ _ _)
      | (with_reducible exact ih1 _ _ _ _ _ _ _)
      | (with_reducible exact ih2 _ _ _ _ _ _ _)
      | (with_reducible exact spec_alBefore.mono _ _ _)
      | (with_reducible exact spec_alGood.mono _ _ _)
      | (with_reducible exact LeO.refl _)
      | (with_reducible exact LeO.none _)
      | (with_reducible refine LeO.ite ?_ ?_)
      | (with_reducible refine LeO.bind ?_ (fun _ => ?_))
      | exact ih0 _ _ _ _
      | exact ih1 _ _ _ _ _ _ _
      | exact ih2 _ _ _ _ _ _ _
      | exact spec_alBefore.mono _ _ _
      | exact spec_alGood.mono _ _ _
      | exact LeO.none _
      | refine LeO.ite ?_ ?_
      | refine LeO.bind ?_ (fun _ => ?_)
def spec_alSpaces.T15 : Bool × List (List Nat × List Nat) := (true, [([], []), ([0], [0]), ([1], [1]), ([2], [2]), ([3, 2], [2, 3]), ([2], [2]), ([2], [2]), ([6, 2], [2, 6]), ([5, 7, 2], [2, 5, 7]), ([8, 2], [2, 8]), ([9, 2], [2, 9]), ([4, 10, 2, 2], [2, 4, 10]), ([2, 11], [2, 11])])
def spec_alSpaces.B15 : List Nat := [0, 1, 3, 7, 15, 7, 7, 71, 231, 487, 999, 2047, 4095]
theorem spec_alSpaces.tab15 : rtab .any (opsOf Try.f87 15) = spec_alSpaces.T15 := by kernel_rfl
theorem spec_alSpaces.bits15 : waitsOk spec_alSpaces.T15.2 spec_alSpaces.B15 = true := by kernel_rfl
def spec_alSpaces.T18 : Bool × List (List Nat × List Nat) := (true, [([], []), ([], []), ([1], [1]), ([0, 2], [0, 2]), ([], []), ([], []), ([4, 5], [4, 5]), ([3, 6, 3], [3, 6]), ([7, 7, 0, 1, 2, 3, 4, 5, 6, 7], [4, 7])])
def spec_alSpaces.B18 : List Nat := [0, 0, 2, 7, 0, 0, 48, 127, 255]
theorem spec_alSpaces.tab18 : rtab .any (opsOf Try.f87 18) = spec_alSpaces.T18 := by kernel_rfl
theorem spec_alSpaces.bits18 : waitsOk spec_alSpaces.T18.2 spec_alSpaces.B18 = true := by kernel_rfl
set_option maxHeartbeats 8000000 in
set_option maxRecDepth 100000 in
theorem spec_alSpaces.calls (k : Nat) (a0 : Int) (r : List (S28)) (w : World) (h : spec_alSpaces.f k a0 = some r) :
    Calls Try.prog 87 #[.int .i64 a0] w fun e w' => ∃ v0_ : Value, e = .returned (v0_) ∧ Kd.N k28 28 w' w.heap.size (fun k_ => (w.heap.size ≤ k_)) v0_ r ∧ Below w.heap.size w w' := by
  have hu28 := Try.underlying28
  have HB := Aside0.mk (Below.refl w.heap.size w)
  have H : (if 0 ≤ a0 then (spec_alSpaces.l0 k a0 (wrap64 ((shl .i64 1 a0) - 1)) ([] : List (S28)) 0) else (none)) = some r := h
  clear h
  by_cases c2 : 0 ≤ a0
  · rw [if_pos c2] at H
    have c2b0 := eq_true c2
    have c2b1 : decide (0 ≤ a0) = true := decide_eq_true c2
    clear c2
    obtain ⟨ji3, hji3⟩ : ∃ j_ : Int, (shl .i64 1 a0) = j_ := ⟨_, rfl⟩
    replace H : (spec_alSpaces.l0 k a0 (wrap64 ((ji3) - 1)) ([] : List (S28)) 0) = some r := by first | (rw [hji3] at H; exact H) | (simp only [hji3] at H ⊢; exact H)
    have hji3_ : (IntKind.i64.wrap (1 * 2 ^ min a0.toNat 64)) = ji3 := hji3
    have hji3z : a0 ≤ 64 → (IntKind.i64.wrap (1 * 2 ^ a0.toNat)) = ji3 := shl_small hji3
    have hji3u : (IntKind.i64.wrap (2 ^ min a0.toNat 64)) = ji3 := by have h_ := hji3_; rw [Int.one_mul] at h_; exact h_
    have hji3v : a0 ≤ 64 → (IntKind.i64.wrap (2 ^ a0.toNat)) = ji3 := fun hle_ => by have h_ := hji3z hle_; rw [Int.one_mul] at h_; exact h_
    have hji3y : (wrap64 (1 * 2 ^ min a0.toNat 64)) = ji3 := (i64_w _).symm.trans hji3_
    have hji3x : a0 ≤ 64 → (wrap64 (1 * 2 ^ a0.toNat)) = ji3 := fun h_ => (i64_w _).symm.trans (hji3z h_)
    have H' := Aside0.mk H
    clear H
    go_enter Try.func87, Try.ntmps87
    go_wp2
    go_loopg [4, 5] k (fun kq v4 v5 w' => ∃ (x4_1 : List (S28)) (x5_1 : Int), v5 = .int .i64 x5_1 ∧ Aside0 (spec_alSpaces.l0 kq a0 (wrap64 ((ji3) - 1)) x4_1 x5_1 = some r) ∧ Aside0 (kq ≤ k) ∧ Aside0 (Kd.N k28 28 w' w.heap.size (fun k_ => (w.heap.size ≤ k_)) v4 x4_1) ∧ Aside0 (Below w.heap.size w w'))
    case atStart => exact ⟨(([] : List (S28))), (0), (by first | rfl | (simp; done) | (simp [*]; done)), H', ⟨Nat.le_refl _⟩, ⟨by first | exact Kd.S_nil _ _ _ _ _ | exact Kd.N_nil _ _ _ _ _ | exact Kd.V_nil _ _ _ _ _ | exact Kd.Q_nil _ _ _ _ _ | exact Kd.R_nil _ _ _ _ _⟩, ⟨by repeat (first | (with_reducible first | exact HB.out | apply below_alloc | apply pw_below_drewN | apply below_drew1) | exact HB.out)⟩⟩
    case round =>
      clear H'
      try clear c2
      try clear c2b0
      try clear c2b1
      try clear p2
      obtain ⟨x4_1, x5_1, rfl, HA, HK1, HO_4, HB⟩ := hrel
      cases gk with
      | zero => exact absurd HA.out (by simp [spec_alSpaces.l0])
      | succ k1 =>
        have H := HA.out
        clear HA
        simp only [spec_alSpaces.l0] at H
        obtain ⟨ji4, hji4⟩ : ∃ j_ : Int, (wrap64 ((wrap64 ((ji3) - 1)) - 1)) = j_ := ⟨_, rfl⟩
        replace H : (if 0 ≤ (ji4) then (if x5_1 < (shl .i64 1 (ji4)) then (spec_alSpaces.l1 k1 a0 (wrap64 ((ji3) - 1)) x4_1 x5_1 1 a0 (([0] : List Int))) else (some x4_1)) else (none)) = some r := by first | (rw [hji4] at H; exact H) | (simp only [hji4] at H ⊢; exact H)
        have hji4w : (IntKind.i64.wrap ((wrap64 ((ji3) - 1)) - 1)) = ji4 := (i64_w _).trans hji4
        by_cases c5 : 0 ≤ (ji4)
        · rw [if_pos c5] at H
          have c5b0 := eq_true c5
          have c5b1 : decide (0 ≤ (ji4)) = true := decide_eq_true c5
          clear c5
          obtain ⟨ji6, hji6⟩ : ∃ j_ : Int, (shl .i64 1 (ji4)) = j_ := ⟨_, rfl⟩
          replace H : (if x5_1 < (ji6) then (spec_alSpaces.l1 k1 a0 (wrap64 ((ji3) - 1)) x4_1 x5_1 1 a0 (([0] : List Int))) else (some x4_1)) = some r := by first | (rw [hji6] at H; exact H) | (simp only [hji6] at H ⊢; exact H)
          have hji6_ : (IntKind.i64.wrap (1 * 2 ^ min (ji4).toNat 64)) = ji6 := hji6
          have hji6z : (ji4) ≤ 64 → (IntKind.i64.wrap (1 * 2 ^ (ji4).toNat)) = ji6 := shl_small hji6
          have hji6u : (IntKind.i64.wrap (2 ^ min (ji4).toNat 64)) = ji6 := by have h_ := hji6_; rw [Int.one_mul] at h_; exact h_
          have hji6v : (ji4) ≤ 64 → (IntKind.i64.wrap (2 ^ (ji4).toNat)) = ji6 := fun hle_ => by have h_ := hji6z hle_; rw [Int.one_mul] at h_; exact h_
          have hji6y : (wrap64 (1 * 2 ^ min (ji4).toNat 64)) = ji6 := (i64_w _).symm.trans hji6_
          have hji6x : (ji4) ≤ 64 → (wrap64 (1 * 2 ^ (ji4).toNat)) = ji6 := fun h_ => (i64_w _).symm.trans (hji6z h_)
          by_cases c7 : x5_1 < (ji6)
          · rw [if_pos c7] at H
            have c7b0 : decide (x5_1 < (ji6)) = true := decide_eq_true c7
            clear c7
            obtain ⟨y207, hy207⟩ : ∃ y_ : List Int, y_ = (([0] : List Int)) := ⟨_, rfl⟩
            replace H : (spec_alSpaces.l1 k1 a0 (wrap64 ((ji3) - 1)) x4_1 x5_1 1 a0 y207) = some r := by first | (rw [hy207]; with_reducible exact H) | (have H2_ := (Option.bind_some _ _).symm.trans H; rw [hy207]; with_reducible exact H2_) | (have H2_ := (Option.bind_some _ _).symm.trans H; with_reducible exact H2_) | with_reducible exact H | (rw [hy207]; exact H) | exact H
            have Ny207 := Aside0.mk hy207
            clear hy207
            have H' := Aside0.mk H
            clear H
            go_wp2_with (first | ((with_reducible refine gate_dst (N := 21) rfl ?_); refine Kd.R_lit (Kd.int .i64) _ 3 ?hg (N := 21) ?hd (xs := ([0] : List Int)) (inner := [.int .i64 0]) (ok := fun _ => True) (okp := fun _ => True) ?hr ?hp (fun _ hk => hk) trivial (Below.refl _ _) (Nat.le_refl _) (by simp) ?_; (case hd => rfl); (case hg => rfl); (case hr => first | (go_simp; done) | (go_simp; rfl)); (case hp => exact (Reps.one (show Kd.M (Kd.int .i64) _ _ _ 0 [.int .i64 0] from rfl) (Reps.none _ _))); intro v208 w8 ho9 hb hg_ hnew_; clear hg_ hnew_; (first | rw [← Ny207.out] at ho9 | (simp only [Int.reduceToNat] at ho9; rw [← Ny207.out] at ho9)); have n0_ := Aside0.mk (Kd.N_elder' (by (with_reducible repeat (first | apply Kd.N_alloc | apply Kd.N_drewN | apply Kd.N_drew)); exact HO_4.out) (Kd.R_base ho9) hb); have n1_ := Aside0.mk (Kd.R_lower (Kd.R_newM (M := fun k_ => (w.heap.size ≤ k_)) ho9 (below_size (by repeat (first | (with_reducible first | exact HB.out | apply below_alloc | apply pw_below_drewN | apply below_drew1) | exact HB.out))) (fun k_ h_ => h_)) (below_size (by repeat (first | (with_reducible first | exact HB.out | apply below_alloc | apply pw_below_drewN | apply below_drew1) | exact HB.out)))); have n2_ := Aside0.mk (below_step (by repeat (first | (with_reducible first | exact HB.out | apply below_alloc | apply pw_below_drewN | apply below_drew1) | exact HB.out)) hb); clear HO_4; clear HB; have HO_4 := n0_; have HO209 := n1_; have HB := n2_; clear n0_ n1_ n2_; clear hb ho9; obtain ⟨Ao10, co10, eo10⟩ := Kd.R_slice HO209.out; subst eo10) | ((with_reducible refine gate_dst (N := 6) rfl ?_); refine box_event ?hg (N := 6) ?hd (cs := #[.int .i64 0, .slice none 0 0]) (t := 28) ?hr ?_; (case hd => rfl); (case hg => rfl); (case hr => first | (go_simp; done) | (go_simp; rfl)); intro gb210 hg w11 hbox hb; have n0_ := Aside0.mk (Kd.N_below (Kd.N_elderB (by (with_reducible repeat (first | apply Kd.N_alloc | apply Kd.N_drewN | apply Kd.N_drew)); exact HO_4.out) gb210 (Nat.le_of_eq hg.symm)) hb); have n1_ := Aside0.mk (Kd.R_below (by (with_reducible repeat (first | apply Kd.R_alloc | apply Kd.R_drewN | apply Kd.R_drew)); exact HO209.out) hb); have n2_ := Aside0.mk (below_step (by repeat (first | (with_reducible first | exact HB.out | apply below_alloc | apply pw_below_drewN | apply below_drew1) | exact HB.out)) hb); have n3_ := Aside0.mk (hbox); have n4_ := Aside0.mk ((by rw [hg]; exact (below_size (by repeat (first | (with_reducible first | exact HB.out | apply below_alloc | apply pw_below_drewN | apply below_drew1) | exact HB.out))) : w.heap.size ≤ gb210)); have n5_ := Aside0.mk ((by rw [hg]; exact (below_size (by repeat (first | (with_reducible first | exact HB.out | apply below_alloc | apply pw_below_drewN | apply below_drew1) | exact HB.out))) : w.heap.size ≤ gb210)); clear HO_4; clear HO209; clear HB; have HO_4 := n0_; have HO209 := n1_; have HB := n2_; have BK210 := n3_; have GW210 := n4_; have GE210 := n5_; clear n0_ n1_ n2_ n3_ n4_ n5_; clear hb hbox hg; have hcz12_0 : w11.cell? ⟨gb210, 0, none⟩ = some (.int .i64 0) := (blk_cell BK210.out 0).trans rfl; have hcz12_1 : w11.cell? ⟨gb210, 1, none⟩ = some (.slice none 0 0) := (blk_cell BK210.out 1).trans rfl; have hfz12_0 := blk_frozen BK210.out 0; have hfz12_1 := blk_frozen BK210.out 1))
            go_loopg [7] k1 (fun kq v7 w' => ∃ (x7_2 : Int) (x211001_2 : List Int) (u211001 : Value), v7 = .int .i64 x7_2 ∧ Aside0 (spec_alSpaces.l1 kq a0 (wrap64 ((ji3) - 1)) x4_1 x5_1 x7_2 a0 x211001_2 = some r) ∧ Aside0 (kq ≤ k1) ∧ Aside0 (Kd.N k28 28 w' w.heap.size (fun k_ => (w.heap.size ≤ k_) ∧ some k_ ≠ (u211001 : Value).ownBlock ∧ k_ ≠ gb210) u4 x4_1) ∧ Aside0 (Kd.R (Kd.int .i64) 3 w' w.heap.size (fun k_ => (w.heap.size ≤ k_)) u211001 x211001_2) ∧ Aside0 (w'.heap[gb210]? = some (.cells #[.int .i64 a0, u211001] 28 (0, 0))) ∧ Aside0 (Below w.heap.size w w'))
            case atStart => exact ⟨(1), (y207), (.slice Ao10 y207.length co10), (by first | rfl | (simp; done) | (simp [*]; done)), H', ⟨Nat.le_refl _⟩, ⟨by (with_reducible repeat (first | apply Kd.N_alloc | apply Kd.N_drewN | apply Kd.N_drew)); exact Kd.N_mono (Kd.N_far (p := ⟨gb210, 1, none⟩) (Kd.N_far (p := ⟨gb210, 0, none⟩) (Kd.N_mono HO_4.out (fun k_ hk => (⟨hk, hk.2⟩ : _ ∧ k_ ≠ gb210))) (fun _ hk => hk.2) (.int .i64 a0)) (fun _ hk => hk.2) (.slice Ao10 y207.length co10)) (fun _ hk => ⟨hk.1.1.1, ⟨hk.1.1.2, hk.1.2⟩⟩)⟩, ⟨by (with_reducible repeat (first | apply Kd.R_alloc | apply Kd.R_drewN | apply Kd.R_drew)); exact Kd.R_mono (Kd.R_far (p := ⟨gb210, 1, none⟩) (Kd.R_far (p := ⟨gb210, 0, none⟩) (Kd.R_types HO209.out BK210.out (by decide)) (fun _ hk => hk.2) (.int .i64 a0)) (fun _ hk => hk.2) (.slice Ao10 y207.length co10)) (fun _ hk => hk.1.1)⟩, ⟨by (with_reducible repeat (first | refine blk_drewN ?_ _ | refine blk_drew ?_ | refine blk_alloc ?_ _)); refine blk_put (cs := #[.int .i64 a0, .slice none 0 0]) ?_ 1 _ rfl; (with_reducible repeat (first | refine blk_drewN ?_ _ | refine blk_drew ?_ | refine blk_alloc ?_ _)); refine blk_put (cs := #[.int .i64 0, .slice none 0 0]) ?_ 0 _ rfl; (with_reducible repeat (first | refine blk_drewN ?_ _ | refine blk_drew ?_ | refine blk_alloc ?_ _)); exact BK210.out⟩, ⟨by repeat (first | (with_reducible first | exact HB.out | apply below_alloc | apply pw_below_drewN | apply below_drew1 | refine below_set ?_ GE210.out) | exact HB.out)⟩⟩
            case round =>
              clear H'
              try clear c2
              try clear c2b0
              try clear c2b1
              try clear p2
              try clear c5
              try clear c5b0
              try clear c5b1
              try clear p6
              try clear c7
              try clear c7b0
              try clear c8
              try clear hcz12_0
              try clear hcz12_1
              try clear hfz12_0
              try clear hfz12_1
              try clear p2
              obtain ⟨x7_2, x211001_2, u211001, rfl, HA, HK2, HO_4, HO_211001, BK210, HB⟩ := hrel
              cases gk with
              | zero => exact absurd HA.out (by simp [spec_alSpaces.l1])
              | succ k2 =>
                have H := HA.out
                clear HA
                simp only [spec_alSpaces.l1] at H
                by_cases c13 : x7_2 < (wrap64 ((ji3) - 1))
                · rw [if_pos c13] at H
                  have c13b0 : decide (x7_2 < (wrap64 ((ji3) - 1))) = true := decide_eq_true c13
                  clear c13
                  replace H := Option.bind_eq_some_iff.mp H
                  obtain ⟨t211, A140, H⟩ := H
                  replace H : (if t211 = true then (if x211001_2.length < 17592186044416 then (spec_alSpaces.l1 k2 a0 (wrap64 ((ji3) - 1)) x4_1 x5_1 (wrap64 (x7_2 + 1)) a0 (x211001_2 ++ [x7_2])) else (none)) else (spec_alSpaces.l1 k2 a0 (wrap64 ((ji3) - 1)) x4_1 x5_1 (wrap64 (x7_2 + 1)) a0 x211001_2)) = some r := H
                  have A14 := Aside0.mk A140
                  clear A140
                  by_cases c15 : t211 = true
                  · subst c15
                    have H1 : (if x211001_2.length < 17592186044416 then (spec_alSpaces.l1 k2 a0 (wrap64 ((ji3) - 1)) x4_1 x5_1 (wrap64 (x7_2 + 1)) a0 (x211001_2 ++ [x7_2])) else (none)) = some r := by rw [if_pos rfl] at H; exact H
                    clear H
                    have H := H1
                    clear H1
                    by_cases c16 : x211001_2.length < 17592186044416
                    · rw [if_pos c16] at H
                      have LMc16 := Aside0.mk c16
                      clear c16
                      obtain ⟨y212, hy212⟩ : ∃ y_ : List Int, y_ = (x211001_2 ++ [x7_2]) := ⟨_, rfl⟩
                      replace H : (spec_alSpaces.l1 k2 a0 (wrap64 ((ji3) - 1)) x4_1 x5_1 (wrap64 (x7_2 + 1)) a0 y212) = some r := by first | (rw [hy212]; with_reducible exact H) | (have H2_ := (Option.bind_some _ _).symm.trans H; rw [hy212]; with_reducible exact H2_) | (have H2_ := (Option.bind_some _ _).symm.trans H; with_reducible exact H2_) | with_reducible exact H | (rw [hy212]; exact H) | exact H
                      have Ny212 := Aside0.mk hy212
                      clear hy212
                      have H' := Aside0.mk H
                      clear H
                      go_wp2_with (first | ((with_reducible refine gate_callee (f := 102) rfl ?_); refine goesL_ (some 31) rfl rfl Try.func102 (by kernel_rfl) rfl #[.int .i64 x5_1, .int .i64 (wrap64 (x7_2 - 1))] rfl (by (try simp only [List.map_toArray, List.map_cons, List.map_nil]); first | done | rfl | (simp only [List.length_drop, List.length_take]; rfl)) ?_; (with_reducible refine (spec_spIn.calls x5_1 (wrap64 (x7_2 - 1)) true _ A14.out).mono ?_); rintro e w' ⟨rfl, ⟨nd, rfl⟩⟩; refine ⟨_, rfl, ?_⟩; (try (rw [drewN_self wr]; generalize hq_ : World.drewN wr _ = wr; have n0_ : Aside0 (Kd.R (Kd.int .i64) 3 wr w.heap.size (fun k_ => (w.heap.size ≤ k_)) u211001 x211001_2) := ⟨by rw [← hq_]; exact (by (with_reducible repeat (first | apply Kd.R_alloc | apply Kd.R_drewN | apply Kd.R_drew)); exact HO_211001.out)⟩; have n1_ : Aside0 (Kd.N k28 28 wr w.heap.size (fun k_ => (w.heap.size ≤ k_) ∧ some k_ ≠ (u211001 : Value).ownBlock ∧ k_ ≠ gb210) u4 x4_1) := ⟨by rw [← hq_]; exact (by (with_reducible repeat (first | apply Kd.N_alloc | apply Kd.N_drewN | apply Kd.N_drew)); exact HO_4.out)⟩; have n2_ : Aside0 (wr.heap[gb210]? = some (.cells #[.int .i64 a0, u211001] 28 (0, 0))) := ⟨by rw [← hq_]; exact (by (with_reducible repeat (first | refine blk_drewN ?_ _ | refine blk_drew ?_ | refine blk_alloc ?_ _)); exact BK210.out)⟩; have n3_ : Aside0 (Below w.heap.size w wr) := ⟨by rw [← hq_]; exact (by repeat (first | (with_reducible first | exact HB.out | apply below_alloc | apply pw_below_drewN | apply below_drew1 | refine below_set ?_ GE210.out) | exact HB.out))⟩; clear HO_211001 HO_4 BK210 HB hq_; have HO_211001 := n0_; have HO_4 := n1_; have BK210 := n2_; have HB := n3_; clear n0_ n1_ n2_ n3_)); have hcz17_0 : wr.cell? ⟨gb210, 0, none⟩ = some (.int .i64 a0) := (blk_cell BK210.out 0).trans rfl; have hcz17_1 : wr.cell? ⟨gb210, 1, none⟩ = some (u211001) := (blk_cell BK210.out 1).trans rfl; have hfz17_0 := blk_frozen BK210.out 0; have hfz17_1 := blk_frozen BK210.out 1) | ((with_reducible refine gate_builtin (b := .append) (xs := #[.tmp 33, .tmp 35]) rfl ?_); at_builtin; refine Kd.R_append (Kd.int .i64) (w0 := w) w.heap.size rfl (.tmp 33) (.tmp 35) 22 3 (.int .i64 0) 8 rfl Try.underlying22 info3 rfl (by decide) (by omega) u211001 x211001_2 x7_2 [.int .i64 x7_2] (fun k_ => (w.heap.size ≤ k_)) (fun _ => False) rfl rfl ?aP (fun _ hk => hk.elim) ?aF ?aO ?aB ?aS ?aL ?_; (case aP => exact rfl); (case aB => exact (by repeat (first | (with_reducible first | exact HB.out | apply below_alloc | apply pw_below_drewN | apply below_drew1 | refine below_set ?_ GE210.out) | exact HB.out))); (case aF => exact (fun k_ hk => (Nat.le_trans (below_size (by repeat (first | (with_reducible first | exact HB.out | apply below_alloc | apply pw_below_drewN | apply below_drew1 | refine below_set ?_ GE210.out) | exact HB.out))) hk))); (case aO => exact (by (with_reducible repeat (first | apply Kd.R_alloc | apply Kd.R_drewN | apply Kd.R_drew)); exact HO_211001.out)); (case aS => exact (below_size (by repeat (first | (with_reducible first | exact HB.out | apply below_alloc | apply pw_below_drewN | apply below_drew1 | refine below_set ?_ GE210.out) | exact HB.out)))); (case aL => have := LMc16.out; omega); intro v213 w18 ho hb hg hat; rw [← Ny212.out] at ho; have n0_ := Aside0.mk (Kd.N_afterv (ok := (fun k_ => (w.heap.size ≤ k_) ∧ k_ ≠ gb210)) (by (with_reducible repeat (first | apply Kd.N_alloc | apply Kd.N_drewN | apply Kd.N_drew)); exact Kd.N_mono HO_4.out (fun _ hk => ⟨⟨hk.1, hk.2.2⟩, hk.2.1⟩)) hg hat); have n1_ := Aside0.mk (blk_grown (g := gb210) (o := .cells #[.int .i64 a0, u211001] 28 (0, 0)) (by (with_reducible repeat (first | refine blk_drewN ?_ _ | refine blk_drew ?_ | refine blk_alloc ?_ _)); exact BK210.out) hg (Kd.R_ne HO_211001.out BK210.out (by decide))); have n2_ := Aside0.mk (hb); have n3_ := Aside0.mk (ho); clear HO_4; clear BK210; clear HB; clear HO_211001; have HO_4 := n0_; have BK210 := n1_; have HB := n2_; have HO214 := n3_; clear n0_ n1_ n2_ n3_; clear ho hb hg hat; obtain ⟨Ao19, co19, eo19⟩ := Kd.R_slice HO214.out; subst eo19; have hcz20_0 : w18.cell? ⟨gb210, 0, none⟩ = some (.int .i64 a0) := (blk_cell BK210.out 0).trans rfl; have hcz20_1 : w18.cell? ⟨gb210, 1, none⟩ = some (u211001) := (blk_cell BK210.out 1).trans rfl; have hfz20_0 := blk_frozen BK210.out 0; have hfz20_1 := blk_frozen BK210.out 1))
                      go_roundg k2
                      case measure => have := HK1.out; have := HK2.out; omega
                      case rel => exact ⟨(wrap64 (x7_2 + 1)), (y212), (.slice Ao19 y212.length co19), (by first | rfl | (simp; done) | (simp [*]; done)), H', ⟨by have := HK1.out; have := HK2.out; omega⟩, ⟨by (with_reducible repeat (first | apply Kd.N_alloc | apply Kd.N_drewN | apply Kd.N_drew)); exact Kd.N_mono (Kd.N_far (p := ⟨gb210, 1, none⟩) (Kd.N_mono HO_4.out (fun k_ hk => (⟨hk, hk.1.2⟩ : _ ∧ k_ ≠ gb210))) (fun _ hk => hk.2) (.slice Ao19 y212.length co19)) (fun _ hk => ⟨hk.1.1.1, ⟨hk.1.2, hk.1.1.2⟩⟩)⟩, ⟨by (with_reducible repeat (first | apply Kd.R_alloc | apply Kd.R_drewN | apply Kd.R_drew)); exact Kd.R_mono (Kd.R_far (p := ⟨gb210, 1, none⟩) (Kd.R_types HO214.out BK210.out (by decide)) (fun _ hk => hk.2) (.slice Ao19 y212.length co19)) (fun _ hk => hk.1)⟩, ⟨by (with_reducible repeat (first | refine blk_drewN ?_ _ | refine blk_drew ?_ | refine blk_alloc ?_ _)); refine blk_put (cs := #[.int .i64 a0, u211001]) ?_ 1 _ rfl; (with_reducible repeat (first | refine blk_drewN ?_ _ | refine blk_drew ?_ | refine blk_alloc ?_ _)); exact BK210.out⟩, ⟨by repeat (first | (with_reducible first | exact HB.out | apply below_alloc | apply pw_below_drewN | apply below_drew1 | refine below_set ?_ GE210.out) | exact HB.out)⟩⟩
                    · rw [if_neg c16] at H
                      exact absurd H (by simp)
                  · replace c15 := Bool.eq_false_iff.mpr c15
                    subst c15
                    have H1 : (spec_alSpaces.l1 k2 a0 (wrap64 ((ji3) - 1)) x4_1 x5_1 (wrap64 (x7_2 + 1)) a0 x211001_2) = some r := by rw [if_neg (show ¬ (false = true) by decide)] at H; exact H
                    clear H
                    have H := H1
                    clear H1
                    have H' := Aside0.mk H
                    clear H
                    go_wp2_with (first | ((with_reducible refine gate_callee (f := 102) rfl ?_); refine goesL_ (some 31) rfl rfl Try.func102 (by kernel_rfl) rfl #[.int .i64 x5_1, .int .i64 (wrap64 (x7_2 - 1))] rfl (by (try simp only [List.map_toArray, List.map_cons, List.map_nil]); first | done | rfl | (simp only [List.length_drop, List.length_take]; rfl)) ?_; (with_reducible refine (spec_spIn.calls x5_1 (wrap64 (x7_2 - 1)) false _ A14.out).mono ?_); rintro e w' ⟨rfl, ⟨nd, rfl⟩⟩; refine ⟨_, rfl, ?_⟩))
                    go_roundg k2
                    case measure => have := HK1.out; have := HK2.out; omega
                    case rel => exact ⟨(wrap64 (x7_2 + 1)), (x211001_2), (u211001), (by first | rfl | (simp; done) | (simp [*]; done)), H', ⟨by have := HK1.out; have := HK2.out; omega⟩, ⟨by (with_reducible repeat (first | apply Kd.N_alloc | apply Kd.N_drewN | apply Kd.N_drew)); exact HO_4.out⟩, ⟨by (with_reducible repeat (first | apply Kd.R_alloc | apply Kd.R_drewN | apply Kd.R_drew)); exact HO_211001.out⟩, ⟨by (with_reducible repeat (first | refine blk_drewN ?_ _ | refine blk_drew ?_ | refine blk_alloc ?_ _)); exact BK210.out⟩, ⟨by repeat (first | (with_reducible first | exact HB.out | apply below_alloc | apply pw_below_drewN | apply below_drew1 | refine below_set ?_ GE210.out) | exact HB.out)⟩⟩
                · rw [if_neg c13] at H
                  have c13b0 : decide (x7_2 < (wrap64 ((ji3) - 1))) = false := decide_eq_false c13
                  clear c13
                  by_cases c21 : x211001_2.length < 17592186044416
                  · rw [if_pos c21] at H
                    have LMc21 := Aside0.mk c21
                    clear c21
                    obtain ⟨y215, hy215⟩ : ∃ y_ : List Int, y_ = (x211001_2 ++ [(wrap64 ((ji3) - 1))]) := ⟨_, rfl⟩
                    replace H : ((spec_alGood.f k2 a0 y215).bind fun t218 => (if t218 = true then (spec_alSpaces.l2 k2 a0 (wrap64 ((ji3) - 1)) x4_1 x5_1 (x4_1.length : Int) a0 y215) else (spec_alSpaces.l0 k2 a0 (wrap64 ((ji3) - 1)) x4_1 (wrap64 (x5_1 + 1))))) = some r := by first | (rw [hy215]; with_reducible exact H) | (have H2_ := (Option.bind_some _ _).symm.trans H; rw [hy215]; with_reducible exact H2_) | (have H2_ := (Option.bind_some _ _).symm.trans H; with_reducible exact H2_) | with_reducible exact H | (rw [hy215]; exact H) | exact H
                    have Ny215 := Aside0.mk hy215
                    clear hy215
                    replace H := Option.bind_eq_some_iff.mp H
                    obtain ⟨t218, A220, H⟩ := H
                    replace H : (if t218 = true then (spec_alSpaces.l2 k2 a0 (wrap64 ((ji3) - 1)) x4_1 x5_1 (x4_1.length : Int) a0 y215) else (spec_alSpaces.l0 k2 a0 (wrap64 ((ji3) - 1)) x4_1 (wrap64 (x5_1 + 1)))) = some r := H
                    have A22 := Aside0.mk A220
                    clear A220
                    by_cases c23 : t218 = true
                    · subst c23
                      have H1 : (spec_alSpaces.l2 k2 a0 (wrap64 ((ji3) - 1)) x4_1 x5_1 (x4_1.length : Int) a0 y215) = some r := by rw [if_pos rfl] at H; exact H
                      clear H
                      have H := H1
                      clear H1
                      have H' := Aside0.mk H
                      clear H
                      have hcz24_0 : wr.cell? ⟨gb210, 0, none⟩ = some (.int .i64 a0) := (blk_cell BK210.out 0).trans rfl
                      have hcz24_1 : wr.cell? ⟨gb210, 1, none⟩ = some (u211001) := (blk_cell BK210.out 1).trans rfl
                      have hfz24_0 := blk_frozen BK210.out 0
                      have hfz24_1 := blk_frozen BK210.out 1
                      go_wp2_with (first | ((with_reducible refine gate_builtin (b := .append) (xs := #[.tmp 39, .tmp 41]) rfl ?_); at_builtin; refine Kd.R_append (Kd.int .i64) (w0 := w) w.heap.size rfl (.tmp 39) (.tmp 41) 22 3 (.int .i64 0) 8 rfl Try.underlying22 info3 rfl (by decide) (by omega) u211001 x211001_2 (wrap64 ((ji3) - 1)) [.int .i64 (wrap64 ((ji3) - 1))] (fun k_ => (w.heap.size ≤ k_)) (fun _ => False) rfl rfl ?aP (fun _ hk => hk.elim) ?aF ?aO ?aB ?aS ?aL ?_; (case aP => exact rfl); (case aB => exact (by repeat (first | (with_reducible first | exact HB.out | apply below_alloc | apply pw_below_drewN | apply below_drew1 | refine below_set ?_ GE210.out) | exact HB.out))); (case aF => exact (fun k_ hk => (Nat.le_trans (below_size (by repeat (first | (with_reducible first | exact HB.out | apply below_alloc | apply pw_below_drewN | apply below_drew1 | refine below_set ?_ GE210.out) | exact HB.out))) hk))); (case aO => exact (by (with_reducible repeat (first | apply Kd.R_alloc | apply Kd.R_drewN | apply Kd.R_drew)); exact HO_211001.out)); (case aS => exact (below_size (by repeat (first | (with_reducible first | exact HB.out | apply below_alloc | apply pw_below_drewN | apply below_drew1 | refine below_set ?_ GE210.out) | exact HB.out)))); (case aL => have := LMc21.out; omega); intro v216 w25 ho hb hg hat; rw [← Ny215.out] at ho; have n0_ := Aside0.mk (Kd.N_afterv (ok := (fun k_ => (w.heap.size ≤ k_) ∧ k_ ≠ gb210)) (by (with_reducible repeat (first | apply Kd.N_alloc | apply Kd.N_drewN | apply Kd.N_drew)); exact Kd.N_mono HO_4.out (fun _ hk => ⟨⟨hk.1, hk.2.2⟩, hk.2.1⟩)) hg hat); have n1_ := Aside0.mk (blk_grown (g := gb210) (o := .cells #[.int .i64 a0, u211001] 28 (0, 0)) (by (with_reducible repeat (first | refine blk_drewN ?_ _ | refine blk_drew ?_ | refine blk_alloc ?_ _)); exact BK210.out) hg (Kd.R_ne HO_211001.out BK210.out (by decide))); have n2_ := Aside0.mk (hb); have n3_ := Aside0.mk (ho); clear HO_4; clear BK210; clear HB; clear HO_211001; have HO_4 := n0_; have BK210 := n1_; have HB := n2_; have HO217 := n3_; clear n0_ n1_ n2_ n3_; clear ho hb hg hat; obtain ⟨Ao26, co26, eo26⟩ := Kd.R_slice HO217.out; subst eo26; have hcz27_0 : w25.cell? ⟨gb210, 0, none⟩ = some (.int .i64 a0) := (blk_cell BK210.out 0).trans rfl; have hcz27_1 : w25.cell? ⟨gb210, 1, none⟩ = some (u211001) := (blk_cell BK210.out 1).trans rfl; have hfz27_0 := blk_frozen BK210.out 0; have hfz27_1 := blk_frozen BK210.out 1) | ((with_reducible refine gate_callee (f := 124) rfl ?_); refine goesL_ (some 45) rfl rfl Try.func124 (by kernel_rfl) rfl #[.agg #[.int .i64 a0, .slice Ao26 y215.length co26]] rfl (by (try simp only [List.map_toArray, List.map_cons, List.map_nil]); first | done | rfl | (simp only [List.length_drop, List.length_take]; rfl)) ?_; (with_reducible refine (spec_alGood.calls k2 a0 _ _ y215 true _ ?side1 ?side2 A22.out).mono ?_); (case side1 => refine (Kd.R_reads' (e := 3) (base := w.heap.size) (ok := fun k_ => (w.heap.size ≤ k_)) (n := y215.length) (c := co26) ?_).2.2; exact (by (with_reducible repeat (first | apply Kd.R_alloc | apply Kd.R_drewN | apply Kd.R_drew)); exact (Kd.R_mono (Kd.R_far (p := ⟨gb210, 1, none⟩) (Kd.R_types HO217.out BK210.out (by decide)) (fun _ hk => hk.2) (.slice Ao26 y215.length co26)) (fun _ h_ => h_.1)))); (case side2 => exact (Kd.R_reads' HO217.out).2.1); rintro e w28 ⟨rfl, hb⟩; refine ⟨_, rfl, ?_⟩; have n0_ := Aside0.mk (Kd.N_below (by (with_reducible repeat (first | apply Kd.N_alloc | apply Kd.N_drewN | apply Kd.N_drew)); exact (Kd.N_mono (Kd.N_far (p := ⟨gb210, 1, none⟩) (Kd.N_mono HO_4.out (fun k_ hk => (⟨hk, hk.1.2⟩ : _ ∧ k_ ≠ gb210))) (fun _ hk => hk.2) (.slice Ao26 y215.length co26)) (fun _ h_ => h_.1))) hb); have n1_ := Aside0.mk (Kd.R_below (by (with_reducible repeat (first | apply Kd.R_alloc | apply Kd.R_drewN | apply Kd.R_drew)); exact (Kd.R_mono (Kd.R_far (p := ⟨gb210, 1, none⟩) (Kd.R_types HO217.out BK210.out (by decide)) (fun _ hk => hk.2) (.slice Ao26 y215.length co26)) (fun _ h_ => h_.1))) hb); have n2_ := Aside0.mk (blk_below (g := gb210) (o := .cells #[.int .i64 a0, .slice Ao26 y215.length co26] 28 (0, 0)) (by (with_reducible repeat (first | refine blk_drewN ?_ _ | refine blk_drew ?_ | refine blk_alloc ?_ _)); refine blk_put (cs := #[.int .i64 a0, u211001]) ?_ 1 _ rfl; (with_reducible repeat (first | refine blk_drewN ?_ _ | refine blk_drew ?_ | refine blk_alloc ?_ _)); exact BK210.out) hb); have n3_ := Aside0.mk (below_step (by repeat (first | (with_reducible first | exact HB.out | apply below_alloc | apply pw_below_drewN | apply below_drew1 | refine below_set ?_ GE210.out) | exact HB.out)) hb); clear HO_4; clear HO217; clear BK210; clear HB; have HO_4 := n0_; have HO217 := n1_; have BK210 := n2_; have HB := n3_; clear n0_ n1_ n2_ n3_; (try clear hb); (try clear hb2); (try clear hk); (try clear hi); obtain ⟨Ao29, co29, eo29⟩ := Kd.N_slice HO_4.out; subst eo29))
                      go_loopg [8] k2 (fun kq v8 w' => ∃ (x8_3 : Int), v8 = .int .i64 x8_3 ∧ Aside0 (spec_alSpaces.l2 kq a0 (wrap64 ((ji3) - 1)) x4_1 x5_1 x8_3 a0 y215 = some r) ∧ Aside0 (kq ≤ k2) ∧ Aside0 (Kd.N k28 28 w' w.heap.size (fun k_ => (w.heap.size ≤ k_) ∧ some k_ ≠ ((.slice Ao26 y215.length co26) : Value).ownBlock ∧ k_ ≠ gb210) (.slice Ao29 x4_1.length co29) x4_1) ∧ Aside0 (Kd.R (Kd.int .i64) 3 w' w.heap.size (fun k_ => (w.heap.size ≤ k_)) (.slice Ao26 y215.length co26) y215) ∧ Aside0 (w'.heap[gb210]? = some (.cells #[.int .i64 a0, (.slice Ao26 y215.length co26)] 28 (0, 0))) ∧ Aside0 (Below w.heap.size w w'))
                      case atStart => exact ⟨((x4_1.length : Int)), (by first | rfl | (simp; done) | (simp [*]; done)), H', ⟨Nat.le_refl _⟩, ⟨by (with_reducible repeat (first | apply Kd.N_alloc | apply Kd.N_drewN | apply Kd.N_drew)); exact Kd.N_mono HO_4.out (fun _ hk => ⟨hk.1.1, ⟨hk.2, hk.1.2⟩⟩)⟩, ⟨by (with_reducible repeat (first | apply Kd.R_alloc | apply Kd.R_drewN | apply Kd.R_drew)); exact HO217.out⟩, ⟨by (with_reducible repeat (first | refine blk_drewN ?_ _ | refine blk_drew ?_ | refine blk_alloc ?_ _)); exact BK210.out⟩, ⟨by repeat (first | (with_reducible first | exact HB.out | apply below_alloc | apply pw_below_drewN | apply below_drew1 | refine below_set ?_ GE210.out) | exact HB.out)⟩⟩
                      case round =>
                        clear H'
                        try clear c1
                        try clear c2
                        try clear c2b0
                        try clear c2b1
                        try clear p2
                        try clear c5
                        try clear c5b0
                        try clear c5b1
                        try clear p6
                        try clear c7
                        try clear c7b0
                        try clear c8
                        try clear c10
                        try clear c12
                        try clear c13
                        try clear c13b0
                        try clear c15
                        try clear c16
                        try clear c21
                        try clear c23
                        try clear hcz12_0
                        try clear hcz12_1
                        try clear hcz17_0
                        try clear hcz17_1
                        try clear hcz20_0
                        try clear hcz20_1
                        try clear hcz24_0
                        try clear hcz24_1
                        try clear hcz27_0
                        try clear hcz27_1
                        try clear hfz12_0
                        try clear hfz12_1
                        try clear hfz17_0
                        try clear hfz17_1
                        try clear hfz20_0
                        try clear hfz20_1
                        try clear hfz24_0
                        try clear hfz24_1
                        try clear hfz27_0
                        try clear hfz27_1
                        try clear p2
                        try clear p6
                        obtain ⟨x8_3, rfl, HA, HK3, HO_4, HO_211001, BK210, HB⟩ := hrel
                        cases gk with
                        | zero => exact absurd HA.out (by simp [spec_alSpaces.l2])
                        | succ k3 =>
                          have H := HA.out
                          clear HA
                          simp only [spec_alSpaces.l2] at H
                          by_cases c30 : x8_3 > 0
                          · rw [if_pos c30] at H
                            have c30b0 : decide (0 < x8_3) = true := decide_eq_true c30
                            clear c30
                            obtain ⟨ji31, hji31⟩ : ∃ j_ : Int, (wrap64 (x8_3 - 1)) = j_ := ⟨_, rfl⟩
                            replace H : (if 0 ≤ (ji31) then (if (ji31) < (x4_1.length : Int) then ((spec_alBefore.f k3 y215 ((rd_T28 x4_1 (ji31)).f1)).bind fun t220 => (if t220 = true then (spec_alSpaces.l2 k3 a0 (wrap64 ((ji3) - 1)) x4_1 x5_1 ji31 a0 y215) else ((some (([] : List (S28)) : List (S28))).bind fun y221 => (if 0 ≤ x8_3 then (if x8_3 ≤ (x4_1.length : Int) then ((some (x4_1.take (x8_3 : Int).toNat : List (S28))).bind fun y224 => (if y221.length + y224.length < 4398046511104 then ((some (y221 ++ y224 : List (S28))).bind fun y229 => (if y229.length < 4398046511104 then ((some (y229 ++ [(⟨a0, y215⟩ : S28)] : List (S28))).bind fun y232 => ((some (x4_1.drop (x8_3 : Int).toNat : List (S28))).bind fun y235 => (if y232.length + y235.length < 4398046511104 then (spec_alSpaces.l0 k3 a0 (wrap64 ((ji3) - 1)) (y232 ++ y235) (wrap64 (x5_1 + 1))) else (none)))) else (none))) else (none))) else (none)) else (none))))) else (none)) else (none)) = some r := by first | (rw [hji31] at H; exact H) | (simp only [hji31] at H ⊢; exact H)
                            have hji31w : (IntKind.i64.wrap (x8_3 - 1)) = ji31 := (i64_w _).trans hji31
                            by_cases c32 : 0 ≤ (ji31)
                            · rw [if_pos c32] at H
                              have c32b0 : decide (0 ≤ (ji31)) = true := decide_eq_true c32
                              clear c32
                              by_cases c33 : (ji31) < (x4_1.length : Int)
                              · rw [if_pos c33] at H
                                have c33b0 : decide ((ji31) < (x4_1.length : Int)) = true := decide_eq_true c33
                                clear c33
                                replace H := Option.bind_eq_some_iff.mp H
                                obtain ⟨t220, A340, H⟩ := H
                                replace H : (if t220 = true then (spec_alSpaces.l2 k3 a0 (wrap64 ((ji3) - 1)) x4_1 x5_1 ji31 a0 y215) else ((some (([] : List (S28)) : List (S28))).bind fun y221 => (if 0 ≤ x8_3 then (if x8_3 ≤ (x4_1.length : Int) then ((some (x4_1.take (x8_3 : Int).toNat : List (S28))).bind fun y224 => (if y221.length + y224.length < 4398046511104 then ((some (y221 ++ y224 : List (S28))).bind fun y229 => (if y229.length < 4398046511104 then ((some (y229 ++ [(⟨a0, y215⟩ : S28)] : List (S28))).bind fun y232 => ((some (x4_1.drop (x8_3 : Int).toNat : List (S28))).bind fun y235 => (if y232.length + y235.length < 4398046511104 then (spec_alSpaces.l0 k3 a0 (wrap64 ((ji3) - 1)) (y232 ++ y235) (wrap64 (x5_1 + 1))) else (none)))) else (none))) else (none))) else (none)) else (none)))) = some r := H
                                have A34 := Aside0.mk A340
                                clear A340
                                by_cases c35 : t220 = true
                                · subst c35
                                  have H1 : (spec_alSpaces.l2 k3 a0 (wrap64 ((ji3) - 1)) x4_1 x5_1 ji31 a0 y215) = some r := by rw [if_pos rfl] at H; exact H
                                  clear H
                                  have H := H1
                                  clear H1
                                  have H' := Aside0.mk H
                                  clear H
                                  try go_wp2
                                  have n0_ := Aside0.mk (Kd.N_drew HO_4.out)
                                  have n1_ := Aside0.mk (Kd.R_drew HO_211001.out)
                                  have n2_ := Aside0.mk (blk_drew BK210.out)
                                  have n3_ := Aside0.mk (below_drew1 HB.out)
                                  clear HO_4
                                  clear HO_211001
                                  clear BK210
                                  clear HB
                                  have HO_4 := n0_
                                  have HO_211001 := n1_
                                  have BK210 := n2_
                                  have HB := n3_
                                  clear n0_ n1_ n2_ n3_
                                  have p219 : 0 ≤ ((ji31) : Int) := of_decide_eq_true (by first | (with_reducible assumption) | assumption)
                                  have q219 : (ji31) < (x4_1.length : Int) := of_decide_eq_true (by first | (with_reducible assumption) | assumption)
                                  obtain ⟨ad219, A219_1, c219_1, e219, hx219_0, hx219_1, hl219_1, hi219_1⟩ := at_T28 (Kd.N_reads' HO_4.out).2.2 (ji31) p219 q219
                                  cases e219
                                  obtain ⟨ce219, hce219, hMe219, hcc219⟩ := Kd.N_get HO_4.out z28 (ji31) p219 (by first | exact q219 | exact of_decide_eq_true (by first | (with_reducible assumption) | assumption) | (have e_ := (Kd.N_reads' HO_4.out).1; omega))
                                  obtain ⟨ua219_1, uc219_1, rfl, ul219_1, ge219_1⟩ := k28_openF hMe219
                                  have hv219_1 := hcc219 1 _ rfl
                                  rw [add_field _ _ 1 (by omega)] at hv219_1
                                  replace hv219_1 := Option.some.inj (hv219_1.symm.trans hx219_1)
                                  injection hv219_1 with hva_ hvn_ hvc_
                                  rw [hva_] at ge219_1
                                  rw [hvc_] at ul219_1
                                  have HL219_1 := Aside0.mk (show Kd.V (Kd.int .i64) 3 _ w.heap.size _ _ ((rd_T28 x4_1 (ji31)).f1) from Kd.V_mk ul219_1 ge219_1)
                                  clear hva_ hvn_ hvc_ ge219_1 ul219_1
                                  clear hcc219 hce219
                                  have HR219_1 := Aside0.mk hi219_1
                                  have HC219_1 := Aside0.mk hl219_1
                                  clear hi219_1 hl219_1
                                  replace p219 := eq_true p219
                                  replace q219 := eq_true q219
                                  refine start_ (n := 13) (S := fun w' => w'.cell? ⟨gb210, 0, none⟩ = some (.int .i64 a0) ∧ w'.cell? ⟨gb210, 1, none⟩ = some (.slice Ao26 y215.length co26) ∧ w'.cell? (ad219.add (((ji31)).toNat * 2)) = some (.int .i64 ((rd_T28 x4_1 (ji31)).f0)) ∧ w'.cell? ⟨(ad219.add (((ji31)).toNat * 2)).block, (ad219.add (((ji31)).toNat * 2)).off + 1, none⟩ = some (.slice A219_1 ((rd_T28 x4_1 (ji31)).f1).length c219_1)) (ds := []) #[false, false, false, false, false, false, false, false, false, false, false, false, false] (by kernel_rfl) rfl rfl ⟨(blk_cell BK210.out 0).trans rfl, (blk_cell BK210.out 1).trans rfl, hx219_0, hx219_1⟩ (fun hHeld => ?_); refine with_tabW spec_alSpaces.tab15 spec_alSpaces.bits15 (fun HT_ HW_ => ?_)
                                  generalize wr.drew = w36 at HO_4 HO_211001 BK210 HB HL219_1 HR219_1 hx219_0 hx219_1 hHeld ⊢
                                  refine pure_ (i := 0) (N := some 49) (v := ?_) (a' := ?_) #[true, false, false, false, false, false, false, false, false, false, false, false, false] rfl rfl (any_of HT_.out (by kernel_rfl)) (fun _ _ _ h => h) (Or.inl ⟨by rfl, ?_⟩) ?_ ?_
                                  rotate_left
                                  · intro w'
                                    go_simp
                                    with_reducible rfl
                                  rotate_left
                                  · simp only [Act.put, List.setIfInBounds_toArray, List.set_cons_zero, List.set_cons_succ, i64_w, i32_w]
                                    rfl
                                  refine pure_ (i := 1) (N := some 50) (v := ?_) (a' := ?_) #[true, true, false, false, false, false, false, false, false, false, false, false, false] rfl rfl (any_of HT_.out (by kernel_rfl)) (fun _ _ _ h => h) (Or.inl ⟨by rfl, ?_⟩) ?_ ?_
                                  rotate_left
                                  · intro w'
                                    go_simp
                                    with_reducible rfl
                                  rotate_left
                                  · simp only [Act.put, List.setIfInBounds_toArray, List.set_cons_zero, List.set_cons_succ, i64_w, i32_w]
                                    rfl
                                  refine pure_ (i := 2) (N := some 51) (v := ?_) (a' := ?_) #[true, true, true, false, false, false, false, false, false, false, false, false, false] rfl rfl (any_of HT_.out (by kernel_rfl)) (fun _ _ _ h => h) (Or.inl ⟨by rfl, ?_⟩) ?_ ?_
                                  rotate_left
                                  · intro w'
                                    go_simp
                                    with_reducible rfl
                                  rotate_left
                                  · simp only [Act.put, List.setIfInBounds_toArray, List.set_cons_zero, List.set_cons_succ, i64_w, i32_w]
                                    rfl
                                  refine pure_ (i := 3) (N := some 52) (v := ?_) (a' := ?_) #[true, true, true, true, false, false, false, false, false, false, false, false, false] rfl rfl (any_of HT_.out (by kernel_rfl)) (fun _ _ _ h => h) (Or.inl ⟨by rfl, ?_⟩) ?_ ?_
                                  rotate_left
                                  · intro w'
                                    go_simp
                                    with_reducible rfl
                                  rotate_left
                                  · simp only [Act.put, List.setIfInBounds_toArray, List.set_cons_zero, List.set_cons_succ, i64_w, i32_w]
                                    rfl
                                  refine pure_ (i := 5) (N := some 54) (v := ?_) (a' := ?_) #[true, true, true, true, false, true, false, false, false, false, false, false, false] rfl rfl (any_of HT_.out (by kernel_rfl)) (fun _ _ _ h => h) (Or.inl ⟨by rfl, ?_⟩) ?_ ?_
                                  rotate_left
                                  · intro w'
                                    go_simp
                                    with_reducible rfl
                                  rotate_left
                                  · simp only [Act.put, List.setIfInBounds_toArray, List.set_cons_zero, List.set_cons_succ, i64_w, i32_w]
                                    rfl
                                  refine pure_ (i := 6) (N := some 55) (v := ?_) (a' := ?_) #[true, true, true, true, false, true, true, false, false, false, false, false, false] rfl rfl (any_of HT_.out (by kernel_rfl)) (fun _ _ _ h => h) (Or.inl ⟨by rfl, ?_⟩) ?_ ?_
                                  rotate_left
                                  · intro w'
                                    go_simp
                                    with_reducible rfl
                                  rotate_left
                                  · simp only [Act.put, List.setIfInBounds_toArray, List.set_cons_zero, List.set_cons_succ, i64_w, i32_w]
                                    rfl
                                  refine pure_ (i := 7) (N := some 56) (v := ?_) (a' := ?_) #[true, true, true, true, false, true, true, true, false, false, false, false, false] rfl rfl (any_of HT_.out (by kernel_rfl)) (fun _ _ _ h => h) (Or.inl ⟨by rfl, ?_⟩) ?_ ?_
                                  rotate_left
                                  · intro w'
                                    go_simp
                                    with_reducible rfl
                                  rotate_left
                                  · simp only [Act.put, List.setIfInBounds_toArray, List.set_cons_zero, List.set_cons_succ, i64_w, i32_w]
                                    rfl
                                  refine pure_ (i := 8) (N := some 57) (v := ?_) (a' := ?_) #[true, true, true, true, false, true, true, true, true, false, false, false, false] rfl rfl (any_of HT_.out (by kernel_rfl)) (fun _ _ _ h => h) (Or.inl ⟨by rfl, ?_⟩) ?_ ?_
                                  rotate_left
                                  · intro w'
                                    go_simp
                                    with_reducible rfl
                                  rotate_left
                                  · simp only [Act.put, List.setIfInBounds_toArray, List.set_cons_zero, List.set_cons_succ, i64_w, i32_w]
                                    rfl
                                  refine pure_ (i := 9) (N := some 58) (v := ?_) (a' := ?_) #[true, true, true, true, false, true, true, true, true, true, false, false, false] rfl rfl (any_of HT_.out (by kernel_rfl)) (fun _ _ _ h => h) (Or.inl ⟨by rfl, ?_⟩) ?_ ?_
                                  rotate_left
                                  · intro w'
                                    go_simp
                                    with_reducible rfl
                                  rotate_left
                                  · simp only [Act.put, List.setIfInBounds_toArray, List.set_cons_zero, List.set_cons_succ, i64_w, i32_w]
                                    rfl
                                  refine take_ (i := 4) (N := some 53) (v := ?_) (a' := ?_) #[true, true, true, true, true, true, true, true, true, true, false, false, false] rfl rfl (take_ofW HT_.out HW_.out (by kernel_rfl)) (fun _ _ _ h => h) (Or.inl ⟨by rfl, ?_⟩) hHeld ?_ ?_
                                  rotate_left
                                  · rintro w' ⟨s0, s1, s2, s3⟩
                                    go_simp
                                    with_reducible rfl
                                  rotate_left
                                  · simp only [Act.put, List.setIfInBounds_toArray, List.set_cons_zero, List.set_cons_succ, i64_w, i32_w]
                                    rfl
                                  refine take_ (i := 10) (N := some 59) (v := ?_) (a' := ?_) #[true, true, true, true, true, true, true, true, true, true, true, false, false] rfl rfl (take_ofW HT_.out HW_.out (by kernel_rfl)) (fun _ _ _ h => h) (Or.inl ⟨by rfl, ?_⟩) hHeld ?_ ?_
                                  rotate_left
                                  · rintro w' ⟨s0, s1, s2, s3⟩
                                    go_simp
                                    with_reducible rfl
                                  rotate_left
                                  · simp only [Act.put, List.setIfInBounds_toArray, List.set_cons_zero, List.set_cons_succ, i64_w, i32_w]
                                    rfl
                                  refine one_ (i := 11) (N := some 60) #[true, true, true, true, true, true, true, true, true, true, true, true, false] rfl rfl (one_of HT_.out (by kernel_rfl)) (by decide) (fun K hK => ?_)
                                  refine goes_ Try.func94 (by kernel_rfl) rfl #[.slice Ao26 y215.length co26, .slice A219_1 ((rd_T28 x4_1 (ji31)).f1).length c219_1] (by rfl) rfl rfl (by (try simp only [List.map_toArray, List.map_cons, List.map_nil]); first | done | (simp only [hji31]; rfl) | rfl | (simp only [List.length_drop, List.length_take]; rfl)) ?_
                                  with_reducible refine (spec_alBefore.calls k3 _ _ y215 _ _ ((rd_T28 x4_1 (ji31)).f1) true _ ?side1 ?side2 ?side3 ?side4 A34.out).mono ?_
                                  (case side1 => repeat (first | exact (Kd.R_reads' HO_211001.out).2.2 | (with_reducible refine Kd.C_alloc ?_ _) | (with_reducible refine Kd.C_drewN ?_ _) | (with_reducible refine Kd.C_drew ?_)))
                                  (case side2 => exact (Kd.R_reads' HO_211001.out).2.1)
                                  (case side3 => repeat (first | exact (by repeat (first | (with_reducible exact HR219_1.out) | (with_reducible refine Kd.C_alloc ?_ _) | (with_reducible refine Kd.C_drewN ?_ _) | (with_reducible refine Kd.C_drew ?_) | exact HR219_1.out)) | (with_reducible refine Kd.C_alloc ?_ _) | (with_reducible refine Kd.C_drewN ?_ _) | (with_reducible refine Kd.C_drew ?_)))
                                  (case side4 => exact HC219_1.out)
                                  rintro e w' ⟨rfl, ⟨nd, rfl⟩⟩
                                  refine ⟨_, rfl, ?_⟩
                                  refine hK.out _ _ ⟨(blk_cell BK210.out 0).trans rfl, (blk_cell BK210.out 1).trans rfl, hHeld.2.2.1, hHeld.2.2.2⟩ (fun hHeld => ?_)
                                  clear hK K
                                  refine norm_ (a' := ?_) ?_ ?_
                                  rotate_left
                                  · show Act.put _ (some 60) _ = _
                                    simp only [Act.put, List.setIfInBounds_toArray, List.set_cons_zero, List.set_cons_succ, i64_w, i32_w]
                                    rfl
                                  refine pure_ (i := 12) (N := some 61) (v := ?_) (a' := ?_) #[true, true, true, true, true, true, true, true, true, true, true, true, true] rfl rfl (any_of HT_.out (by kernel_rfl)) (fun _ _ _ h => h) (Or.inl ⟨by rfl, ?_⟩) ?_ ?_
                                  rotate_left
                                  · intro w'
                                    go_simp
                                    with_reducible rfl
                                  rotate_left
                                  · simp only [Act.put, List.setIfInBounds_toArray, List.set_cons_zero, List.set_cons_succ, i64_w, i32_w]
                                    rfl
                                  refine done_ (done_of HT_.out (by kernel_rfl)) ?_
                                  try go_wp2
                                  go_roundg k3
                                  case measure => have := HK1.out; have := HK2.out; have := HK3.out; omega
                                  case rel => exact ⟨(ji31), (by first | rfl | (simp; done) | (simp only [← hji31] <;> (first | rfl | simp)) | (simp [*]; done)), H', ⟨by have := HK1.out; have := HK2.out; have := HK3.out; omega⟩, ⟨by (with_reducible repeat (first | apply Kd.N_alloc | apply Kd.N_drewN | apply Kd.N_drew)); exact HO_4.out⟩, ⟨by (with_reducible repeat (first | apply Kd.R_alloc | apply Kd.R_drewN | apply Kd.R_drew)); exact HO_211001.out⟩, ⟨by (with_reducible repeat (first | refine blk_drewN ?_ _ | refine blk_drew ?_ | refine blk_alloc ?_ _)); exact BK210.out⟩, ⟨by repeat (first | (with_reducible first | exact HB.out | apply below_alloc | apply pw_below_drewN | apply below_drew1 | refine below_set ?_ GE210.out) | exact HB.out)⟩⟩
                                · replace c35 := Bool.eq_false_iff.mpr c35
                                  subst c35
                                  have H1 : ((some (([] : List (S28)) : List (S28))).bind fun y221 => (if 0 ≤ x8_3 then (if x8_3 ≤ (x4_1.length : Int) then ((some (x4_1.take (x8_3 : Int).toNat : List (S28))).bind fun y224 => (if y221.length + y224.length < 4398046511104 then ((some (y221 ++ y224 : List (S28))).bind fun y229 => (if y229.length < 4398046511104 then ((some (y229 ++ [(⟨a0, y215⟩ : S28)] : List (S28))).bind fun y232 => ((some (x4_1.drop (x8_3 : Int).toNat : List (S28))).bind fun y235 => (if y232.length + y235.length < 4398046511104 then (spec_alSpaces.l0 k3 a0 (wrap64 ((ji3) - 1)) (y232 ++ y235) (wrap64 (x5_1 + 1))) else (none)))) else (none))) else (none))) else (none)) else (none))) = some r := by rw [if_neg (show ¬ (false = true) by decide)] at H; exact H
                                  clear H
                                  have H := H1
                                  clear H1
                                  obtain ⟨y221, hy221⟩ : ∃ y_ : List (S28), y_ = (([] : List (S28))) := ⟨_, rfl⟩
                                  replace H : (if 0 ≤ x8_3 then (if x8_3 ≤ (x4_1.length : Int) then ((some (x4_1.take (x8_3 : Int).toNat : List (S28))).bind fun y224 => (if y221.length + y224.length < 4398046511104 then ((some (y221 ++ y224 : List (S28))).bind fun y229 => (if y229.length < 4398046511104 then ((some (y229 ++ [(⟨a0, y215⟩ : S28)] : List (S28))).bind fun y232 => ((some (x4_1.drop (x8_3 : Int).toNat : List (S28))).bind fun y235 => (if y232.length + y235.length < 4398046511104 then (spec_alSpaces.l0 k3 a0 (wrap64 ((ji3) - 1)) (y232 ++ y235) (wrap64 (x5_1 + 1))) else (none)))) else (none))) else (none))) else (none)) else (none)) = some r := by first | (rw [hy221]; with_reducible exact H) | (have H2_ := (Option.bind_some _ _).symm.trans H; rw [hy221]; with_reducible exact H2_) | (have H2_ := (Option.bind_some _ _).symm.trans H; with_reducible exact H2_) | with_reducible exact H | (rw [hy221]; exact H) | exact H
                                  have Ny221 := Aside0.mk hy221
                                  clear hy221
                                  by_cases c37 : 0 ≤ x8_3
                                  · rw [if_pos c37] at H
                                    have c37b0 := eq_true c37
                                    have c37b1 : decide (0 ≤ x8_3) = true := decide_eq_true c37
                                    clear c37
                                    by_cases c38 : x8_3 ≤ (x4_1.length : Int)
                                    · rw [if_pos c38] at H
                                      have c38b0 := eq_true c38
                                      have c38b1 : decide (x8_3 ≤ (x4_1.length : Int)) = true := decide_eq_true c38
                                      clear c38
                                      obtain ⟨y224, hy224⟩ : ∃ y_ : List (S28), y_ = (x4_1.take (x8_3 : Int).toNat) := ⟨_, rfl⟩
                                      replace H : (if y221.length + y224.length < 4398046511104 then ((some (y221 ++ y224 : List (S28))).bind fun y229 => (if y229.length < 4398046511104 then ((some (y229 ++ [(⟨a0, y215⟩ : S28)] : List (S28))).bind fun y232 => ((some (x4_1.drop (x8_3 : Int).toNat : List (S28))).bind fun y235 => (if y232.length + y235.length < 4398046511104 then (spec_alSpaces.l0 k3 a0 (wrap64 ((ji3) - 1)) (y232 ++ y235) (wrap64 (x5_1 + 1))) else (none)))) else (none))) else (none)) = some r := by first | (rw [hy224]; with_reducible exact H) | (have H2_ := (Option.bind_some _ _).symm.trans H; rw [hy224]; with_reducible exact H2_) | (have H2_ := (Option.bind_some _ _).symm.trans H; with_reducible exact H2_) | with_reducible exact H | (rw [hy224]; exact H) | exact H
                                      have Ny224 := Aside0.mk hy224
                                      clear hy224
                                      by_cases c39 : y221.length + y224.length < 4398046511104
                                      · rw [if_pos c39] at H
                                        have LMc39 := Aside0.mk c39
                                        clear c39
                                        obtain ⟨y229, hy229⟩ : ∃ y_ : List (S28), y_ = (y221 ++ y224) := ⟨_, rfl⟩
                                        replace H : (if y229.length < 4398046511104 then ((some (y229 ++ [(⟨a0, y215⟩ : S28)] : List (S28))).bind fun y232 => ((some (x4_1.drop (x8_3 : Int).toNat : List (S28))).bind fun y235 => (if y232.length + y235.length < 4398046511104 then (spec_alSpaces.l0 k3 a0 (wrap64 ((ji3) - 1)) (y232 ++ y235) (wrap64 (x5_1 + 1))) else (none)))) else (none)) = some r := by first | (rw [hy229]; with_reducible exact H) | (have H2_ := (Option.bind_some _ _).symm.trans H; rw [hy229]; with_reducible exact H2_) | (have H2_ := (Option.bind_some _ _).symm.trans H; with_reducible exact H2_) | with_reducible exact H | (rw [hy229]; exact H) | exact H
                                        have Ny229 := Aside0.mk hy229
                                        clear hy229
                                        by_cases c40 : y229.length < 4398046511104
                                        · rw [if_pos c40] at H
                                          have LMc40 := Aside0.mk c40
                                          clear c40
                                          obtain ⟨y232, hy232⟩ : ∃ y_ : List (S28), y_ = (y229 ++ [(⟨a0, y215⟩ : S28)]) := ⟨_, rfl⟩
                                          replace H : ((some (x4_1.drop (x8_3 : Int).toNat : List (S28))).bind fun y235 => (if y232.length + y235.length < 4398046511104 then (spec_alSpaces.l0 k3 a0 (wrap64 ((ji3) - 1)) (y232 ++ y235) (wrap64 (x5_1 + 1))) else (none))) = some r := by first | (rw [hy232]; with_reducible exact H) | (have H2_ := (Option.bind_some _ _).symm.trans H; rw [hy232]; with_reducible exact H2_) | (have H2_ := (Option.bind_some _ _).symm.trans H; with_reducible exact H2_) | with_reducible exact H | (rw [hy232]; exact H) | exact H
                                          have Ny232 := Aside0.mk hy232
                                          clear hy232
                                          have c41b0 := eq_true (of_decide_eq_true (by first | (with_reducible assumption) | assumption) : 0 ≤ x8_3)
                                          have c42b0 := eq_true (of_decide_eq_true (by first | (with_reducible assumption) | assumption) : x8_3 ≤ (x4_1.length : Int))
                                          obtain ⟨y235, hy235⟩ : ∃ y_ : List (S28), y_ = (x4_1.drop (x8_3 : Int).toNat) := ⟨_, rfl⟩
                                          replace H : (if y232.length + y235.length < 4398046511104 then (spec_alSpaces.l0 k3 a0 (wrap64 ((ji3) - 1)) (y232 ++ y235) (wrap64 (x5_1 + 1))) else (none)) = some r := by first | (rw [hy235]; with_reducible exact H) | (have H2_ := (Option.bind_some _ _).symm.trans H; rw [hy235]; with_reducible exact H2_) | (have H2_ := (Option.bind_some _ _).symm.trans H; with_reducible exact H2_) | with_reducible exact H | (rw [hy235]; exact H) | exact H
                                          have Ny235 := Aside0.mk hy235
                                          clear hy235
                                          by_cases c43 : y232.length + y235.length < 4398046511104
                                          · rw [if_pos c43] at H
                                            have LMc43 := Aside0.mk c43
                                            clear c43
                                            obtain ⟨y240, hy240⟩ : ∃ y_ : List (S28), y_ = (y232 ++ y235) := ⟨_, rfl⟩
                                            replace H : (spec_alSpaces.l0 k3 a0 (wrap64 ((ji3) - 1)) y240 (wrap64 (x5_1 + 1))) = some r := by first | (rw [hy240]; with_reducible exact H) | (have H2_ := (Option.bind_some _ _).symm.trans H; rw [hy240]; with_reducible exact H2_) | (have H2_ := (Option.bind_some _ _).symm.trans H; with_reducible exact H2_) | with_reducible exact H | (rw [hy240]; exact H) | exact H
                                            have Ny240 := Aside0.mk hy240
                                            clear hy240
                                            have H' := Aside0.mk H
                                            clear H
                                            try go_wp2
                                            have n0_ := Aside0.mk (Kd.N_drew HO_4.out)
                                            have n1_ := Aside0.mk (Kd.R_drew HO_211001.out)
                                            have n2_ := Aside0.mk (blk_drew BK210.out)
                                            have n3_ := Aside0.mk (below_drew1 HB.out)
                                            clear HO_4
                                            clear HO_211001
                                            clear BK210
                                            clear HB
                                            have HO_4 := n0_
                                            have HO_211001 := n1_
                                            have BK210 := n2_
                                            have HB := n3_
                                            clear n0_ n1_ n2_ n3_
                                            have p219 : 0 ≤ ((ji31) : Int) := of_decide_eq_true (by first | (with_reducible assumption) | assumption)
                                            have q219 : (ji31) < (x4_1.length : Int) := of_decide_eq_true (by first | (with_reducible assumption) | assumption)
                                            obtain ⟨ad219, A219_1, c219_1, e219, hx219_0, hx219_1, hl219_1, hi219_1⟩ := at_T28 (Kd.N_reads' HO_4.out).2.2 (ji31) p219 q219
                                            cases e219
                                            obtain ⟨ce219, hce219, hMe219, hcc219⟩ := Kd.N_get HO_4.out z28 (ji31) p219 (by first | exact q219 | exact of_decide_eq_true (by first | (with_reducible assumption) | assumption) | (have e_ := (Kd.N_reads' HO_4.out).1; omega))
                                            obtain ⟨ua219_1, uc219_1, rfl, ul219_1, ge219_1⟩ := k28_openF hMe219
                                            have hv219_1 := hcc219 1 _ rfl
                                            rw [add_field _ _ 1 (by omega)] at hv219_1
                                            replace hv219_1 := Option.some.inj (hv219_1.symm.trans hx219_1)
                                            injection hv219_1 with hva_ hvn_ hvc_
                                            rw [hva_] at ge219_1
                                            rw [hvc_] at ul219_1
                                            have HL219_1 := Aside0.mk (show Kd.V (Kd.int .i64) 3 _ w.heap.size _ _ ((rd_T28 x4_1 (ji31)).f1) from Kd.V_mk ul219_1 ge219_1)
                                            clear hva_ hvn_ hvc_ ge219_1 ul219_1
                                            clear hcc219 hce219
                                            have HR219_1 := Aside0.mk hi219_1
                                            have HC219_1 := Aside0.mk hl219_1
                                            clear hi219_1 hl219_1
                                            replace p219 := eq_true p219
                                            replace q219 := eq_true q219
                                            refine start_ (n := 13) (S := fun w' => w'.cell? ⟨gb210, 0, none⟩ = some (.int .i64 a0) ∧ w'.cell? ⟨gb210, 1, none⟩ = some (.slice Ao26 y215.length co26) ∧ w'.cell? (ad219.add (((ji31)).toNat * 2)) = some (.int .i64 ((rd_T28 x4_1 (ji31)).f0)) ∧ w'.cell? ⟨(ad219.add (((ji31)).toNat * 2)).block, (ad219.add (((ji31)).toNat * 2)).off + 1, none⟩ = some (.slice A219_1 ((rd_T28 x4_1 (ji31)).f1).length c219_1)) (ds := []) #[false, false, false, false, false, false, false, false, false, false, false, false, false] (by kernel_rfl) rfl rfl ⟨(blk_cell BK210.out 0).trans rfl, (blk_cell BK210.out 1).trans rfl, hx219_0, hx219_1⟩ (fun hHeld => ?_); refine with_tabW spec_alSpaces.tab15 spec_alSpaces.bits15 (fun HT_ HW_ => ?_)
                                            generalize wr.drew = w44 at HO_4 HO_211001 BK210 HB HL219_1 HR219_1 hx219_0 hx219_1 hHeld ⊢
                                            refine pure_ (i := 0) (N := some 49) (v := ?_) (a' := ?_) #[true, false, false, false, false, false, false, false, false, false, false, false, false] rfl rfl (any_of HT_.out (by kernel_rfl)) (fun _ _ _ h => h) (Or.inl ⟨by rfl, ?_⟩) ?_ ?_
                                            rotate_left
                                            · intro w'
                                              go_simp
                                              with_reducible rfl
                                            rotate_left
                                            · simp only [Act.put, List.setIfInBounds_toArray, List.set_cons_zero, List.set_cons_succ, i64_w, i32_w]
                                              rfl
                                            refine pure_ (i := 1) (N := some 50) (v := ?_) (a' := ?_) #[true, true, false, false, false, false, false, false, false, false, false, false, false] rfl rfl (any_of HT_.out (by kernel_rfl)) (fun _ _ _ h => h) (Or.inl ⟨by rfl, ?_⟩) ?_ ?_
                                            rotate_left
                                            · intro w'
                                              go_simp
                                              with_reducible rfl
                                            rotate_left
                                            · simp only [Act.put, List.setIfInBounds_toArray, List.set_cons_zero, List.set_cons_succ, i64_w, i32_w]
                                              rfl
                                            refine pure_ (i := 2) (N := some 51) (v := ?_) (a' := ?_) #[true, true, true, false, false, false, false, false, false, false, false, false, false] rfl rfl (any_of HT_.out (by kernel_rfl)) (fun _ _ _ h => h) (Or.inl ⟨by rfl, ?_⟩) ?_ ?_
                                            rotate_left
                                            · intro w'
                                              go_simp
                                              with_reducible rfl
                                            rotate_left
                                            · simp only [Act.put, List.setIfInBounds_toArray, List.set_cons_zero, List.set_cons_succ, i64_w, i32_w]
                                              rfl
                                            refine pure_ (i := 3) (N := some 52) (v := ?_) (a' := ?_) #[true, true, true, true, false, false, false, false, false, false, false, false, false] rfl rfl (any_of HT_.out (by kernel_rfl)) (fun _ _ _ h => h) (Or.inl ⟨by rfl, ?_⟩) ?_ ?_
                                            rotate_left
                                            · intro w'
                                              go_simp
                                              with_reducible rfl
                                            rotate_left
                                            · simp only [Act.put, List.setIfInBounds_toArray, List.set_cons_zero, List.set_cons_succ, i64_w, i32_w]
                                              rfl
                                            refine pure_ (i := 5) (N := some 54) (v := ?_) (a' := ?_) #[true, true, true, true, false, true, false, false, false, false, false, false, false] rfl rfl (any_of HT_.out (by kernel_rfl)) (fun _ _ _ h => h) (Or.inl ⟨by rfl, ?_⟩) ?_ ?_
                                            rotate_left
                                            · intro w'
                                              go_simp
                                              with_reducible rfl
                                            rotate_left
                                            · simp only [Act.put, List.setIfInBounds_toArray, List.set_cons_zero, List.set_cons_succ, i64_w, i32_w]
                                              rfl
                                            refine pure_ (i := 6) (N := some 55) (v := ?_) (a' := ?_) #[true, true, true, true, false, true, true, false, false, false, false, false, false] rfl rfl (any_of HT_.out (by kernel_rfl)) (fun _ _ _ h => h) (Or.inl ⟨by rfl, ?_⟩) ?_ ?_
                                            rotate_left
                                            · intro w'
                                              go_simp
                                              with_reducible rfl
                                            rotate_left
                                            · simp only [Act.put, List.setIfInBounds_toArray, List.set_cons_zero, List.set_cons_succ, i64_w, i32_w]
                                              rfl
                                            refine pure_ (i := 7) (N := some 56) (v := ?_) (a' := ?_) #[true, true, true, true, false, true, true, true, false, false, false, false, false] rfl rfl (any_of HT_.out (by kernel_rfl)) (fun _ _ _ h => h) (Or.inl ⟨by rfl, ?_⟩) ?_ ?_
                                            rotate_left
                                            · intro w'
                                              go_simp
                                              with_reducible rfl
                                            rotate_left
                                            · simp only [Act.put, List.setIfInBounds_toArray, List.set_cons_zero, List.set_cons_succ, i64_w, i32_w]
                                              rfl
                                            refine pure_ (i := 8) (N := some 57) (v := ?_) (a' := ?_) #[true, true, true, true, false, true, true, true, true, false, false, false, false] rfl rfl (any_of HT_.out (by kernel_rfl)) (fun _ _ _ h => h) (Or.inl ⟨by rfl, ?_⟩) ?_ ?_
                                            rotate_left
                                            · intro w'
                                              go_simp
                                              with_reducible rfl
                                            rotate_left
                                            · simp only [Act.put, List.setIfInBounds_toArray, List.set_cons_zero, List.set_cons_succ, i64_w, i32_w]
                                              rfl
                                            refine pure_ (i := 9) (N := some 58) (v := ?_) (a' := ?_) #[true, true, true, true, false, true, true, true, true, true, false, false, false] rfl rfl (any_of HT_.out (by kernel_rfl)) (fun _ _ _ h => h) (Or.inl ⟨by rfl, ?_⟩) ?_ ?_
                                            rotate_left
                                            · intro w'
                                              go_simp
                                              with_reducible rfl
                                            rotate_left
                                            · simp only [Act.put, List.setIfInBounds_toArray, List.set_cons_zero, List.set_cons_succ, i64_w, i32_w]
                                              rfl
                                            refine take_ (i := 4) (N := some 53) (v := ?_) (a' := ?_) #[true, true, true, true, true, true, true, true, true, true, false, false, false] rfl rfl (take_ofW HT_.out HW_.out (by kernel_rfl)) (fun _ _ _ h => h) (Or.inl ⟨by rfl, ?_⟩) hHeld ?_ ?_
                                            rotate_left
                                            · rintro w' ⟨s0, s1, s2, s3⟩
                                              go_simp
                                              with_reducible rfl
                                            rotate_left
                                            · simp only [Act.put, List.setIfInBounds_toArray, List.set_cons_zero, List.set_cons_succ, i64_w, i32_w]
                                              rfl
                                            refine take_ (i := 10) (N := some 59) (v := ?_) (a' := ?_) #[true, true, true, true, true, true, true, true, true, true, true, false, false] rfl rfl (take_ofW HT_.out HW_.out (by kernel_rfl)) (fun _ _ _ h => h) (Or.inl ⟨by rfl, ?_⟩) hHeld ?_ ?_
                                            rotate_left
                                            · rintro w' ⟨s0, s1, s2, s3⟩
                                              go_simp
                                              with_reducible rfl
                                            rotate_left
                                            · simp only [Act.put, List.setIfInBounds_toArray, List.set_cons_zero, List.set_cons_succ, i64_w, i32_w]
                                              rfl
                                            refine one_ (i := 11) (N := some 60) #[true, true, true, true, true, true, true, true, true, true, true, true, false] rfl rfl (one_of HT_.out (by kernel_rfl)) (by decide) (fun K hK => ?_)
                                            refine goes_ Try.func94 (by kernel_rfl) rfl #[.slice Ao26 y215.length co26, .slice A219_1 ((rd_T28 x4_1 (ji31)).f1).length c219_1] (by rfl) rfl rfl (by (try simp only [List.map_toArray, List.map_cons, List.map_nil]); first | done | (simp only [hji31]; rfl) | rfl | (simp only [List.length_drop, List.length_take]; rfl)) ?_
                                            with_reducible refine (spec_alBefore.calls k3 _ _ y215 _ _ ((rd_T28 x4_1 (ji31)).f1) false _ ?side1 ?side2 ?side3 ?side4 A34.out).mono ?_
                                            (case side1 => repeat (first | exact (Kd.R_reads' HO_211001.out).2.2 | (with_reducible refine Kd.C_alloc ?_ _) | (with_reducible refine Kd.C_drewN ?_ _) | (with_reducible refine Kd.C_drew ?_)))
                                            (case side2 => exact (Kd.R_reads' HO_211001.out).2.1)
                                            (case side3 => repeat (first | exact (by repeat (first | (with_reducible exact HR219_1.out) | (with_reducible refine Kd.C_alloc ?_ _) | (with_reducible refine Kd.C_drewN ?_ _) | (with_reducible refine Kd.C_drew ?_) | exact HR219_1.out)) | (with_reducible refine Kd.C_alloc ?_ _) | (with_reducible refine Kd.C_drewN ?_ _) | (with_reducible refine Kd.C_drew ?_)))
                                            (case side4 => exact HC219_1.out)
                                            rintro e w' ⟨rfl, ⟨nd, rfl⟩⟩
                                            refine ⟨_, rfl, ?_⟩
                                            refine hK.out _ _ ⟨(blk_cell BK210.out 0).trans rfl, (blk_cell BK210.out 1).trans rfl, hHeld.2.2.1, hHeld.2.2.2⟩ (fun hHeld => ?_)
                                            clear hK K
                                            refine norm_ (a' := ?_) ?_ ?_
                                            rotate_left
                                            · show Act.put _ (some 60) _ = _
                                              simp only [Act.put, List.setIfInBounds_toArray, List.set_cons_zero, List.set_cons_succ, i64_w, i32_w]
                                              rfl
                                            refine pure_ (i := 12) (N := some 61) (v := ?_) (a' := ?_) #[true, true, true, true, true, true, true, true, true, true, true, true, true] rfl rfl (any_of HT_.out (by kernel_rfl)) (fun _ _ _ h => h) (Or.inl ⟨by rfl, ?_⟩) ?_ ?_
                                            rotate_left
                                            · intro w'
                                              go_simp
                                              with_reducible rfl
                                            rotate_left
                                            · simp only [Act.put, List.setIfInBounds_toArray, List.set_cons_zero, List.set_cons_succ, i64_w, i32_w]
                                              rfl
                                            refine done_ (done_of HT_.out (by kernel_rfl)) ?_
                                            try go_wp2_with (first | ((with_reducible refine gate_dst (N := 64) rfl ?_); refine Kd.N_lit k28 _ 28 ?hg (N' := 64) ?hd (xs := ([] : List (S28))) (inner := []) (ok := (fun k_ => (w.heap.size ≤ k_) ∧ some k_ ≠ (.slice (some ad219) x4_1.length co29 : Value).ownBlock ∧ some k_ ≠ (.slice Ao26 y215.length co26 : Value).ownBlock ∧ k_ ≠ gb210)) (okp := (fun k_ => (w.heap.size ≤ k_) ∧ some k_ ≠ (.slice (some ad219) x4_1.length co29 : Value).ownBlock ∧ some k_ ≠ (.slice Ao26 y215.length co26 : Value).ownBlock ∧ k_ ≠ gb210)) ?hr ?hp (fun _ hk => hk) ((show ∀ k_, w44.heap.size ≤ k_ → (fun k_ => (w.heap.size ≤ k_) ∧ some k_ ≠ (.slice (some ad219) x4_1.length co29 : Value).ownBlock ∧ some k_ ≠ (.slice Ao26 y215.length co26 : Value).ownBlock ∧ k_ ≠ gb210) k_ from fun k_ hk => ⟨(Nat.le_trans (below_size (by repeat (first | (with_reducible first | exact HB.out | apply below_alloc | apply pw_below_drewN | apply below_drew1 | refine below_set ?_ GE210.out) | exact HB.out))) hk), Kd.fresh' (Kd.N_lt (by (with_reducible repeat (first | apply Kd.N_alloc | apply Kd.N_drewN | apply Kd.N_drew)); exact HO_4.out)) k_ hk, Kd.fresh' (Kd.R_lt (by (with_reducible repeat (first | apply Kd.R_alloc | apply Kd.R_drewN | apply Kd.R_drew)); exact HO_211001.out)) k_ hk, Kd.freshB (g := gb210) (o := .cells #[.int .i64 a0, .slice Ao26 y215.length co26] 28 (0, 0)) (by (with_reducible repeat (first | refine blk_drewN ?_ _ | refine blk_drew ?_ | refine blk_alloc ?_ _)); exact BK210.out) k_ hk⟩) _ (Nat.le_refl _)) (Below.refl _ _) (Nat.le_refl _) (by simp) ?_; (case hd => rfl); (case hg => rfl); (case hr => first | (go_simp; done) | (go_simp; rfl)); (case hp => exact (Reps.none _ _)); intro v222 w45 ho46 hb hg_ hnew_; clear hg_ hnew_; (first | rw [← Ny221.out] at ho46 | (simp only [Int.reduceToNat] at ho46; rw [← Ny221.out] at ho46)); have n0_ := Aside0.mk (Kd.N_elder' (by (with_reducible repeat (first | apply Kd.N_alloc | apply Kd.N_drewN | apply Kd.N_drew)); exact HO_4.out) (Kd.N_base ho46) hb); have n1_ := Aside0.mk (Kd.R_below (by (with_reducible repeat (first | apply Kd.R_alloc | apply Kd.R_drewN | apply Kd.R_drew)); exact HO_211001.out) hb); have n2_ := Aside0.mk (Kd.V_elder' (by (with_reducible repeat (first | apply Kd.V_alloc | apply Kd.V_drewN | apply Kd.V_drew)); exact HL219_1.out) (Kd.N_base ho46) hb); have n3_ := Aside0.mk (Kd.N_lower ho46 (below_size (by repeat (first | (with_reducible first | exact HB.out | apply below_alloc | apply pw_below_drewN | apply below_drew1 | refine below_set ?_ GE210.out) | exact HB.out)))); have n4_ := Aside0.mk (blk_below (g := gb210) (o := .cells #[.int .i64 a0, .slice Ao26 y215.length co26] 28 (0, 0)) (by (with_reducible repeat (first | refine blk_drewN ?_ _ | refine blk_drew ?_ | refine blk_alloc ?_ _)); exact BK210.out) hb); have n5_ := Aside0.mk (Kd.C_below (by repeat (first | (with_reducible exact HR219_1.out) | (with_reducible refine Kd.C_alloc ?_ _) | (with_reducible refine Kd.C_drewN ?_ _) | (with_reducible refine Kd.C_drew ?_) | exact HR219_1.out)) hb); have n6_ := Aside0.mk (below_step (by repeat (first | (with_reducible first | exact HB.out | apply below_alloc | apply pw_below_drewN | apply below_drew1 | refine below_set ?_ GE210.out) | exact HB.out)) hb); clear HO_4; clear HO_211001; clear HL219_1; clear BK210; clear HR219_1; clear HB; have HO_4 := n0_; have HO_211001 := n1_; have HL219_1 := n2_; have HO223 := n3_; have BK210 := n4_; have HR219_1 := n5_; have HB := n6_; clear n0_ n1_ n2_ n3_ n4_ n5_ n6_; clear hb ho46; have q47 : (x8_3 : Int) ≤ ((x4_1.length : Int) : Int) := of_decide_eq_true (by first | (with_reducible assumption) | assumption); obtain ⟨i047, hi047, _, hsz47, _⟩ := info_parts info28; have hroom47 : x4_1.length ≤ co29 := (Kd.N_reads' HO_4.out).2.1; have hC47 : Kd.F k28 _ _ (some ad219) x4_1.length x4_1 := (Kd.V_at (base := w.heap.size) (Kd.N_V HO_4.out)).2.2; have hcut47 := cut_to (P := Try.prog) 59 28 .i64 Try.underlying59 hi047 (some ad219) x4_1.length co29 x8_3 (of_decide_eq_true (by first | (with_reducible assumption) | assumption)) q47 hroom47; have hr47 := Kd.F_take (m := (x8_3 : Int).toNat) hC47 (by omega); have hy47 : y224.length = (x8_3 : Int).toNat := (by rw [Ny224.out, List.length_take]; omega); rw [← Ny224.out] at hr47; rw [← hy47] at hcut47; have HO228 := Aside0.mk (show Kd.V k28 28 _ w.heap.size _ (.slice (some ad219) y224.length co29) y224 from Kd.V_mk (by omega) hr47); have HC228 := Aside0.mk (show y224.length ≤ co29 from by omega); clear hr47 hC47 hroom47 hi047 hsz47; have KY47 := Aside0.mk hy47; clear hy47; replace q47 := eq_true q47) | ((with_reducible refine gate_builtin (b := .append) (xs := #[.tmp 64, .tmp 67]) rfl ?_); at_builtin; refine Kd.N_append_rows k28 (w0 := w) w.heap.size rfl (.tmp 64) (.tmp 67) 59 28 (.agg #[(.int .i64 0), (.slice none 0 0)]) 32 rfl Try.underlying59 info28 rfl (by decide) (by omega) v222 y221 y224 _ _ _ (fun k_ => (w.heap.size ≤ k_) ∧ some k_ ≠ (.slice Ao26 y215.length co26 : Value).ownBlock ∧ k_ ≠ gb210) (fun k_ => ((fun k_ => (w.heap.size ≤ k_) ∧ some k_ ≠ (.slice Ao26 y215.length co26 : Value).ownBlock ∧ k_ ≠ gb210)) k_ ∧ some k_ ≠ (v222 : Value).ownBlock) rfl rfl ?aO ?aR (fun _ hk => hk) ?aF ?aB ?aS ?aL ?_; (case aR => exact (by skip; exact Kd.V_F (Kd.V_mono (ok' := (fun k_ => ((fun k_ => (w.heap.size ≤ k_) ∧ some k_ ≠ (.slice Ao26 y215.length co26 : Value).ownBlock ∧ k_ ≠ gb210)) k_ ∧ some k_ ≠ (v222 : Value).ownBlock)) (HO228.out) (fun k_ hk => ⟨⟨hk.1.1, ⟨hk.1.2.1, hk.1.2.2⟩⟩, hk.2⟩)))); (case aB => exact (by repeat (first | (with_reducible first | exact HB.out | apply below_alloc | apply pw_below_drewN | apply below_drew1 | refine below_set ?_ GE210.out) | exact HB.out))); (case aF => exact (fun k_ hk => ⟨(Nat.le_trans (below_size (by repeat (first | (with_reducible first | exact HB.out | apply below_alloc | apply pw_below_drewN | apply below_drew1 | refine below_set ?_ GE210.out) | exact HB.out))) hk), Kd.fresh' (Kd.R_lt (by (with_reducible repeat (first | apply Kd.R_alloc | apply Kd.R_drewN | apply Kd.R_drew)); exact HO_211001.out)) k_ hk, Kd.freshB (g := gb210) (o := .cells #[.int .i64 a0, .slice Ao26 y215.length co26] 28 (0, 0)) (by (with_reducible repeat (first | refine blk_drewN ?_ _ | refine blk_drew ?_ | refine blk_alloc ?_ _)); exact BK210.out) k_ hk⟩)); (case aO => exact (by (with_reducible repeat (first | apply Kd.N_alloc | apply Kd.N_drewN | apply Kd.N_drew)); exact Kd.N_mono HO223.out (fun _ hk => ⟨hk.1, ⟨hk.2.2.1, hk.2.2.2⟩⟩))); (case aS => exact (below_size (by repeat (first | (with_reducible first | exact HB.out | apply below_alloc | apply pw_below_drewN | apply below_drew1 | refine below_set ?_ GE210.out) | exact HB.out)))); (case aL => have := LMc39.out; omega); intro v230 w48 ho hb hg hat; rw [← Ny229.out] at ho; have n0_ := Aside0.mk (Kd.N_afterv (ok := (fun k_ => (w.heap.size ≤ k_) ∧ some k_ ≠ (.slice Ao26 y215.length co26 : Value).ownBlock ∧ k_ ≠ gb210)) (by (with_reducible repeat (first | apply Kd.N_alloc | apply Kd.N_drewN | apply Kd.N_drew)); exact HO_4.out) hg hat); have n1_ := Aside0.mk (Kd.R_over' (by (with_reducible repeat (first | apply Kd.R_alloc | apply Kd.R_drewN | apply Kd.R_drew)); exact HO_211001.out) (Kd.N_typed (by (with_reducible repeat (first | apply Kd.N_alloc | apply Kd.N_drewN | apply Kd.N_drew)); exact HO223.out)) (by decide) hg); have n2_ := Aside0.mk (blk_grown (g := gb210) (o := .cells #[.int .i64 a0, .slice Ao26 y215.length co26] 28 (0, 0)) (by (with_reducible repeat (first | refine blk_drewN ?_ _ | refine blk_drew ?_ | refine blk_alloc ?_ _)); exact BK210.out) hg (Kd.N_away HO223.out (fun _ hk => hk.2.2.2))); have n3_ := Aside0.mk (Kd.V_afterv (ok := (fun k_ => (w.heap.size ≤ k_) ∧ some k_ ≠ (.slice (some ad219) x4_1.length co29 : Value).ownBlock ∧ some k_ ≠ (.slice Ao26 y215.length co26 : Value).ownBlock ∧ k_ ≠ gb210)) (by (with_reducible repeat (first | apply Kd.V_alloc | apply Kd.V_drewN | apply Kd.V_drew)); exact Kd.V_mono HL219_1.out (fun _ hk => ⟨⟨hk.1.1.1, ⟨hk.1.2, ⟨hk.1.1.2.1, hk.1.1.2.2⟩⟩⟩, hk.2⟩)) hg hat); have n4_ := Aside0.mk (Kd.V_afterv (ok := (fun k_ => (w.heap.size ≤ k_) ∧ some k_ ≠ (.slice Ao26 y215.length co26 : Value).ownBlock ∧ k_ ≠ gb210)) (by (with_reducible repeat (first | apply Kd.V_alloc | apply Kd.V_drewN | apply Kd.V_drew)); exact HO228.out) hg hat); have n5_ := Aside0.mk (hb); have n6_ := Aside0.mk (ho); clear HO_4; clear HO_211001; clear BK210; clear HL219_1; clear HO228; clear HB; clear HO223; have HO_4 := n0_; have HO_211001 := n1_; have BK210 := n2_; have HL219_1 := n3_; have HO228 := n4_; have HB := n5_; have HO231 := n6_; clear n0_ n1_ n2_ n3_ n4_ n5_ n6_; clear ho hb hg hat))
                                            have n0_ := Aside0.mk (Kd.N_drew HO_4.out)
                                            have n1_ := Aside0.mk (Kd.R_drew HO_211001.out)
                                            have n2_ := Aside0.mk (Kd.V_drew HL219_1.out)
                                            have n3_ := Aside0.mk (Kd.V_drew HO228.out)
                                            have n4_ := Aside0.mk (Kd.N_drew HO231.out)
                                            have n5_ := Aside0.mk (blk_drew BK210.out)
                                            have n6_ := Aside0.mk (below_drew1 HB.out)
                                            clear HO_4
                                            clear HO_211001
                                            clear HL219_1
                                            clear HO228
                                            clear HO231
                                            clear BK210
                                            clear HB
                                            have HO_4 := n0_
                                            have HO_211001 := n1_
                                            have HL219_1 := n2_
                                            have HO228 := n3_
                                            have HO231 := n4_
                                            have BK210 := n5_
                                            have HB := n6_
                                            clear n0_ n1_ n2_ n3_ n4_ n5_ n6_
                                            have q50 : (x8_3 : Int) ≤ ((x4_1.length : Int) : Int) := of_decide_eq_true (by first | (with_reducible assumption) | assumption)
                                            obtain ⟨i050, hi050, _, hsz50, _⟩ := info_parts info28
                                            have hroom50 : x4_1.length ≤ co29 := (Kd.N_reads' HO_4.out).2.1
                                            have hC50 : Kd.F k28 _ _ (some ad219) x4_1.length x4_1 := (Kd.V_at (base := w.heap.size) (Kd.N_V HO_4.out)).2.2
                                            have q050 : (0 : Int) ≤ (x8_3 : Int) := of_decide_eq_true (by first | (with_reducible assumption) | assumption)
                                            have hcut50 := cut_from (P := Try.prog) 59 28 .i64 Try.underlying59 hi050 2 hsz50 (some ad219) x4_1.length co29 x8_3 q050 q50
                                            have hr50 := Kd.F_cut (m := (x8_3 : Int).toNat) (c := co29) hC50 (by omega) hroom50
                                            obtain ⟨A50, hA50⟩ : ∃ A1, A1 = (if co29 = (x8_3 : Int).toNat then (some ad219) else ((some ad219) : Option Addr).map (·.add ((x8_3 : Int).toNat * 2))) := ⟨_, rfl⟩
                                            obtain ⟨c50, hc50⟩ : ∃ c1, c1 = co29 - (x8_3 : Int).toNat := ⟨_, rfl⟩
                                            have hy50 : y235.length = x4_1.length - (x8_3 : Int).toNat := (by rw [Ny235.out, List.length_drop] <;> omega)
                                            rw [show (x4_1).drop (x8_3 : Int).toNat = y235 from Ny235.out.symm] at hr50
                                            replace hr50 : Kd.F k28 _ _ A50 y235.length y235 := (by rw [hA50]; exact hr50)
                                            rw [← hy50, ← hA50, ← hc50] at hcut50
                                            have HO239 := Aside0.mk (show Kd.V k28 28 _ w.heap.size _ (.slice A50 y235.length c50) y235 from Kd.V_mk (by rw [hy50, hc50]; exact Nat.sub_le_sub_right hroom50 _) hr50)
                                            have HC239 := Aside0.mk (show y235.length ≤ c50 from by rw [hy50, hc50]; exact Nat.sub_le_sub_right hroom50 _)
                                            clear hr50 hC50 hroom50 hi050 hsz50 hc50
                                            have KY50 := Aside0.mk hy50
                                            have KA50 := Aside0.mk hA50
                                            clear hy50 hA50
                                            replace q50 := eq_true q50
                                            refine start_ (n := 9) (S := fun w' => w'.cell? ⟨gb210, 0, none⟩ = some (.int .i64 a0) ∧ w'.cell? ⟨gb210, 1, none⟩ = some (.slice Ao26 y215.length co26)) (ds := []) #[false, false, false, false, false, false, false, false, false] (by kernel_rfl) rfl rfl ⟨(blk_cell BK210.out 0).trans rfl, (blk_cell BK210.out 1).trans rfl⟩ (fun hHeld => ?_); refine with_tabW spec_alSpaces.tab18 spec_alSpaces.bits18 (fun HT_ HW_ => ?_)
                                            generalize w48.drew = w49 at HO_4 HO_211001 HL219_1 HO228 HO231 BK210 HB HO239 hHeld ⊢
                                            refine pure_ (i := 0) (N := some 69) (v := ?_) (a' := ?_) #[true, false, false, false, false, false, false, false, false] rfl rfl (any_of HT_.out (by kernel_rfl)) (fun _ _ _ h => h) (Or.inl ⟨by rfl, ?_⟩) ?_ ?_
                                            rotate_left
                                            · intro w'
                                              go_simp
                                              with_reducible rfl
                                            rotate_left
                                            · simp only [Act.put, List.setIfInBounds_toArray, List.set_cons_zero, List.set_cons_succ, i64_w, i32_w]
                                              rfl
                                            refine pure_ (i := 4) (N := some 73) (v := ?_) (a' := ?_) #[true, false, false, false, true, false, false, false, false] rfl rfl (any_of HT_.out (by kernel_rfl)) (fun _ _ _ h => h) (Or.inl ⟨by rfl, ?_⟩) ?_ ?_
                                            rotate_left
                                            · intro w'
                                              go_simp
                                              with_reducible rfl
                                            rotate_left
                                            · simp only [Act.put, List.setIfInBounds_toArray, List.set_cons_zero, List.set_cons_succ, i64_w, i32_w]
                                              rfl
                                            refine pure_ (i := 5) (N := some 74) (v := ?_) (a' := ?_) #[true, false, false, false, true, true, false, false, false] rfl rfl (any_of HT_.out (by kernel_rfl)) (fun _ _ _ h => h) (Or.inl ⟨by rfl, ?_⟩) ?_ ?_
                                            rotate_left
                                            · intro w'
                                              go_simp
                                              with_reducible rfl
                                            rotate_left
                                            · simp only [Act.put, List.setIfInBounds_toArray, List.set_cons_zero, List.set_cons_succ, i64_w, i32_w]
                                              rfl
                                            refine pure_ (i := 6) (N := some 75) (v := ?_) (a' := ?_) #[true, false, false, false, true, true, true, false, false] rfl rfl (any_of HT_.out (by kernel_rfl)) (fun _ _ _ h => h) (Or.inl ⟨by rfl, ?_⟩) ?_ ?_
                                            rotate_left
                                            · intro w'
                                              go_simp
                                              with_reducible rfl
                                            rotate_left
                                            · simp only [Act.put, List.setIfInBounds_toArray, List.set_cons_zero, List.set_cons_succ, i64_w, i32_w]
                                              rfl
                                            refine take_ (i := 1) (N := some 70) (v := ?_) (a' := ?_) #[true, true, false, false, true, true, true, false, false] rfl rfl (take_ofW HT_.out HW_.out (by kernel_rfl)) (fun _ _ _ h => h) (Or.inl ⟨by rfl, ?_⟩) hHeld ?_ ?_
                                            rotate_left
                                            · rintro w' ⟨s0, s1⟩
                                              go_simp
                                              with_reducible rfl
                                            rotate_left
                                            · simp only [Act.put, List.setIfInBounds_toArray, List.set_cons_zero, List.set_cons_succ, i64_w, i32_w]
                                              rfl
                                            refine one_ (i := 2) (N := some 71) #[true, true, true, false, true, true, true, false, false] rfl rfl (one_of HT_.out (by kernel_rfl)) (by decide) (fun K hK => ?_)
                                            refine value_ (w1 := ?_) (v := ?_) (by rfl) rfl ?_ ?_
                                            rotate_left 2
                                            · go_simp
                                              constructor
                                              · rfl
                                              · rfl
                                            refine hK.out _ _ ⟨(blk_cell (blk_alloc BK210.out _) 0).trans rfl, (blk_cell (blk_alloc BK210.out _) 1).trans rfl⟩ (fun hHeld => ?_)
                                            clear hK K
                                            refine norm_ (a' := ?_) ?_ ?_
                                            rotate_left
                                            · show Act.put _ (some 71) _ = _
                                              simp only [Act.put, List.setIfInBounds_toArray, List.set_cons_zero, List.set_cons_succ, i64_w, i32_w]
                                              rfl
                                            refine one_ (i := 3) (N := some 72) #[true, true, true, true, true, true, true, false, false] rfl rfl (one_of HT_.out (by kernel_rfl)) (by decide) (fun K hK => ?_)
                                            refine Kd.N_append_step k28 (w0 := w) w.heap.size (by rfl) (.tmp 69) (.tmp 71) 59 28 (.agg #[(.int .i64 0), (.slice none 0 0)]) 32 rfl Try.underlying59 info28 rfl (by decide) (by omega) v230 y229 (⟨a0, y215⟩ : S28) [.int .i64 a0, .slice Ao26 y215.length co26] (fun k_ => (w.heap.size ≤ k_) ∧ k_ ≠ gb210) (fun k_ => ((fun k_ => (w.heap.size ≤ k_) ∧ k_ ≠ gb210)) k_ ∧ some k_ ≠ (v230 : Value).ownBlock) rfl rfl ?aP (fun _ hk => hk) ?aF ?aO ?aB ?aS ?aL ?_
                                            (case aP => exact (k28_mkF _ _ (⟨a0, y215⟩ : S28) (Kd.R_reads' (Kd.R_mono (ok' := (fun k_ => ((fun k_ => (w.heap.size ≤ k_) ∧ k_ ≠ gb210)) k_ ∧ some k_ ≠ (v230 : Value).ownBlock)) (Kd.R_types (Kd.R_apart' (HO_211001.out) (Kd.N_typed HO231.out) (by decide)) BK210.out (by decide)) (fun k_ hk => ⟨⟨hk.1.1, hk.2⟩, hk.1.2⟩))).2.1 (Kd.R_F (Kd.R_mono (ok' := (fun k_ => ((fun k_ => (w.heap.size ≤ k_) ∧ k_ ≠ gb210)) k_ ∧ some k_ ≠ (v230 : Value).ownBlock)) (Kd.R_types (Kd.R_apart' (HO_211001.out) (Kd.N_typed HO231.out) (by decide)) BK210.out (by decide)) (fun k_ hk => ⟨⟨hk.1.1, hk.2⟩, hk.1.2⟩)))))
                                            (case aB => exact (by repeat (first | (with_reducible first | exact HB.out | apply below_alloc | apply pw_below_drewN | apply below_drew1 | refine below_set ?_ GE210.out) | exact HB.out)))
                                            (case aF => exact (fun k_ hk => ⟨(Nat.le_trans (below_size (by repeat (first | (with_reducible first | exact HB.out | apply below_alloc | apply pw_below_drewN | apply below_drew1 | refine below_set ?_ GE210.out) | exact HB.out))) hk), Kd.freshB (g := gb210) (o := .cells #[.int .i64 a0, .slice Ao26 y215.length co26] 28 (0, 0)) (by (with_reducible repeat (first | refine blk_drewN ?_ _ | refine blk_drew ?_ | refine blk_alloc ?_ _)); exact BK210.out) k_ hk⟩))
                                            (case aO => exact (by (with_reducible repeat (first | apply Kd.N_alloc | apply Kd.N_drewN | apply Kd.N_drew)); exact Kd.N_mono HO231.out (fun _ hk => ⟨hk.1, hk.2.2⟩)))
                                            (case aS => exact (below_size (by repeat (first | (with_reducible first | exact HB.out | apply below_alloc | apply pw_below_drewN | apply below_drew1 | refine below_set ?_ GE210.out) | exact HB.out))))
                                            (case aL => have := LMc40.out; omega)
                                            intro v233 w51 ho hb hg hat
                                            rw [← Ny232.out] at ho
                                            have n0_ := Aside0.mk (Kd.N_afterv (ok := (fun k_ => (w.heap.size ≤ k_) ∧ some k_ ≠ (.slice Ao26 y215.length co26 : Value).ownBlock ∧ k_ ≠ gb210)) (by (with_reducible repeat (first | apply Kd.N_alloc | apply Kd.N_drewN | apply Kd.N_drew)); exact HO_4.out) hg hat)
                                            have n1_ := Aside0.mk (blk_grown (g := gb210) (o := .cells #[.int .i64 a0, .slice Ao26 y215.length co26] 28 (0, 0)) (by (with_reducible repeat (first | refine blk_drewN ?_ _ | refine blk_drew ?_ | refine blk_alloc ?_ _)); exact BK210.out) hg (Kd.N_away HO231.out (fun _ hk => hk.2.2)))
                                            have n2_ := Aside0.mk (Kd.V_afterv (ok := (fun k_ => (w.heap.size ≤ k_) ∧ some k_ ≠ (.slice (some ad219) x4_1.length co29 : Value).ownBlock ∧ some k_ ≠ (.slice Ao26 y215.length co26 : Value).ownBlock ∧ k_ ≠ gb210)) (by (with_reducible repeat (first | apply Kd.V_alloc | apply Kd.V_drewN | apply Kd.V_drew)); exact HL219_1.out) hg hat)
                                            have n3_ := Aside0.mk (Kd.V_afterv (ok := (fun k_ => (w.heap.size ≤ k_) ∧ some k_ ≠ (.slice Ao26 y215.length co26 : Value).ownBlock ∧ k_ ≠ gb210)) (by (with_reducible repeat (first | apply Kd.V_alloc | apply Kd.V_drewN | apply Kd.V_drew)); exact HO228.out) hg hat)
                                            have n4_ := Aside0.mk (Kd.V_afterv (ok := (fun k_ => (w.heap.size ≤ k_) ∧ some k_ ≠ (.slice Ao26 y215.length co26 : Value).ownBlock ∧ k_ ≠ gb210)) (by (with_reducible repeat (first | apply Kd.V_alloc | apply Kd.V_drewN | apply Kd.V_drew)); exact HO239.out) hg hat)
                                            have n5_ := Aside0.mk (hb)
                                            have n6_ := Aside0.mk (ho)
                                            clear HO_4
                                            clear BK210
                                            clear HL219_1
                                            clear HO228
                                            clear HO239
                                            clear HB
                                            clear HO231
                                            clear HO_211001
                                            have HO_4 := n0_
                                            have BK210 := n1_
                                            have HL219_1 := n2_
                                            have HO228 := n3_
                                            have HO239 := n4_
                                            have HB := n5_
                                            have HO234 := n6_
                                            clear n0_ n1_ n2_ n3_ n4_ n5_ n6_
                                            clear ho hb hg hat
                                            refine hK.out _ _ ⟨(blk_cell BK210.out 0).trans rfl, (blk_cell BK210.out 1).trans rfl⟩ (fun hHeld => ?_)
                                            clear hK K
                                            refine norm_ (a' := ?_) ?_ ?_
                                            rotate_left
                                            · show Act.put _ (some 72) _ = _
                                              simp only [Act.put, List.setIfInBounds_toArray, List.set_cons_zero, List.set_cons_succ, i64_w, i32_w]
                                              rfl
                                            refine one_ (i := 7) (N := some 76) #[true, true, true, true, true, true, true, true, false] rfl rfl (one_of HT_.out (by kernel_rfl)) (by decide) (fun K hK => ?_)
                                            refine Kd.N_append_rows_step k28 (w0 := w) w.heap.size (by rfl) (.tmp 72) (.tmp 75) 59 28 (.agg #[(.int .i64 0), (.slice none 0 0)]) 32 rfl Try.underlying59 info28 rfl (by decide) (by omega) v233 y232 y235 _ _ _ (fun k_ => (w.heap.size ≤ k_) ∧ k_ ≠ gb210) (fun k_ => ((fun k_ => (w.heap.size ≤ k_) ∧ k_ ≠ gb210)) k_ ∧ some k_ ≠ (v233 : Value).ownBlock) rfl rfl ?aO ?aR (fun _ hk => hk) ?aF ?aB ?aS ?aL ?_
                                            (case aR => exact (by skip; exact Kd.V_F (Kd.V_mono (ok' := (fun k_ => ((fun k_ => (w.heap.size ≤ k_) ∧ k_ ≠ gb210)) k_ ∧ some k_ ≠ (v233 : Value).ownBlock)) (HO239.out) (fun k_ hk => ⟨⟨hk.1.1, hk.1.2.2⟩, hk.2⟩))))
                                            (case aB => exact (by repeat (first | (with_reducible first | exact HB.out | apply below_alloc | apply pw_below_drewN | apply below_drew1 | refine below_set ?_ GE210.out) | exact HB.out)))
                                            (case aF => exact (fun k_ hk => ⟨(Nat.le_trans (below_size (by repeat (first | (with_reducible first | exact HB.out | apply below_alloc | apply pw_below_drewN | apply below_drew1 | refine below_set ?_ GE210.out) | exact HB.out))) hk), Kd.freshB (g := gb210) (o := .cells #[.int .i64 a0, .slice Ao26 y215.length co26] 28 (0, 0)) (by (with_reducible repeat (first | refine blk_drewN ?_ _ | refine blk_drew ?_ | refine blk_alloc ?_ _)); exact BK210.out) k_ hk⟩))
                                            (case aO => exact (by (with_reducible repeat (first | apply Kd.N_alloc | apply Kd.N_drewN | apply Kd.N_drew)); exact HO234.out))
                                            (case aS => exact (below_size (by repeat (first | (with_reducible first | exact HB.out | apply below_alloc | apply pw_below_drewN | apply below_drew1 | refine below_set ?_ GE210.out) | exact HB.out))))
                                            (case aL => have := LMc43.out; omega)
                                            intro v241 w52 ho hb hg hat
                                            rw [← Ny240.out] at ho
                                            have n0_ := Aside0.mk (Kd.N_afterv (ok := (fun k_ => (w.heap.size ≤ k_) ∧ k_ ≠ gb210)) (by (with_reducible repeat (first | apply Kd.N_alloc | apply Kd.N_drewN | apply Kd.N_drew)); exact Kd.N_mono HO_4.out (fun _ hk => ⟨⟨hk.1.1, hk.1.2.2⟩, hk.2⟩)) hg hat)
                                            have n1_ := Aside0.mk (blk_grown (g := gb210) (o := .cells #[.int .i64 a0, .slice Ao26 y215.length co26] 28 (0, 0)) (by (with_reducible repeat (first | refine blk_drewN ?_ _ | refine blk_drew ?_ | refine blk_alloc ?_ _)); exact BK210.out) hg (Kd.N_away HO234.out (fun _ hk => hk.2)))
                                            have n2_ := Aside0.mk (Kd.V_afterv (ok := (fun k_ => (w.heap.size ≤ k_) ∧ some k_ ≠ (.slice (some ad219) x4_1.length co29 : Value).ownBlock ∧ k_ ≠ gb210)) (by (with_reducible repeat (first | apply Kd.V_alloc | apply Kd.V_drewN | apply Kd.V_drew)); exact Kd.V_mono HL219_1.out (fun _ hk => ⟨⟨hk.1.1, ⟨hk.1.2.1, hk.1.2.2.2⟩⟩, hk.2⟩)) hg hat)
                                            have n3_ := Aside0.mk (Kd.V_afterv (ok := (fun k_ => (w.heap.size ≤ k_) ∧ k_ ≠ gb210)) (by (with_reducible repeat (first | apply Kd.V_alloc | apply Kd.V_drewN | apply Kd.V_drew)); exact Kd.V_mono HO228.out (fun _ hk => ⟨⟨hk.1.1, hk.1.2.2⟩, hk.2⟩)) hg hat)
                                            have n4_ := Aside0.mk (Kd.V_afterv (ok := (fun k_ => (w.heap.size ≤ k_) ∧ k_ ≠ gb210)) (by (with_reducible repeat (first | apply Kd.V_alloc | apply Kd.V_drewN | apply Kd.V_drew)); exact Kd.V_mono HO239.out (fun _ hk => ⟨⟨hk.1.1, hk.1.2.2⟩, hk.2⟩)) hg hat)
                                            have n5_ := Aside0.mk (hb)
                                            have n6_ := Aside0.mk (ho)
                                            clear HO_4
                                            clear BK210
                                            clear HL219_1
                                            clear HO228
                                            clear HO239
                                            clear HB
                                            clear HO234
                                            have HO_4 := n0_
                                            have BK210 := n1_
                                            have HL219_1 := n2_
                                            have HO228 := n3_
                                            have HO239 := n4_
                                            have HB := n5_
                                            have HO242 := n6_
                                            clear n0_ n1_ n2_ n3_ n4_ n5_ n6_
                                            clear ho hb hg hat
                                            refine hK.out _ _ ⟨(blk_cell BK210.out 0).trans rfl, (blk_cell BK210.out 1).trans rfl⟩ (fun hHeld => ?_)
                                            clear hK K
                                            refine norm_ (a' := ?_) ?_ ?_
                                            rotate_left
                                            · show Act.put _ (some 76) _ = _
                                              simp only [Act.put, List.setIfInBounds_toArray, List.set_cons_zero, List.set_cons_succ, i64_w, i32_w]
                                              rfl
                                            refine pure_ (i := 8) (N := some 4) (v := ?_) (a' := ?_) #[true, true, true, true, true, true, true, true, true] rfl rfl (any_of HT_.out (by kernel_rfl)) (fun _ _ _ h => h) (Or.inl ⟨by rfl, ?_⟩) ?_ ?_
                                            rotate_left
                                            · intro w'
                                              go_simp
                                              with_reducible rfl
                                            rotate_left
                                            · simp only [Act.put, List.setIfInBounds_toArray, List.set_cons_zero, List.set_cons_succ, i64_w, i32_w]
                                              rfl
                                            refine done_ (done_of HT_.out (by kernel_rfl)) ?_
                                            try go_wp2
                                            go_roundg k3
                                            case measure => have := HK1.out; have := HK2.out; have := HK3.out; omega
                                            case rel => exact ⟨(y240), (wrap64 (x5_1 + 1)), (by first | rfl | (simp; done) | (simp [*]; done)), H', ⟨by have := HK1.out; have := HK2.out; have := HK3.out; omega⟩, ⟨by (with_reducible repeat (first | apply Kd.N_alloc | apply Kd.N_drewN | apply Kd.N_drew)); exact Kd.N_mono HO242.out (fun _ hk => hk.1)⟩, ⟨by repeat (first | (with_reducible first | exact HB.out | apply below_alloc | apply pw_below_drewN | apply below_drew1 | refine below_set ?_ GE210.out) | exact HB.out)⟩⟩
                                          · rw [if_neg c43] at H
                                            exact absurd H (by simp)
                                        · rw [if_neg c40] at H
                                          exact absurd H (by simp)
                                      · rw [if_neg c39] at H
                                        exact absurd H (by simp)
                                    · rw [if_neg c38] at H
                                      exact absurd H (by simp)
                                  · rw [if_neg c37] at H
                                    exact absurd H (by simp)
                              · rw [if_neg c33] at H
                                exact absurd H (by simp)
                            · rw [if_neg c32] at H
                              exact absurd H (by simp)
                          · rw [if_neg c30] at H
                            have c30b0 : decide (0 < x8_3) = false := decide_eq_false c30
                            clear c30
                            obtain ⟨y243, hy243⟩ : ∃ y_ : List (S28), y_ = (([] : List (S28))) := ⟨_, rfl⟩
                            replace H : (if 0 ≤ x8_3 then (if x8_3 ≤ (x4_1.length : Int) then ((some (x4_1.take (x8_3 : Int).toNat : List (S28))).bind fun y246 => (if y243.length + y246.length < 4398046511104 then ((some (y243 ++ y246 : List (S28))).bind fun y251 => (if y251.length < 4398046511104 then ((some (y251 ++ [(⟨a0, y215⟩ : S28)] : List (S28))).bind fun y254 => ((some (x4_1.drop (x8_3 : Int).toNat : List (S28))).bind fun y257 => (if y254.length + y257.length < 4398046511104 then (spec_alSpaces.l0 k3 a0 (wrap64 ((ji3) - 1)) (y254 ++ y257) (wrap64 (x5_1 + 1))) else (none)))) else (none))) else (none))) else (none)) else (none)) = some r := by first | (rw [hy243]; with_reducible exact H) | (have H2_ := (Option.bind_some _ _).symm.trans H; rw [hy243]; with_reducible exact H2_) | (have H2_ := (Option.bind_some _ _).symm.trans H; with_reducible exact H2_) | with_reducible exact H | (rw [hy243]; exact H) | exact H
                            have Ny243 := Aside0.mk hy243
                            clear hy243
                            by_cases c53 : 0 ≤ x8_3
                            · rw [if_pos c53] at H
                              have c53b0 := eq_true c53
                              have c53b1 : decide (0 ≤ x8_3) = true := decide_eq_true c53
                              clear c53
                              by_cases c54 : x8_3 ≤ (x4_1.length : Int)
                              · rw [if_pos c54] at H
                                have c54b0 := eq_true c54
                                have c54b1 : decide (x8_3 ≤ (x4_1.length : Int)) = true := decide_eq_true c54
                                clear c54
                                obtain ⟨y246, hy246⟩ : ∃ y_ : List (S28), y_ = (x4_1.take (x8_3 : Int).toNat) := ⟨_, rfl⟩
                                replace H : (if y243.length + y246.length < 4398046511104 then ((some (y243 ++ y246 : List (S28))).bind fun y251 => (if y251.length < 4398046511104 then ((some (y251 ++ [(⟨a0, y215⟩ : S28)] : List (S28))).bind fun y254 => ((some (x4_1.drop (x8_3 : Int).toNat : List (S28))).bind fun y257 => (if y254.length + y257.length < 4398046511104 then (spec_alSpaces.l0 k3 a0 (wrap64 ((ji3) - 1)) (y254 ++ y257) (wrap64 (x5_1 + 1))) else (none)))) else (none))) else (none)) = some r := by first | (rw [hy246]; with_reducible exact H) | (have H2_ := (Option.bind_some _ _).symm.trans H; rw [hy246]; with_reducible exact H2_) | (have H2_ := (Option.bind_some _ _).symm.trans H; with_reducible exact H2_) | with_reducible exact H | (rw [hy246]; exact H) | exact H
                                have Ny246 := Aside0.mk hy246
                                clear hy246
                                by_cases c55 : y243.length + y246.length < 4398046511104
                                · rw [if_pos c55] at H
                                  have LMc55 := Aside0.mk c55
                                  clear c55
                                  obtain ⟨y251, hy251⟩ : ∃ y_ : List (S28), y_ = (y243 ++ y246) := ⟨_, rfl⟩
                                  replace H : (if y251.length < 4398046511104 then ((some (y251 ++ [(⟨a0, y215⟩ : S28)] : List (S28))).bind fun y254 => ((some (x4_1.drop (x8_3 : Int).toNat : List (S28))).bind fun y257 => (if y254.length + y257.length < 4398046511104 then (spec_alSpaces.l0 k3 a0 (wrap64 ((ji3) - 1)) (y254 ++ y257) (wrap64 (x5_1 + 1))) else (none)))) else (none)) = some r := by first | (rw [hy251]; with_reducible exact H) | (have H2_ := (Option.bind_some _ _).symm.trans H; rw [hy251]; with_reducible exact H2_) | (have H2_ := (Option.bind_some _ _).symm.trans H; with_reducible exact H2_) | with_reducible exact H | (rw [hy251]; exact H) | exact H
                                  have Ny251 := Aside0.mk hy251
                                  clear hy251
                                  by_cases c56 : y251.length < 4398046511104
                                  · rw [if_pos c56] at H
                                    have LMc56 := Aside0.mk c56
                                    clear c56
                                    obtain ⟨y254, hy254⟩ : ∃ y_ : List (S28), y_ = (y251 ++ [(⟨a0, y215⟩ : S28)]) := ⟨_, rfl⟩
                                    replace H : ((some (x4_1.drop (x8_3 : Int).toNat : List (S28))).bind fun y257 => (if y254.length + y257.length < 4398046511104 then (spec_alSpaces.l0 k3 a0 (wrap64 ((ji3) - 1)) (y254 ++ y257) (wrap64 (x5_1 + 1))) else (none))) = some r := by first | (rw [hy254]; with_reducible exact H) | (have H2_ := (Option.bind_some _ _).symm.trans H; rw [hy254]; with_reducible exact H2_) | (have H2_ := (Option.bind_some _ _).symm.trans H; with_reducible exact H2_) | with_reducible exact H | (rw [hy254]; exact H) | exact H
                                    have Ny254 := Aside0.mk hy254
                                    clear hy254
                                    have c57b0 := eq_true (of_decide_eq_true (by first | (with_reducible assumption) | assumption) : 0 ≤ x8_3)
                                    have c58b0 := eq_true (of_decide_eq_true (by first | (with_reducible assumption) | assumption) : x8_3 ≤ (x4_1.length : Int))
                                    obtain ⟨y257, hy257⟩ : ∃ y_ : List (S28), y_ = (x4_1.drop (x8_3 : Int).toNat) := ⟨_, rfl⟩
                                    replace H : (if y254.length + y257.length < 4398046511104 then (spec_alSpaces.l0 k3 a0 (wrap64 ((ji3) - 1)) (y254 ++ y257) (wrap64 (x5_1 + 1))) else (none)) = some r := by first | (rw [hy257]; with_reducible exact H) | (have H2_ := (Option.bind_some _ _).symm.trans H; rw [hy257]; with_reducible exact H2_) | (have H2_ := (Option.bind_some _ _).symm.trans H; with_reducible exact H2_) | with_reducible exact H | (rw [hy257]; exact H) | exact H
                                    have Ny257 := Aside0.mk hy257
                                    clear hy257
                                    by_cases c59 : y254.length + y257.length < 4398046511104
                                    · rw [if_pos c59] at H
                                      have LMc59 := Aside0.mk c59
                                      clear c59
                                      obtain ⟨y262, hy262⟩ : ∃ y_ : List (S28), y_ = (y254 ++ y257) := ⟨_, rfl⟩
                                      replace H : (spec_alSpaces.l0 k3 a0 (wrap64 ((ji3) - 1)) y262 (wrap64 (x5_1 + 1))) = some r := by first | (rw [hy262]; with_reducible exact H) | (have H2_ := (Option.bind_some _ _).symm.trans H; rw [hy262]; with_reducible exact H2_) | (have H2_ := (Option.bind_some _ _).symm.trans H; with_reducible exact H2_) | with_reducible exact H | (rw [hy262]; exact H) | exact H
                                      have Ny262 := Aside0.mk hy262
                                      clear hy262
                                      have H' := Aside0.mk H
                                      clear H
                                      try go_wp2
                                      have n0_ := Aside0.mk (Kd.N_drew HO_4.out)
                                      have n1_ := Aside0.mk (Kd.R_drew HO_211001.out)
                                      have n2_ := Aside0.mk (blk_drew BK210.out)
                                      have n3_ := Aside0.mk (below_drew1 HB.out)
                                      clear HO_4
                                      clear HO_211001
                                      clear BK210
                                      clear HB
                                      have HO_4 := n0_
                                      have HO_211001 := n1_
                                      have BK210 := n2_
                                      have HB := n3_
                                      clear n0_ n1_ n2_ n3_
                                      refine start_ (n := 13) (S := fun w' => True) (ds := []) #[false, false, false, false, false, false, false, false, false, false, false, false, false] (by kernel_rfl) rfl rfl trivial (fun hHeld => ?_); refine with_tabW spec_alSpaces.tab15 spec_alSpaces.bits15 (fun HT_ HW_ => ?_)
                                      generalize wr.drew = w60 at HO_4 HO_211001 BK210 HB hHeld ⊢
                                      refine pure_ (i := 0) (N := some 49) (v := ?_) (a' := ?_) #[true, false, false, false, false, false, false, false, false, false, false, false, false] rfl rfl (any_of HT_.out (by kernel_rfl)) (fun _ _ _ h => h) (Or.inl ⟨by rfl, ?_⟩) ?_ ?_
                                      rotate_left
                                      · intro w'
                                        go_simp
                                        with_reducible rfl
                                      rotate_left
                                      · simp only [Act.put, List.setIfInBounds_toArray, List.set_cons_zero, List.set_cons_succ, i64_w, i32_w]
                                        rfl
                                      refine pure_ (i := 1) (N := some 50) (v := ?_) (a' := ?_) #[true, true, false, false, false, false, false, false, false, false, false, false, false] rfl rfl (any_of HT_.out (by kernel_rfl)) (fun _ _ _ h => h) (Or.inl ⟨by rfl, ?_⟩) ?_ ?_
                                      rotate_left
                                      · intro w'
                                        go_simp
                                        with_reducible rfl
                                      rotate_left
                                      · simp only [Act.put, List.setIfInBounds_toArray, List.set_cons_zero, List.set_cons_succ, i64_w, i32_w]
                                        rfl
                                      refine pure_ (i := 2) (N := some 51) (v := ?_) (a' := ?_) #[true, true, true, false, false, false, false, false, false, false, false, false, false] rfl rfl (any_of HT_.out (by kernel_rfl)) (fun _ _ _ h => h) (Or.inl ⟨by rfl, ?_⟩) ?_ ?_
                                      rotate_left
                                      · intro w'
                                        go_simp
                                        with_reducible rfl
                                      rotate_left
                                      · simp only [Act.put, List.setIfInBounds_toArray, List.set_cons_zero, List.set_cons_succ, i64_w, i32_w]
                                        rfl
                                      refine pure_ (i := 3) (N := some 52) (v := undef) (a' := ?_) #[true, true, true, true, false, false, false, false, false, false, false, false, false] rfl rfl (any_of HT_.out (by kernel_rfl)) (fun _ _ _ h => h) (Or.inr ⟨by rfl, rfl⟩) ?_ ?_
                                      rotate_left
                                      · simp only [Act.put, List.setIfInBounds_toArray, List.set_cons_zero, List.set_cons_succ, i64_w, i32_w]
                                        rfl
                                      refine pure_ (i := 4) (N := some 53) (v := undef) (a' := ?_) #[true, true, true, true, true, false, false, false, false, false, false, false, false] rfl rfl (any_of HT_.out (by kernel_rfl)) (fun _ _ _ h => h) (Or.inr ⟨by rfl, rfl⟩) ?_ ?_
                                      rotate_left
                                      · simp only [Act.put, List.setIfInBounds_toArray, List.set_cons_zero, List.set_cons_succ, i64_w, i32_w]
                                        rfl
                                      refine pure_ (i := 5) (N := some 54) (v := undef) (a' := ?_) #[true, true, true, true, true, true, false, false, false, false, false, false, false] rfl rfl (any_of HT_.out (by kernel_rfl)) (fun _ _ _ h => h) (Or.inr ⟨by rfl, rfl⟩) ?_ ?_
                                      rotate_left
                                      · simp only [Act.put, List.setIfInBounds_toArray, List.set_cons_zero, List.set_cons_succ, i64_w, i32_w]
                                        rfl
                                      refine pure_ (i := 6) (N := some 55) (v := undef) (a' := ?_) #[true, true, true, true, true, true, true, false, false, false, false, false, false] rfl rfl (any_of HT_.out (by kernel_rfl)) (fun _ _ _ h => h) (Or.inr ⟨by rfl, rfl⟩) ?_ ?_
                                      rotate_left
                                      · simp only [Act.put, List.setIfInBounds_toArray, List.set_cons_zero, List.set_cons_succ, i64_w, i32_w]
                                        rfl
                                      refine pure_ (i := 7) (N := some 56) (v := undef) (a' := ?_) #[true, true, true, true, true, true, true, true, false, false, false, false, false] rfl rfl (any_of HT_.out (by kernel_rfl)) (fun _ _ _ h => h) (Or.inr ⟨by rfl, rfl⟩) ?_ ?_
                                      rotate_left
                                      · simp only [Act.put, List.setIfInBounds_toArray, List.set_cons_zero, List.set_cons_succ, i64_w, i32_w]
                                        rfl
                                      refine pure_ (i := 8) (N := some 57) (v := undef) (a' := ?_) #[true, true, true, true, true, true, true, true, true, false, false, false, false] rfl rfl (any_of HT_.out (by kernel_rfl)) (fun _ _ _ h => h) (Or.inr ⟨by rfl, rfl⟩) ?_ ?_
                                      rotate_left
                                      · simp only [Act.put, List.setIfInBounds_toArray, List.set_cons_zero, List.set_cons_succ, i64_w, i32_w]
                                        rfl
                                      refine pure_ (i := 9) (N := some 58) (v := undef) (a' := ?_) #[true, true, true, true, true, true, true, true, true, true, false, false, false] rfl rfl (any_of HT_.out (by kernel_rfl)) (fun _ _ _ h => h) (Or.inr ⟨by rfl, rfl⟩) ?_ ?_
                                      rotate_left
                                      · simp only [Act.put, List.setIfInBounds_toArray, List.set_cons_zero, List.set_cons_succ, i64_w, i32_w]
                                        rfl
                                      refine pure_ (i := 10) (N := some 59) (v := undef) (a' := ?_) #[true, true, true, true, true, true, true, true, true, true, true, false, false] rfl rfl (any_of HT_.out (by kernel_rfl)) (fun _ _ _ h => h) (Or.inr ⟨by rfl, rfl⟩) ?_ ?_
                                      rotate_left
                                      · simp only [Act.put, List.setIfInBounds_toArray, List.set_cons_zero, List.set_cons_succ, i64_w, i32_w]
                                        rfl
                                      refine pure_ (i := 11) (N := some 60) (v := undef) (a' := ?_) #[true, true, true, true, true, true, true, true, true, true, true, true, false] rfl rfl (any_of HT_.out (by kernel_rfl)) (fun _ _ _ h => h) (Or.inr ⟨by rfl, rfl⟩) ?_ ?_
                                      rotate_left
                                      · simp only [Act.put, List.setIfInBounds_toArray, List.set_cons_zero, List.set_cons_succ, i64_w, i32_w]
                                        rfl
                                      refine pure_ (i := 12) (N := some 61) (v := ?_) (a' := ?_) #[true, true, true, true, true, true, true, true, true, true, true, true, true] rfl rfl (any_of HT_.out (by kernel_rfl)) (fun _ _ _ h => h) (Or.inl ⟨by rfl, ?_⟩) ?_ ?_
                                      rotate_left
                                      · intro w'
                                        go_simp
                                        with_reducible rfl
                                      rotate_left
                                      · simp only [Act.put, List.setIfInBounds_toArray, List.set_cons_zero, List.set_cons_succ, i64_w, i32_w]
                                        rfl
                                      refine done_ (done_of HT_.out (by kernel_rfl)) ?_
                                      try go_wp2_with (first | ((with_reducible refine gate_dst (N := 64) rfl ?_); refine Kd.N_lit k28 _ 28 ?hg (N' := 64) ?hd (xs := ([] : List (S28))) (inner := []) (ok := (fun k_ => (w.heap.size ≤ k_) ∧ some k_ ≠ (.slice Ao29 x4_1.length co29 : Value).ownBlock ∧ some k_ ≠ (.slice Ao26 y215.length co26 : Value).ownBlock ∧ k_ ≠ gb210)) (okp := (fun k_ => (w.heap.size ≤ k_) ∧ some k_ ≠ (.slice Ao29 x4_1.length co29 : Value).ownBlock ∧ some k_ ≠ (.slice Ao26 y215.length co26 : Value).ownBlock ∧ k_ ≠ gb210)) ?hr ?hp (fun _ hk => hk) ((show ∀ k_, w60.heap.size ≤ k_ → (fun k_ => (w.heap.size ≤ k_) ∧ some k_ ≠ (.slice Ao29 x4_1.length co29 : Value).ownBlock ∧ some k_ ≠ (.slice Ao26 y215.length co26 : Value).ownBlock ∧ k_ ≠ gb210) k_ from fun k_ hk => ⟨(Nat.le_trans (below_size (by repeat (first | (with_reducible first | exact HB.out | apply below_alloc | apply pw_below_drewN | apply below_drew1 | refine below_set ?_ GE210.out) | exact HB.out))) hk), Kd.fresh' (Kd.N_lt (by (with_reducible repeat (first | apply Kd.N_alloc | apply Kd.N_drewN | apply Kd.N_drew)); exact HO_4.out)) k_ hk, Kd.fresh' (Kd.R_lt (by (with_reducible repeat (first | apply Kd.R_alloc | apply Kd.R_drewN | apply Kd.R_drew)); exact HO_211001.out)) k_ hk, Kd.freshB (g := gb210) (o := .cells #[.int .i64 a0, .slice Ao26 y215.length co26] 28 (0, 0)) (by (with_reducible repeat (first | refine blk_drewN ?_ _ | refine blk_drew ?_ | refine blk_alloc ?_ _)); exact BK210.out) k_ hk⟩) _ (Nat.le_refl _)) (Below.refl _ _) (Nat.le_refl _) (by simp) ?_; (case hd => rfl); (case hg => rfl); (case hr => first | (go_simp; done) | (go_simp; rfl)); (case hp => exact (Reps.none _ _)); intro v244 w61 ho62 hb hg_ hnew_; clear hg_ hnew_; (first | rw [← Ny243.out] at ho62 | (simp only [Int.reduceToNat] at ho62; rw [← Ny243.out] at ho62)); have n0_ := Aside0.mk (Kd.N_elder' (by (with_reducible repeat (first | apply Kd.N_alloc | apply Kd.N_drewN | apply Kd.N_drew)); exact HO_4.out) (Kd.N_base ho62) hb); have n1_ := Aside0.mk (Kd.R_below (by (with_reducible repeat (first | apply Kd.R_alloc | apply Kd.R_drewN | apply Kd.R_drew)); exact HO_211001.out) hb); have n2_ := Aside0.mk (Kd.N_lower ho62 (below_size (by repeat (first | (with_reducible first | exact HB.out | apply below_alloc | apply pw_below_drewN | apply below_drew1 | refine below_set ?_ GE210.out) | exact HB.out)))); have n3_ := Aside0.mk (blk_below (g := gb210) (o := .cells #[.int .i64 a0, .slice Ao26 y215.length co26] 28 (0, 0)) (by (with_reducible repeat (first | refine blk_drewN ?_ _ | refine blk_drew ?_ | refine blk_alloc ?_ _)); exact BK210.out) hb); have n4_ := Aside0.mk (below_step (by repeat (first | (with_reducible first | exact HB.out | apply below_alloc | apply pw_below_drewN | apply below_drew1 | refine below_set ?_ GE210.out) | exact HB.out)) hb); clear HO_4; clear HO_211001; clear BK210; clear HB; have HO_4 := n0_; have HO_211001 := n1_; have HO245 := n2_; have BK210 := n3_; have HB := n4_; clear n0_ n1_ n2_ n3_ n4_; clear hb ho62; have q63 : (x8_3 : Int) ≤ ((x4_1.length : Int) : Int) := of_decide_eq_true (by first | (with_reducible assumption) | assumption); obtain ⟨i063, hi063, _, hsz63, _⟩ := info_parts info28; have hroom63 : x4_1.length ≤ co29 := (Kd.N_reads' HO_4.out).2.1; have hC63 : Kd.F k28 _ _ Ao29 x4_1.length x4_1 := (Kd.V_at (base := w.heap.size) (Kd.N_V HO_4.out)).2.2; have hcut63 := cut_to (P := Try.prog) 59 28 .i64 Try.underlying59 hi063 Ao29 x4_1.length co29 x8_3 (of_decide_eq_true (by first | (with_reducible assumption) | assumption)) q63 hroom63; have hr63 := Kd.F_take (m := (x8_3 : Int).toNat) hC63 (by omega); have hy63 : y246.length = (x8_3 : Int).toNat := (by rw [Ny246.out, List.length_take]; omega); rw [← Ny246.out] at hr63; rw [← hy63] at hcut63; have HO250 := Aside0.mk (show Kd.V k28 28 _ w.heap.size _ (.slice Ao29 y246.length co29) y246 from Kd.V_mk (by omega) hr63); have HC250 := Aside0.mk (show y246.length ≤ co29 from by omega); clear hr63 hC63 hroom63 hi063 hsz63; have KY63 := Aside0.mk hy63; clear hy63; replace q63 := eq_true q63) | ((with_reducible refine gate_builtin (b := .append) (xs := #[.tmp 64, .tmp 67]) rfl ?_); at_builtin; refine Kd.N_append_rows k28 (w0 := w) w.heap.size rfl (.tmp 64) (.tmp 67) 59 28 (.agg #[(.int .i64 0), (.slice none 0 0)]) 32 rfl Try.underlying59 info28 rfl (by decide) (by omega) v244 y243 y246 _ _ _ (fun k_ => (w.heap.size ≤ k_) ∧ some k_ ≠ (.slice Ao26 y215.length co26 : Value).ownBlock ∧ k_ ≠ gb210) (fun k_ => ((fun k_ => (w.heap.size ≤ k_) ∧ some k_ ≠ (.slice Ao26 y215.length co26 : Value).ownBlock ∧ k_ ≠ gb210)) k_ ∧ some k_ ≠ (v244 : Value).ownBlock) rfl rfl ?aO ?aR (fun _ hk => hk) ?aF ?aB ?aS ?aL ?_; (case aR => exact (by skip; exact Kd.V_F (Kd.V_mono (ok' := (fun k_ => ((fun k_ => (w.heap.size ≤ k_) ∧ some k_ ≠ (.slice Ao26 y215.length co26 : Value).ownBlock ∧ k_ ≠ gb210)) k_ ∧ some k_ ≠ (v244 : Value).ownBlock)) (HO250.out) (fun k_ hk => ⟨⟨hk.1.1, ⟨hk.1.2.1, hk.1.2.2⟩⟩, hk.2⟩)))); (case aB => exact (by repeat (first | (with_reducible first | exact HB.out | apply below_alloc | apply pw_below_drewN | apply below_drew1 | refine below_set ?_ GE210.out) | exact HB.out))); (case aF => exact (fun k_ hk => ⟨(Nat.le_trans (below_size (by repeat (first | (with_reducible first | exact HB.out | apply below_alloc | apply pw_below_drewN | apply below_drew1 | refine below_set ?_ GE210.out) | exact HB.out))) hk), Kd.fresh' (Kd.R_lt (by (with_reducible repeat (first | apply Kd.R_alloc | apply Kd.R_drewN | apply Kd.R_drew)); exact HO_211001.out)) k_ hk, Kd.freshB (g := gb210) (o := .cells #[.int .i64 a0, .slice Ao26 y215.length co26] 28 (0, 0)) (by (with_reducible repeat (first | refine blk_drewN ?_ _ | refine blk_drew ?_ | refine blk_alloc ?_ _)); exact BK210.out) k_ hk⟩)); (case aO => exact (by (with_reducible repeat (first | apply Kd.N_alloc | apply Kd.N_drewN | apply Kd.N_drew)); exact Kd.N_mono HO245.out (fun _ hk => ⟨hk.1, ⟨hk.2.2.1, hk.2.2.2⟩⟩))); (case aS => exact (below_size (by repeat (first | (with_reducible first | exact HB.out | apply below_alloc | apply pw_below_drewN | apply below_drew1 | refine below_set ?_ GE210.out) | exact HB.out)))); (case aL => have := LMc55.out; omega); intro v252 w64 ho hb hg hat; rw [← Ny251.out] at ho; have n0_ := Aside0.mk (Kd.N_afterv (ok := (fun k_ => (w.heap.size ≤ k_) ∧ some k_ ≠ (.slice Ao26 y215.length co26 : Value).ownBlock ∧ k_ ≠ gb210)) (by (with_reducible repeat (first | apply Kd.N_alloc | apply Kd.N_drewN | apply Kd.N_drew)); exact HO_4.out) hg hat); have n1_ := Aside0.mk (Kd.R_over' (by (with_reducible repeat (first | apply Kd.R_alloc | apply Kd.R_drewN | apply Kd.R_drew)); exact HO_211001.out) (Kd.N_typed (by (with_reducible repeat (first | apply Kd.N_alloc | apply Kd.N_drewN | apply Kd.N_drew)); exact HO245.out)) (by decide) hg); have n2_ := Aside0.mk (blk_grown (g := gb210) (o := .cells #[.int .i64 a0, .slice Ao26 y215.length co26] 28 (0, 0)) (by (with_reducible repeat (first | refine blk_drewN ?_ _ | refine blk_drew ?_ | refine blk_alloc ?_ _)); exact BK210.out) hg (Kd.N_away HO245.out (fun _ hk => hk.2.2.2))); have n3_ := Aside0.mk (Kd.V_afterv (ok := (fun k_ => (w.heap.size ≤ k_) ∧ some k_ ≠ (.slice Ao26 y215.length co26 : Value).ownBlock ∧ k_ ≠ gb210)) (by (with_reducible repeat (first | apply Kd.V_alloc | apply Kd.V_drewN | apply Kd.V_drew)); exact HO250.out) hg hat); have n4_ := Aside0.mk (hb); have n5_ := Aside0.mk (ho); clear HO_4; clear HO_211001; clear BK210; clear HO250; clear HB; clear HO245; have HO_4 := n0_; have HO_211001 := n1_; have BK210 := n2_; have HO250 := n3_; have HB := n4_; have HO253 := n5_; clear n0_ n1_ n2_ n3_ n4_ n5_; clear ho hb hg hat))
                                      have n0_ := Aside0.mk (Kd.N_drew HO_4.out)
                                      have n1_ := Aside0.mk (Kd.R_drew HO_211001.out)
                                      have n2_ := Aside0.mk (Kd.V_drew HO250.out)
                                      have n3_ := Aside0.mk (Kd.N_drew HO253.out)
                                      have n4_ := Aside0.mk (blk_drew BK210.out)
                                      have n5_ := Aside0.mk (below_drew1 HB.out)
                                      clear HO_4
                                      clear HO_211001
                                      clear HO250
                                      clear HO253
                                      clear BK210
                                      clear HB
                                      have HO_4 := n0_
                                      have HO_211001 := n1_
                                      have HO250 := n2_
                                      have HO253 := n3_
                                      have BK210 := n4_
                                      have HB := n5_
                                      clear n0_ n1_ n2_ n3_ n4_ n5_
                                      have q66 : (x8_3 : Int) ≤ ((x4_1.length : Int) : Int) := of_decide_eq_true (by first | (with_reducible assumption) | assumption)
                                      obtain ⟨i066, hi066, _, hsz66, _⟩ := info_parts info28
                                      have hroom66 : x4_1.length ≤ co29 := (Kd.N_reads' HO_4.out).2.1
                                      have hC66 : Kd.F k28 _ _ Ao29 x4_1.length x4_1 := (Kd.V_at (base := w.heap.size) (Kd.N_V HO_4.out)).2.2
                                      have q066 : (0 : Int) ≤ (x8_3 : Int) := of_decide_eq_true (by first | (with_reducible assumption) | assumption)
                                      have hcut66 := cut_from (P := Try.prog) 59 28 .i64 Try.underlying59 hi066 2 hsz66 Ao29 x4_1.length co29 x8_3 q066 q66
                                      have hr66 := Kd.F_cut (m := (x8_3 : Int).toNat) (c := co29) hC66 (by omega) hroom66
                                      obtain ⟨A66, hA66⟩ : ∃ A1, A1 = (if co29 = (x8_3 : Int).toNat then Ao29 else (Ao29 : Option Addr).map (·.add ((x8_3 : Int).toNat * 2))) := ⟨_, rfl⟩
                                      obtain ⟨c66, hc66⟩ : ∃ c1, c1 = co29 - (x8_3 : Int).toNat := ⟨_, rfl⟩
                                      have hy66 : y257.length = x4_1.length - (x8_3 : Int).toNat := (by rw [Ny257.out, List.length_drop] <;> omega)
                                      rw [show (x4_1).drop (x8_3 : Int).toNat = y257 from Ny257.out.symm] at hr66
                                      replace hr66 : Kd.F k28 _ _ A66 y257.length y257 := (by rw [hA66]; exact hr66)
                                      rw [← hy66, ← hA66, ← hc66] at hcut66
                                      have HO261 := Aside0.mk (show Kd.V k28 28 _ w.heap.size _ (.slice A66 y257.length c66) y257 from Kd.V_mk (by rw [hy66, hc66]; exact Nat.sub_le_sub_right hroom66 _) hr66)
                                      have HC261 := Aside0.mk (show y257.length ≤ c66 from by rw [hy66, hc66]; exact Nat.sub_le_sub_right hroom66 _)
                                      clear hr66 hC66 hroom66 hi066 hsz66 hc66
                                      have KY66 := Aside0.mk hy66
                                      have KA66 := Aside0.mk hA66
                                      clear hy66 hA66
                                      replace q66 := eq_true q66
                                      refine start_ (n := 9) (S := fun w' => w'.cell? ⟨gb210, 0, none⟩ = some (.int .i64 a0) ∧ w'.cell? ⟨gb210, 1, none⟩ = some (.slice Ao26 y215.length co26)) (ds := []) #[false, false, false, false, false, false, false, false, false] (by kernel_rfl) rfl rfl ⟨(blk_cell BK210.out 0).trans rfl, (blk_cell BK210.out 1).trans rfl⟩ (fun hHeld => ?_); refine with_tabW spec_alSpaces.tab18 spec_alSpaces.bits18 (fun HT_ HW_ => ?_)
                                      generalize w64.drew = w65 at HO_4 HO_211001 HO250 HO253 BK210 HB HO261 hHeld ⊢
                                      refine pure_ (i := 0) (N := some 69) (v := ?_) (a' := ?_) #[true, false, false, false, false, false, false, false, false] rfl rfl (any_of HT_.out (by kernel_rfl)) (fun _ _ _ h => h) (Or.inl ⟨by rfl, ?_⟩) ?_ ?_
                                      rotate_left
                                      · intro w'
                                        go_simp
                                        with_reducible rfl
                                      rotate_left
                                      · simp only [Act.put, List.setIfInBounds_toArray, List.set_cons_zero, List.set_cons_succ, i64_w, i32_w]
                                        rfl
                                      refine pure_ (i := 4) (N := some 73) (v := ?_) (a' := ?_) #[true, false, false, false, true, false, false, false, false] rfl rfl (any_of HT_.out (by kernel_rfl)) (fun _ _ _ h => h) (Or.inl ⟨by rfl, ?_⟩) ?_ ?_
                                      rotate_left
                                      · intro w'
                                        go_simp
                                        with_reducible rfl
                                      rotate_left
                                      · simp only [Act.put, List.setIfInBounds_toArray, List.set_cons_zero, List.set_cons_succ, i64_w, i32_w]
                                        rfl
                                      refine pure_ (i := 5) (N := some 74) (v := ?_) (a' := ?_) #[true, false, false, false, true, true, false, false, false] rfl rfl (any_of HT_.out (by kernel_rfl)) (fun _ _ _ h => h) (Or.inl ⟨by rfl, ?_⟩) ?_ ?_
                                      rotate_left
                                      · intro w'
                                        go_simp
                                        with_reducible rfl
                                      rotate_left
                                      · simp only [Act.put, List.setIfInBounds_toArray, List.set_cons_zero, List.set_cons_succ, i64_w, i32_w]
                                        rfl
                                      refine pure_ (i := 6) (N := some 75) (v := ?_) (a' := ?_) #[true, false, false, false, true, true, true, false, false] rfl rfl (any_of HT_.out (by kernel_rfl)) (fun _ _ _ h => h) (Or.inl ⟨by rfl, ?_⟩) ?_ ?_
                                      rotate_left
                                      · intro w'
                                        go_simp
                                        with_reducible rfl
                                      rotate_left
                                      · simp only [Act.put, List.setIfInBounds_toArray, List.set_cons_zero, List.set_cons_succ, i64_w, i32_w]
                                        rfl
                                      refine take_ (i := 1) (N := some 70) (v := ?_) (a' := ?_) #[true, true, false, false, true, true, true, false, false] rfl rfl (take_ofW HT_.out HW_.out (by kernel_rfl)) (fun _ _ _ h => h) (Or.inl ⟨by rfl, ?_⟩) hHeld ?_ ?_
                                      rotate_left
                                      · rintro w' ⟨s0, s1⟩
                                        go_simp
                                        with_reducible rfl
                                      rotate_left
                                      · simp only [Act.put, List.setIfInBounds_toArray, List.set_cons_zero, List.set_cons_succ, i64_w, i32_w]
                                        rfl
                                      refine one_ (i := 2) (N := some 71) #[true, true, true, false, true, true, true, false, false] rfl rfl (one_of HT_.out (by kernel_rfl)) (by decide) (fun K hK => ?_)
                                      refine value_ (w1 := ?_) (v := ?_) (by rfl) rfl ?_ ?_
                                      rotate_left 2
                                      · go_simp
                                        constructor
                                        · rfl
                                        · rfl
                                      refine hK.out _ _ ⟨(blk_cell (blk_alloc BK210.out _) 0).trans rfl, (blk_cell (blk_alloc BK210.out _) 1).trans rfl⟩ (fun hHeld => ?_)
                                      clear hK K
                                      refine norm_ (a' := ?_) ?_ ?_
                                      rotate_left
                                      · show Act.put _ (some 71) _ = _
                                        simp only [Act.put, List.setIfInBounds_toArray, List.set_cons_zero, List.set_cons_succ, i64_w, i32_w]
                                        rfl
                                      refine one_ (i := 3) (N := some 72) #[true, true, true, true, true, true, true, false, false] rfl rfl (one_of HT_.out (by kernel_rfl)) (by decide) (fun K hK => ?_)
                                      refine Kd.N_append_step k28 (w0 := w) w.heap.size (by rfl) (.tmp 69) (.tmp 71) 59 28 (.agg #[(.int .i64 0), (.slice none 0 0)]) 32 rfl Try.underlying59 info28 rfl (by decide) (by omega) v252 y251 (⟨a0, y215⟩ : S28) [.int .i64 a0, .slice Ao26 y215.length co26] (fun k_ => (w.heap.size ≤ k_) ∧ k_ ≠ gb210) (fun k_ => ((fun k_ => (w.heap.size ≤ k_) ∧ k_ ≠ gb210)) k_ ∧ some k_ ≠ (v252 : Value).ownBlock) rfl rfl ?aP (fun _ hk => hk) ?aF ?aO ?aB ?aS ?aL ?_
                                      (case aP => exact (k28_mkF _ _ (⟨a0, y215⟩ : S28) (Kd.R_reads' (Kd.R_mono (ok' := (fun k_ => ((fun k_ => (w.heap.size ≤ k_) ∧ k_ ≠ gb210)) k_ ∧ some k_ ≠ (v252 : Value).ownBlock)) (Kd.R_types (Kd.R_apart' (HO_211001.out) (Kd.N_typed HO253.out) (by decide)) BK210.out (by decide)) (fun k_ hk => ⟨⟨hk.1.1, hk.2⟩, hk.1.2⟩))).2.1 (Kd.R_F (Kd.R_mono (ok' := (fun k_ => ((fun k_ => (w.heap.size ≤ k_) ∧ k_ ≠ gb210)) k_ ∧ some k_ ≠ (v252 : Value).ownBlock)) (Kd.R_types (Kd.R_apart' (HO_211001.out) (Kd.N_typed HO253.out) (by decide)) BK210.out (by decide)) (fun k_ hk => ⟨⟨hk.1.1, hk.2⟩, hk.1.2⟩)))))
                                      (case aB => exact (by repeat (first | (with_reducible first | exact HB.out | apply below_alloc | apply pw_below_drewN | apply below_drew1 | refine below_set ?_ GE210.out) | exact HB.out)))
                                      (case aF => exact (fun k_ hk => ⟨(Nat.le_trans (below_size (by repeat (first | (with_reducible first | exact HB.out | apply below_alloc | apply pw_below_drewN | apply below_drew1 | refine below_set ?_ GE210.out) | exact HB.out))) hk), Kd.freshB (g := gb210) (o := .cells #[.int .i64 a0, .slice Ao26 y215.length co26] 28 (0, 0)) (by (with_reducible repeat (first | refine blk_drewN ?_ _ | refine blk_drew ?_ | refine blk_alloc ?_ _)); exact BK210.out) k_ hk⟩))
                                      (case aO => exact (by (with_reducible repeat (first | apply Kd.N_alloc | apply Kd.N_drewN | apply Kd.N_drew)); exact Kd.N_mono HO253.out (fun _ hk => ⟨hk.1, hk.2.2⟩)))
                                      (case aS => exact (below_size (by repeat (first | (with_reducible first | exact HB.out | apply below_alloc | apply pw_below_drewN | apply below_drew1 | refine below_set ?_ GE210.out) | exact HB.out))))
                                      (case aL => have := LMc56.out; omega)
                                      intro v255 w67 ho hb hg hat
                                      rw [← Ny254.out] at ho
                                      have n0_ := Aside0.mk (Kd.N_afterv (ok := (fun k_ => (w.heap.size ≤ k_) ∧ some k_ ≠ (.slice Ao26 y215.length co26 : Value).ownBlock ∧ k_ ≠ gb210)) (by (with_reducible repeat (first | apply Kd.N_alloc | apply Kd.N_drewN | apply Kd.N_drew)); exact HO_4.out) hg hat)
                                      have n1_ := Aside0.mk (blk_grown (g := gb210) (o := .cells #[.int .i64 a0, .slice Ao26 y215.length co26] 28 (0, 0)) (by (with_reducible repeat (first | refine blk_drewN ?_ _ | refine blk_drew ?_ | refine blk_alloc ?_ _)); exact BK210.out) hg (Kd.N_away HO253.out (fun _ hk => hk.2.2)))
                                      have n2_ := Aside0.mk (Kd.V_afterv (ok := (fun k_ => (w.heap.size ≤ k_) ∧ some k_ ≠ (.slice Ao26 y215.length co26 : Value).ownBlock ∧ k_ ≠ gb210)) (by (with_reducible repeat (first | apply Kd.V_alloc | apply Kd.V_drewN | apply Kd.V_drew)); exact HO250.out) hg hat)
                                      have n3_ := Aside0.mk (Kd.V_afterv (ok := (fun k_ => (w.heap.size ≤ k_) ∧ some k_ ≠ (.slice Ao26 y215.length co26 : Value).ownBlock ∧ k_ ≠ gb210)) (by (with_reducible repeat (first | apply Kd.V_alloc | apply Kd.V_drewN | apply Kd.V_drew)); exact HO261.out) hg hat)
                                      have n4_ := Aside0.mk (hb)
                                      have n5_ := Aside0.mk (ho)
                                      clear HO_4
                                      clear BK210
                                      clear HO250
                                      clear HO261
                                      clear HB
                                      clear HO253
                                      clear HO_211001
                                      have HO_4 := n0_
                                      have BK210 := n1_
                                      have HO250 := n2_
                                      have HO261 := n3_
                                      have HB := n4_
                                      have HO256 := n5_
                                      clear n0_ n1_ n2_ n3_ n4_ n5_
                                      clear ho hb hg hat
                                      refine hK.out _ _ ⟨(blk_cell BK210.out 0).trans rfl, (blk_cell BK210.out 1).trans rfl⟩ (fun hHeld => ?_)
                                      clear hK K
                                      refine norm_ (a' := ?_) ?_ ?_
                                      rotate_left
                                      · show Act.put _ (some 72) _ = _
                                        simp only [Act.put, List.setIfInBounds_toArray, List.set_cons_zero, List.set_cons_succ, i64_w, i32_w]
                                        rfl
                                      refine one_ (i := 7) (N := some 76) #[true, true, true, true, true, true, true, true, false] rfl rfl (one_of HT_.out (by kernel_rfl)) (by decide) (fun K hK => ?_)
                                      refine Kd.N_append_rows_step k28 (w0 := w) w.heap.size (by rfl) (.tmp 72) (.tmp 75) 59 28 (.agg #[(.int .i64 0), (.slice none 0 0)]) 32 rfl Try.underlying59 info28 rfl (by decide) (by omega) v255 y254 y257 _ _ _ (fun k_ => (w.heap.size ≤ k_) ∧ k_ ≠ gb210) (fun k_ => ((fun k_ => (w.heap.size ≤ k_) ∧ k_ ≠ gb210)) k_ ∧ some k_ ≠ (v255 : Value).ownBlock) rfl rfl ?aO ?aR (fun _ hk => hk) ?aF ?aB ?aS ?aL ?_
                                      (case aR => exact (by skip; exact Kd.V_F (Kd.V_mono (ok' := (fun k_ => ((fun k_ => (w.heap.size ≤ k_) ∧ k_ ≠ gb210)) k_ ∧ some k_ ≠ (v255 : Value).ownBlock)) (HO261.out) (fun k_ hk => ⟨⟨hk.1.1, hk.1.2.2⟩, hk.2⟩))))
                                      (case aB => exact (by repeat (first | (with_reducible first | exact HB.out | apply below_alloc | apply pw_below_drewN | apply below_drew1 | refine below_set ?_ GE210.out) | exact HB.out)))
                                      (case aF => exact (fun k_ hk => ⟨(Nat.le_trans (below_size (by repeat (first | (with_reducible first | exact HB.out | apply below_alloc | apply pw_below_drewN | apply below_drew1 | refine below_set ?_ GE210.out) | exact HB.out))) hk), Kd.freshB (g := gb210) (o := .cells #[.int .i64 a0, .slice Ao26 y215.length co26] 28 (0, 0)) (by (with_reducible repeat (first | refine blk_drewN ?_ _ | refine blk_drew ?_ | refine blk_alloc ?_ _)); exact BK210.out) k_ hk⟩))
                                      (case aO => exact (by (with_reducible repeat (first | apply Kd.N_alloc | apply Kd.N_drewN | apply Kd.N_drew)); exact HO256.out))
                                      (case aS => exact (below_size (by repeat (first | (with_reducible first | exact HB.out | apply below_alloc | apply pw_below_drewN | apply below_drew1 | refine below_set ?_ GE210.out) | exact HB.out))))
                                      (case aL => have := LMc59.out; omega)
                                      intro v263 w68 ho hb hg hat
                                      rw [← Ny262.out] at ho
                                      have n0_ := Aside0.mk (Kd.N_afterv (ok := (fun k_ => (w.heap.size ≤ k_) ∧ k_ ≠ gb210)) (by (with_reducible repeat (first | apply Kd.N_alloc | apply Kd.N_drewN | apply Kd.N_drew)); exact Kd.N_mono HO_4.out (fun _ hk => ⟨⟨hk.1.1, hk.1.2.2⟩, hk.2⟩)) hg hat)
                                      have n1_ := Aside0.mk (blk_grown (g := gb210) (o := .cells #[.int .i64 a0, .slice Ao26 y215.length co26] 28 (0, 0)) (by (with_reducible repeat (first | refine blk_drewN ?_ _ | refine blk_drew ?_ | refine blk_alloc ?_ _)); exact BK210.out) hg (Kd.N_away HO256.out (fun _ hk => hk.2)))
                                      have n2_ := Aside0.mk (Kd.V_afterv (ok := (fun k_ => (w.heap.size ≤ k_) ∧ k_ ≠ gb210)) (by (with_reducible repeat (first | apply Kd.V_alloc | apply Kd.V_drewN | apply Kd.V_drew)); exact Kd.V_mono HO250.out (fun _ hk => ⟨⟨hk.1.1, hk.1.2.2⟩, hk.2⟩)) hg hat)
                                      have n3_ := Aside0.mk (Kd.V_afterv (ok := (fun k_ => (w.heap.size ≤ k_) ∧ k_ ≠ gb210)) (by (with_reducible repeat (first | apply Kd.V_alloc | apply Kd.V_drewN | apply Kd.V_drew)); exact Kd.V_mono HO261.out (fun _ hk => ⟨⟨hk.1.1, hk.1.2.2⟩, hk.2⟩)) hg hat)
                                      have n4_ := Aside0.mk (hb)
                                      have n5_ := Aside0.mk (ho)
                                      clear HO_4
                                      clear BK210
                                      clear HO250
                                      clear HO261
                                      clear HB
                                      clear HO256
                                      have HO_4 := n0_
                                      have BK210 := n1_
                                      have HO250 := n2_
                                      have HO261 := n3_
                                      have HB := n4_
                                      have HO264 := n5_
                                      clear n0_ n1_ n2_ n3_ n4_ n5_
                                      clear ho hb hg hat
                                      refine hK.out _ _ ⟨(blk_cell BK210.out 0).trans rfl, (blk_cell BK210.out 1).trans rfl⟩ (fun hHeld => ?_)
                                      clear hK K
                                      refine norm_ (a' := ?_) ?_ ?_
                                      rotate_left
                                      · show Act.put _ (some 76) _ = _
                                        simp only [Act.put, List.setIfInBounds_toArray, List.set_cons_zero, List.set_cons_succ, i64_w, i32_w]
                                        rfl
                                      refine pure_ (i := 8) (N := some 4) (v := ?_) (a' := ?_) #[true, true, true, true, true, true, true, true, true] rfl rfl (any_of HT_.out (by kernel_rfl)) (fun _ _ _ h => h) (Or.inl ⟨by rfl, ?_⟩) ?_ ?_
                                      rotate_left
                                      · intro w'
                                        go_simp
                                        with_reducible rfl
                                      rotate_left
                                      · simp only [Act.put, List.setIfInBounds_toArray, List.set_cons_zero, List.set_cons_succ, i64_w, i32_w]
                                        rfl
                                      refine done_ (done_of HT_.out (by kernel_rfl)) ?_
                                      try go_wp2
                                      go_roundg k3
                                      case measure => have := HK1.out; have := HK2.out; have := HK3.out; omega
                                      case rel => exact ⟨(y262), (wrap64 (x5_1 + 1)), (by first | rfl | (simp; done) | (simp [*]; done)), H', ⟨by have := HK1.out; have := HK2.out; have := HK3.out; omega⟩, ⟨by (with_reducible repeat (first | apply Kd.N_alloc | apply Kd.N_drewN | apply Kd.N_drew)); exact Kd.N_mono HO264.out (fun _ hk => hk.1)⟩, ⟨by repeat (first | (with_reducible first | exact HB.out | apply below_alloc | apply pw_below_drewN | apply below_drew1 | refine below_set ?_ GE210.out) | exact HB.out)⟩⟩
                                    · rw [if_neg c59] at H
                                      exact absurd H (by simp)
                                  · rw [if_neg c56] at H
                                    exact absurd H (by simp)
                                · rw [if_neg c55] at H
                                  exact absurd H (by simp)
                              · rw [if_neg c54] at H
                                exact absurd H (by simp)
                            · rw [if_neg c53] at H
                              exact absurd H (by simp)
                    · replace c23 := Bool.eq_false_iff.mpr c23
                      subst c23
                      have H1 : (spec_alSpaces.l0 k2 a0 (wrap64 ((ji3) - 1)) x4_1 (wrap64 (x5_1 + 1))) = some r := by rw [if_neg (show ¬ (false = true) by decide)] at H; exact H
                      clear H
                      have H := H1
                      clear H1
                      have H' := Aside0.mk H
                      clear H
                      have hcz69_0 : wr.cell? ⟨gb210, 0, none⟩ = some (.int .i64 a0) := (blk_cell BK210.out 0).trans rfl
                      have hcz69_1 : wr.cell? ⟨gb210, 1, none⟩ = some (u211001) := (blk_cell BK210.out 1).trans rfl
                      have hfz69_0 := blk_frozen BK210.out 0
                      have hfz69_1 := blk_frozen BK210.out 1
                      go_wp2_with (first | ((with_reducible refine gate_builtin (b := .append) (xs := #[.tmp 39, .tmp 41]) rfl ?_); at_builtin; refine Kd.R_append (Kd.int .i64) (w0 := w) w.heap.size rfl (.tmp 39) (.tmp 41) 22 3 (.int .i64 0) 8 rfl Try.underlying22 info3 rfl (by decide) (by omega) u211001 x211001_2 (wrap64 ((ji3) - 1)) [.int .i64 (wrap64 ((ji3) - 1))] (fun k_ => (w.heap.size ≤ k_)) (fun _ => False) rfl rfl ?aP (fun _ hk => hk.elim) ?aF ?aO ?aB ?aS ?aL ?_; (case aP => exact rfl); (case aB => exact (by repeat (first | (with_reducible first | exact HB.out | apply below_alloc | apply pw_below_drewN | apply below_drew1 | refine below_set ?_ GE210.out) | exact HB.out))); (case aF => exact (fun k_ hk => (Nat.le_trans (below_size (by repeat (first | (with_reducible first | exact HB.out | apply below_alloc | apply pw_below_drewN | apply below_drew1 | refine below_set ?_ GE210.out) | exact HB.out))) hk))); (case aO => exact (by (with_reducible repeat (first | apply Kd.R_alloc | apply Kd.R_drewN | apply Kd.R_drew)); exact HO_211001.out)); (case aS => exact (below_size (by repeat (first | (with_reducible first | exact HB.out | apply below_alloc | apply pw_below_drewN | apply below_drew1 | refine below_set ?_ GE210.out) | exact HB.out)))); (case aL => have := LMc21.out; omega); intro v216 w70 ho hb hg hat; rw [← Ny215.out] at ho; have n0_ := Aside0.mk (Kd.N_afterv (ok := (fun k_ => (w.heap.size ≤ k_) ∧ k_ ≠ gb210)) (by (with_reducible repeat (first | apply Kd.N_alloc | apply Kd.N_drewN | apply Kd.N_drew)); exact Kd.N_mono HO_4.out (fun _ hk => ⟨⟨hk.1, hk.2.2⟩, hk.2.1⟩)) hg hat); have n1_ := Aside0.mk (blk_grown (g := gb210) (o := .cells #[.int .i64 a0, u211001] 28 (0, 0)) (by (with_reducible repeat (first | refine blk_drewN ?_ _ | refine blk_drew ?_ | refine blk_alloc ?_ _)); exact BK210.out) hg (Kd.R_ne HO_211001.out BK210.out (by decide))); have n2_ := Aside0.mk (hb); have n3_ := Aside0.mk (ho); clear HO_4; clear BK210; clear HB; clear HO_211001; have HO_4 := n0_; have BK210 := n1_; have HB := n2_; have HO217 := n3_; clear n0_ n1_ n2_ n3_; clear ho hb hg hat; obtain ⟨Ao71, co71, eo71⟩ := Kd.R_slice HO217.out; subst eo71; have hcz72_0 : w70.cell? ⟨gb210, 0, none⟩ = some (.int .i64 a0) := (blk_cell BK210.out 0).trans rfl; have hcz72_1 : w70.cell? ⟨gb210, 1, none⟩ = some (u211001) := (blk_cell BK210.out 1).trans rfl; have hfz72_0 := blk_frozen BK210.out 0; have hfz72_1 := blk_frozen BK210.out 1) | ((with_reducible refine gate_callee (f := 124) rfl ?_); refine goesL_ (some 45) rfl rfl Try.func124 (by kernel_rfl) rfl #[.agg #[.int .i64 a0, .slice Ao71 y215.length co71]] rfl (by (try simp only [List.map_toArray, List.map_cons, List.map_nil]); first | done | rfl | (simp only [List.length_drop, List.length_take]; rfl)) ?_; (with_reducible refine (spec_alGood.calls k2 a0 _ _ y215 false _ ?side1 ?side2 A22.out).mono ?_); (case side1 => refine (Kd.R_reads' (e := 3) (base := w.heap.size) (ok := fun k_ => (w.heap.size ≤ k_)) (n := y215.length) (c := co71) ?_).2.2; exact (by (with_reducible repeat (first | apply Kd.R_alloc | apply Kd.R_drewN | apply Kd.R_drew)); exact (Kd.R_mono (Kd.R_far (p := ⟨gb210, 1, none⟩) (Kd.R_types HO217.out BK210.out (by decide)) (fun _ hk => hk.2) (.slice Ao71 y215.length co71)) (fun _ h_ => h_.1)))); (case side2 => exact (Kd.R_reads' HO217.out).2.1); rintro e w73 ⟨rfl, hb⟩; refine ⟨_, rfl, ?_⟩; have n0_ := Aside0.mk (Kd.N_below (by (with_reducible repeat (first | apply Kd.N_alloc | apply Kd.N_drewN | apply Kd.N_drew)); exact (Kd.N_mono (Kd.N_far (p := ⟨gb210, 1, none⟩) (Kd.N_mono HO_4.out (fun k_ hk => (⟨hk, hk.1.2⟩ : _ ∧ k_ ≠ gb210))) (fun _ hk => hk.2) (.slice Ao71 y215.length co71)) (fun _ h_ => h_.1))) hb); have n1_ := Aside0.mk (Kd.R_below (by (with_reducible repeat (first | apply Kd.R_alloc | apply Kd.R_drewN | apply Kd.R_drew)); exact (Kd.R_mono (Kd.R_far (p := ⟨gb210, 1, none⟩) (Kd.R_types HO217.out BK210.out (by decide)) (fun _ hk => hk.2) (.slice Ao71 y215.length co71)) (fun _ h_ => h_.1))) hb); have n2_ := Aside0.mk (blk_below (g := gb210) (o := .cells #[.int .i64 a0, .slice Ao71 y215.length co71] 28 (0, 0)) (by (with_reducible repeat (first | refine blk_drewN ?_ _ | refine blk_drew ?_ | refine blk_alloc ?_ _)); refine blk_put (cs := #[.int .i64 a0, u211001]) ?_ 1 _ rfl; (with_reducible repeat (first | refine blk_drewN ?_ _ | refine blk_drew ?_ | refine blk_alloc ?_ _)); exact BK210.out) hb); have n3_ := Aside0.mk (below_step (by repeat (first | (with_reducible first | exact HB.out | apply below_alloc | apply pw_below_drewN | apply below_drew1 | refine below_set ?_ GE210.out) | exact HB.out)) hb); clear HO_4; clear HO217; clear BK210; clear HB; have HO_4 := n0_; have HO217 := n1_; have BK210 := n2_; have HB := n3_; clear n0_ n1_ n2_ n3_; (try clear hb); (try clear hb2); (try clear hk); (try clear hi)))
                      go_roundg k2
                      case measure => have := HK1.out; have := HK2.out; omega
                      case rel => exact ⟨(x4_1), (wrap64 (x5_1 + 1)), (by first | rfl | (simp; done) | (simp [*]; done)), H', ⟨by have := HK1.out; have := HK2.out; omega⟩, ⟨by (with_reducible repeat (first | apply Kd.N_alloc | apply Kd.N_drewN | apply Kd.N_drew)); exact Kd.N_mono HO_4.out (fun _ hk => hk.1.1)⟩, ⟨by repeat (first | (with_reducible first | exact HB.out | apply below_alloc | apply pw_below_drewN | apply below_drew1 | refine below_set ?_ GE210.out) | exact HB.out)⟩⟩
                  · rw [if_neg c21] at H
                    exact absurd H (by simp)
          · rw [if_neg c7] at H
            have c7b0 : decide (x5_1 < (ji6)) = false := decide_eq_false c7
            clear c7
            obtain rfl := Option.some.inj H
            go_wp2
            go_ret
            exact ⟨_, by first | rfl | (simp [errW_none, errW_some] <;> rfl) | (simp only [← hji3, ← hji4, ← hji6]; first | rfl | (simp [errW_none, errW_some] <;> rfl)) | (simp [*, errW_none, errW_some] <;> rfl), by (with_reducible repeat (first | apply Kd.N_alloc | apply Kd.N_drewN | apply Kd.N_drew)); exact HO_4.out, by repeat (first | (with_reducible first | exact HB.out | apply below_alloc | apply pw_below_drewN | apply below_drew1) | exact HB.out)⟩
        · rw [if_neg c5] at H
          exact absurd H (by simp)
  · rw [if_neg c2] at H
    exact absurd H (by simp)

end Go.Proofs.Ytjhjphgdjhahlaa.P
/- Plain facts about sets of at most seven items, told as numbers below 128, and families of them. No program. -/
-- plain
namespace Go.Proofs.Ytjhjphgdjhahlaa.P
open Go.RowKit Go.Proofs.YtjhjphgdjhahlaaW.PrintWords Go.Proofs.YtjhjphgdjhahlaaW.PrintLast Go.Proofs.YtjhjphgdjhahlaaW.PrintMore

def upd (F : Nat → Bool) (i : Nat) (b : Bool) : Nat → Bool := fun j => if j = i then b else F j
/-- the family of a list of sets -/
def famOf (l : List Int) : Nat → Bool := fun x => decide ((x : Int) ∈ l)

theorem famOf_snoc (l : List Int) (i : Nat) (h : i < l.length) (h0 : 0 ≤ l[i]) : ∀ j, upd (famOf (l.take i)) (l[i]).toNat true j = famOf (l.take (i+1)) j := by
  intro j
  rw [List.take_succ_eq_append_getElem h]
  simp only [upd, famOf, List.mem_append, List.mem_singleton]
  by_cases e : j = (l[i]).toNat
  · subst e; simp [Int.toNat_of_nonneg h0]
  · have : ¬ (j : Int) = l[i] := by omega
    simp [e, this]

/-- the items of a set, increasing -/
def itemsOf (x : Nat) : List Nat := (List.range 7).filter fun i => x.testBit i
def ints (l : List Nat) : List Int := l.map fun (i : Nat) => (i : Int)
/-- a set without an item; with an item -/
def wout (x i : Nat) : Nat := x &&& (127 - 2 ^ i)
def wth (x i : Nat) : Nat := x ||| 2 ^ i
def innerF (F : Nat → Bool) (x : Nat) (l : List Nat) : Nat := l.foldl (fun o i => if F (wout x i) then wth o i else o) 0
def inner (F : Nat → Bool) (x : Nat) : Nat := innerF F x (itemsOf x)
def outerF (F : Nat → Bool) (x : Nat) (l : List Nat) : Nat := l.foldl (fun o i => if x.testBit i then o else if F (wth x i) then wth o i else o) 0
def outer (F : Nat → Bool) (x : Nat) : Nat := outerF F x (List.range 7)
theorem innerF_snoc (F : Nat → Bool) (x : Nat) (l : List Nat) (i : Nat) : innerF F x (l ++ [i]) = if F (wout x i) then wth (innerF F x l) i else innerF F x l := by
  simp [innerF]
theorem outerF_succ (F : Nat → Bool) (x : Nat) (k : Nat) : outerF F x (List.range (k + 1)) = if x.testBit k then outerF F x (List.range k) else if F (wth x k) then wth (outerF F x (List.range k)) k else outerF F x (List.range k) := by
  simp [outerF, List.range_succ]
theorem wth_lt (x i : Nat) (hx : x < 128) (hi : i < 7) : wth x i < 128 := by
  unfold wth; exact Nat.or_lt_two_pow (n := 7) hx (Nat.pow_lt_pow_right (by omega) hi)
theorem wout_lt (x i : Nat) (hx : x < 128) : wout x i < 128 := by
  unfold wout; exact Nat.lt_of_le_of_lt Nat.and_le_left hx
theorem innerF_lt (F : Nat → Bool) (x : Nat) (l : List Nat) (hl : ∀ i ∈ l, i < 7) : innerF F x l < 128 := by
  unfold innerF
  have : ∀ (l : List Nat) (o : Nat), (∀ i ∈ l, i < 7) → o < 128 → l.foldl (fun o i => if F (wout x i) then wth o i else o) o < 128 := by
    intro l
    induction l with
    | nil => intro o _ h; exact h
    | cons a l ih =>
      intro o hl ho
      simp only [List.foldl_cons]
      apply ih _ (fun i hi => hl i (by simp [hi]))
      split
      · exact wth_lt _ _ ho (hl a (by simp))
      · exact ho
  exact this l 0 hl (by omega)
theorem outerF_lt (F : Nat → Bool) (x : Nat) (k : Nat) (hk : k ≤ 7) : outerF F x (List.range k) < 128 := by
  induction k with
  | zero => simp [outerF]
  | succ k ih =>
    rw [outerF_succ]
    have := ih (by omega)
    split
    · exact this
    · split
      · exact wth_lt _ _ this (by omega)
      · exact this
theorem inner_lt (F : Nat → Bool) (x : Nat) : inner F x < 128 := innerF_lt F x _ (by intro i hi; simp [itemsOf] at hi; exact hi.1)
theorem outer_lt (F : Nat → Bool) (x : Nat) : outer F x < 128 := outerF_lt F x 7 (by omega)

/-! How Go's operations tell these. -/
theorem shl_one (i : Nat) (hi : i < 8) : shl .i64 1 (i : Int) = ((2 ^ i : Nat) : Int) := by
  revert i; decide +kernel
theorem go_shr (x i : Nat) (hx : x < 128) (hi : i < 8) : shr .i64 (x : Int) (i : Int) = ((x >>> i : Nat) : Int) := by
  have : ∀ x, x < 128 → ∀ i, i < 8 → shr .i64 ((x : Nat) : Int) ((i : Nat) : Int) = ((x >>> i : Nat) : Int) := by decide +kernel
  exact this x hx i hi
theorem go_bit (x i : Nat) (hx : x < 128) (hi : i < 8) : (Go.bits .and .i64 (shr .i64 (x : Int) (i : Int)) 1) = if x.testBit i then 1 else 0 := by
  have : ∀ x, x < 128 → ∀ i, i < 8 → (Go.bits .and .i64 (shr .i64 ((x : Nat) : Int) ((i : Nat) : Int)) 1) = if x.testBit i then 1 else 0 := by decide +kernel
  exact this x hx i hi
theorem go_wth (x i : Nat) (hx : x < 128) (hi : i < 7) : Go.bits .or .i64 (x : Int) ((2 ^ i : Nat) : Int) = ((wth x i : Nat) : Int) := by
  have : ∀ x, x < 128 → ∀ i, i < 7 → Go.bits .or .i64 ((x : Nat) : Int) ((2 ^ i : Nat) : Int) = ((wth x i : Nat) : Int) := by decide +kernel
  exact this x hx i hi
theorem go_wout (x i : Nat) (hx : x < 128) (hi : i < 7) : Go.bits .andNot .i64 (x : Int) ((2 ^ i : Nat) : Int) = ((wout x i : Nat) : Int) := by
  have : ∀ x, x < 128 → ∀ i, i < 7 → Go.bits .andNot .i64 ((x : Nat) : Int) ((2 ^ i : Nat) : Int) = ((wout x i : Nat) : Int) := by decide +kernel
  exact this x hx i hi
set_option maxRecDepth 100000 in
theorem go_or (x y : Nat) (hx : x < 128) (hy : y < 128) : Go.bits .or .i64 (x : Int) (y : Int) = ((x ||| y : Nat) : Int) := by
  have : ∀ x, x < 128 → ∀ y, y < 128 → Go.bits .or .i64 ((x : Nat) : Int) ((y : Nat) : Int) = ((x ||| y : Nat) : Int) := by decide +kernel
  exact this x hx y hy
/-- '1 << a' by a letter. -/
theorem bit_letter (a : Nat) (ha : a < 8) : ∃ p : Int, IntKind.i64.wrap (2 ^ a) = p ∧ wrap64 (2 ^ a) = p ∧ p = ((2 ^ a : Nat) : Int) := by
  have h : ∀ a, a < 8 → IntKind.i64.wrap (2 ^ (a : Nat)) = ((2 ^ a : Nat) : Int) ∧ wrap64 (2 ^ a) = ((2 ^ a : Nat) : Int) := by decide +kernel
  exact ⟨_, (h a ha).1, (h a ha).2, rfl⟩
/-- 'x >> i & 1' by a letter. -/
theorem shr_letter (x i : Nat) (hx : x < 128) (hi : i < 8) : ∃ s : Int, (x : Int) / 2 ^ i = s ∧ Go.bits .and .i64 s 1 = if x.testBit i then 1 else 0 := by
  refine ⟨_, rfl, ?_⟩
  have := go_bit x i hx hi
  have e : shr .i64 (x : Int) (i : Int) = (x : Int) / 2 ^ i := by
    unfold shr; rw [Nat.min_eq_left (by simp [IntKind.bits]; omega)]; simp
  rw [e] at this; exact this
/-- the sets of a family, increasing -/
def setsUpto (F : Nat → Bool) (k : Nat) : List Nat := (List.range k).filter F
def setsOf (F : Nat → Bool) : List Nat := setsUpto F 128
theorem setsUpto_succ (F : Nat → Bool) (k : Nat) : setsUpto F (k + 1) = if F k then setsUpto F k ++ [k] else setsUpto F k := by
  unfold setsUpto; rw [List.range_succ, List.filter_append]; cases h : F k <;> simp [h]
theorem setsUpto_len (F : Nat → Bool) (k : Nat) : (setsUpto F k).length ≤ k := by
  have := List.length_filter_le F (List.range k); simpa [setsUpto] using this
/-- a set with other names -/
def renL (names : List Nat) (l : List Nat) (o : Nat) : Nat := l.foldl (fun o i => wth o (names[i]?.getD 0)) o
def renN (names : List Nat) (x : Nat) : Nat := renL names (itemsOf x) 0
theorem ints_len (l : List Nat) : (ints l).length = l.length := by simp [ints]
theorem rd_ints (l : List Nat) (i : Nat) : rd (ints l) (i : Int) = ((l[i]?.getD 0 : Nat) : Int) := by
  unfold rd ints
  rw [Int.toNat_natCast, List.getD_eq_getElem?_getD, List.getElem?_map]
  cases h : l[i]? <;> simp
theorem wrap_small {i : Int} (h0 : 0 ≤ i) (h : i < 9223372036854775807) : wrap64 (i + 1) = i + 1 := by unfold wrap64; omega
theorem itemsOf_mem {x i : Nat} (h : i ∈ itemsOf x) : i < 7 ∧ x.testBit i = true := by simpa [itemsOf] using h
theorem itemsOf_len (x : Nat) : (itemsOf x).length ≤ 7 := by
  have := List.length_filter_le (fun i => x.testBit i) (List.range 7); simpa [itemsOf] using this
theorem lt_of_testBit {x i n : Nat} (hx : x < 2 ^ n) (h : x.testBit i = true) : i < n := by
  apply Classical.byContradiction; intro hn
  have : x.testBit i = false := Nat.testBit_lt_two_pow (Nat.lt_of_lt_of_le hx (Nat.pow_le_pow_right (by omega) (by omega)))
  rw [this] at h; cases h
theorem renL_lt (names : List Nat) (hn : ∀ y ∈ names, y < 7) (l : List Nat) : ∀ o, o < 128 → renL names l o < 128 := by
  induction l with
  | nil => intro o h; exact h
  | cons a l ih =>
    intro o ho
    simp only [renL, List.foldl_cons]
    apply ih
    apply wth_lt _ _ ho
    cases h : names[a]? with
    | none => simp
    | some y => simpa using hn y (List.mem_of_getElem? h)
theorem renN_lt (names : List Nat) (hn : ∀ y ∈ names, y < 7) (x : Nat) : renN names x < 128 := renL_lt names hn _ 0 (by omega)
/-- what is renamed, of a list of sets -/
def renI (names : List Nat) (l : List Int) : List Int := l.map fun x => ((renN names x.toNat : Nat) : Int)
/-! Is a list of sets a space? As impl asks it. -/
def incOk (n : Nat) (l : List Int) (j : Nat) : Bool := decide (0 ≤ l[j]?.getD 0 ∧ l[j]?.getD 0 < 2 ^ n) && (decide (j = 0) || decide (l[j - 1]?.getD 0 < l[j]?.getD 0))
def orOk (F : Nat → Bool) (l : List Int) (x : Nat) : Bool := l.all fun y => F (x ||| y.toNat)
def rowOk (F : Nat → Bool) (l : List Int) (x : Int) : Bool := (decide (x = 0) || decide (inner F x.toNat ≠ 0)) && orOk F l x.toNat
def isSpN (n : Nat) (l : List Int) : Bool := decide (l.length ≤ 2 ^ n) && ((List.range l.length).all (incOk n l) && (famOf l 0 && (famOf l (2 ^ n - 1) && l.all (rowOk (famOf l) l))))
def isSpB (n : Int) (l : List Int) : Bool := if 1 ≤ n ∧ n ≤ 7 then isSpN n.toNat l else false
theorem all_range_false {p : Nat → Bool} {k i : Nat} (hi : i < k) (h : p i = false) : (List.range k).all p = false := by
  rw [List.all_eq_false]; exact ⟨i, by simpa using hi, by simp [h]⟩
theorem all_range_true {p : Nat → Bool} {k : Nat} (h : ∀ i, i < k → p i = true) : (List.range k).all p = true := by
  rw [List.all_eq_true]; intro i hi; exact h i (by simpa using hi)
theorem all_at_false {α : Type} {p : α → Bool} {l : List α} {i : Nat} (hi : i < l.length) (h : p l[i] = false) : l.all p = false := by
  rw [List.all_eq_false]; exact ⟨l[i], List.getElem_mem hi, by simp [h]⟩
theorem all_at_true {α : Type} {p : α → Bool} {l : List α} (h : ∀ i (hi : i < l.length), p l[i] = true) : l.all p = true := by
  rw [List.all_eq_true]; intro x hx
  obtain ⟨i, hi, rfl⟩ := List.getElem_of_mem hx
  exact h i hi
end Go.Proofs.Ytjhjphgdjhahlaa.P
/- slices.Compare and impl's 'compare': lists of integers, the first one that differs counts. -/
namespace Go.Proofs.Ytjhjphgdjhahlaa.P
open Go.RowKit Go.Proofs.YtjhjphgdjhahlaaW.PrintWords Go.Proofs.YtjhjphgdjhahlaaW.PrintLast Go.Proofs.YtjhjphgdjhahlaaW.PrintMore
set_option linter.unusedVariables false

def cmpL : List Int → List Int → Int
  | [], [] => 0
  | [], _ :: _ => -1
  | _ :: _, [] => 1
  | a :: xs, b :: ys => if a < b then -1 else if b < a then 1 else cmpL xs ys
theorem cmpL_self (l : List Int) : cmpL l l = 0 := by
  induction l with
  | nil => rfl
  | cons a l ih => simp [cmpL, ih]
theorem cmpL_eq : ∀ {l m : List Int}, cmpL l m = 0 → l = m
  | [], [], _ => rfl
  | [], _ :: _, h => by simp [cmpL] at h
  | _ :: _, [], h => by simp [cmpL] at h
  | a :: xs, b :: ys, h => by
    simp only [cmpL] at h
    split at h
    · omega
    · split at h
      · omega
      · rw [cmpL_eq h, show a = b by omega]
theorem cmpL_zero {l m : List Int} : cmpL l m = 0 ↔ l = m := ⟨cmpL_eq, fun h => by rw [h, cmpL_self]⟩
theorem cmpL_neg : ∀ (l m : List Int), cmpL m l = - cmpL l m
  | [], [] => rfl
  | [], _ :: _ => rfl
  | _ :: _, [] => rfl
  | a :: xs, b :: ys => by
    simp only [cmpL]
    rcases Int.lt_trichotomy a b with h | h | h
    · rw [if_pos h, if_neg (by omega), if_pos h]; rfl
    · subst h; simp [cmpL_neg xs ys]
    · rw [if_pos h, if_neg (by omega), if_pos h]
theorem cmpL_trans : ∀ (l m n : List Int), cmpL l m ≤ 0 → cmpL m n ≤ 0 → cmpL l n ≤ 0 ∧ (cmpL l n = 0 → cmpL l m = 0 ∧ cmpL m n = 0)
  | [], [], n, h, h' => ⟨h', fun e => ⟨rfl, e⟩⟩
  | [], _ :: _, [], _, h' => by simp [cmpL] at h'
  | [], _ :: _, _ :: _, _, _ => by simp [cmpL]
  | _ :: _, [], _, h, _ => by simp [cmpL] at h
  | _ :: _, _ :: _, [], _, h' => by simp [cmpL] at h'
  | a :: xs, b :: ys, c :: zs, h, h' => by
    have ih := cmpL_trans xs ys zs
    simp only [cmpL] at *
    split at h <;> split at h' <;> (try split at h) <;> (try split at h') <;> (try omega)
    all_goals
      by_cases hac : a < c
      · simp [hac]; try omega
      · first | (exfalso; omega) | (rw [if_neg hac, if_neg (by omega)]; simp_all)
theorem cmpL_bounds : ∀ (l m : List Int), -1 ≤ cmpL l m ∧ cmpL l m ≤ 1
  | [], [] => by simp [cmpL]
  | [], _ :: _ => by simp [cmpL]
  | _ :: _, [] => by simp [cmpL]
  | a :: xs, b :: ys => by
    simp only [cmpL]
    split
    · omega
    · split
      · omega
      · exact cmpL_bounds xs ys

theorem Compare_from (l0 l1 : List Int) (h0 : l0.length < 4611686018427387904) : ∀ (m i k : Nat), i + m = l0.length → i ≤ l1.length → m < k →
    slices_Compare_int_int.l0 k l0 l1 l0 (l0.length : Int) (i : Int) = some (cmpL (l0.drop i) (l1.drop i)) := by
  intro m
  induction m with
  | zero =>
    intro i k hi hi1 hk
    obtain ⟨k, rfl⟩ : ∃ j, k = j + 1 := ⟨k - 1, by omega⟩
    simp only [slices_Compare_int_int.l0]
    rw [if_neg (by omega), List.drop_eq_nil_of_le (by omega)]
    by_cases h : i < l1.length
    · rw [if_pos (by omega), List.drop_eq_getElem_cons h]; rfl
    · rw [if_neg (by omega), List.drop_eq_nil_of_le (by omega)]; rfl
  | succ m ih =>
    intro i k hi hi1 hk
    obtain ⟨k, rfl⟩ : ∃ j, k = j + 1 := ⟨k - 1, by omega⟩
    simp only [slices_Compare_int_int.l0]
    rw [if_pos (by omega), if_pos (by omega), if_pos (by omega)]
    rw [List.drop_eq_getElem_cons (show i < l0.length by omega)]
    by_cases h : i < l1.length
    · rw [if_neg (by omega), if_pos (by omega), List.drop_eq_getElem_cons h]
      have e0 : rd l0 (i : Int) = l0[i] := by unfold rd; simp [show i < l0.length by omega]
      have e1 : rd l1 (i : Int) = l1[i] := by unfold rd; simp [h]
      have ew : wrap64 ((i : Int) + 1) = ((i + 1 : Nat) : Int) := by rw [wrap_small (by omega) (by omega)]; omega
      rw [e0, e1]
      simp only [cmp_Compare_int.f, cmp_isNaN_int.f, Option.bind_some, bne_self_eq_false, Bool.false_eq_true, if_false, cmpL]
      by_cases ha : l0[i] < l1[i]
      · simp [ha]
      · by_cases hb : l1[i] < l0[i]
        · simp [ha, hb]
        · have hi' := ih (i + 1) k (by omega) (by omega) (by omega)
          simp only [ha, if_false, gt_iff_lt, hb, Option.bind_some, if_true, ew]
          exact hi'
    · rw [if_pos (by omega), List.drop_eq_nil_of_le (show l1.length ≤ i by omega)]; rfl
theorem Compare_pure (l0 l1 : List Int) (h0 : l0.length < 4611686018427387904) (k : Nat) (hk : l0.length < k) : slices_Compare_int_int.f k l0 l1 = some (cmpL l0 l1) := by
  have := Compare_from l0 l1 h0 l0.length 0 k (by omega) (by omega) hk
  simpa [slices_Compare_int_int.f] using this

set_option maxHeartbeats 800000 in
theorem compare_calls (n0 n1 : Int) (A0 : Option Addr) (c0 : Nat) (l0 : List Int) (A1 : Option Addr) (c1 : Nat) (l1 : List Int) (w : World) (hr0 : Kd.C (Kd.int .i64) w A0 l0.length l0) (hc0 : l0.length ≤ c0) (hr1 : Kd.C (Kd.int .i64) w A1 l1.length l1) (hc1 : l1.length ≤ c1) (h0 : l0.length < 4611686018427387904) :
    Calls Try.prog 52 #[.agg #[.int .i64 n0, .slice A0 l0.length c0], .agg #[.int .i64 n1, .slice A1 l1.length c1]] w fun e w' => e = .returned (.int .i64 (cmpL l0 l1)) ∧ ∃ q os', w' = Go.Sort.grow (w.drewN q) os' := by
  have hu := Try.underlying28
  have hp := Compare_pure l0 l1 h0 (l0.length + 1) (by omega)
  have HP := Aside0.mk hp
  have HR0 := Aside0.mk hr0
  have HR1 := Aside0.mk hr1
  have HC0 := Aside0.mk hc0
  have HC1 := Aside0.mk hc1
  clear hp hr0 hr1 hc0 hc1
  go_enter Try.func52, Try.ntmps52
  go_wp2_with (go_at_call 96; (with_reducible refine (slices_Compare_int_int.calls (l0.length + 1) A0 c0 l0 A1 c1 l1 (cmpL l0 l1) _ ?h0 HC0.out ?h1 HC1.out HP.out).mono ?_); (case h0 => exact Kd.C_below HR0.out (below_alloc (below_alloc (Below.refl _ _) _) _)); (case h1 => exact Kd.C_below HR1.out (below_alloc (below_alloc (Below.refl _ _) _) _)); rintro e w' ⟨rfl, nd, rfl⟩)
  go_ret
  exact ⟨rfl, nd, _, by rw [Go.Sort.alloc_eq_grow, Go.Sort.alloc_eq_grow, Go.Sort.grow_grow]; rfl⟩
end Go.Proofs.Ytjhjphgdjhahlaa.P
/- spec's 'spGood' says of a list of sets what impl's IsSpace says: no program's walk, the printed functions alone. -/
namespace Go.Proofs.Ytjhjphgdjhahlaa.P
open Go.RowKit Go.Proofs.YtjhjphgdjhahlaaW.PrintWords Go.Proofs.YtjhjphgdjhahlaaW.PrintLast Go.Proofs.YtjhjphgdjhahlaaW.PrintMore
set_option linter.unusedVariables false

section
variable {α : Type} {c : Prop} [Decidable c] {A B : Nat → Option α} {r : α}
theorem Ev.pos (hc : c) (h : Ev A r) : Ev (fun k => if c then A k else B k) r := Ev.congr (fun _ => if_pos hc) h
theorem Ev.neg (hc : ¬ c) (h : Ev B r) : Ev (fun k => if c then A k else B k) r := Ev.congr (fun _ => if_neg hc) h
theorem Ev.one {r' : α} (h : r' = r) : Ev (fun _ => some r') r := by subst h; exact Ev.now _
end

theorem famOf_nat (l : List Int) (x : Nat) : famOf l x = decide ((x : Int) ∈ l) := rfl
theorem spIn_nat (x i : Nat) (hi : i < 64) : spec_spIn.f (x : Int) (i : Int) = some (x.testBit i) := by
  unfold spec_spIn.f
  rw [if_pos (by omega)]
  have e : shr .i64 (x : Int) (i : Int) = ((x / 2 ^ i : Nat) : Int) := by
    unfold shr; rw [Nat.min_eq_left (by simp [IntKind.bits]; omega)]; simp
  rw [e, Int.tmod_eq_emod_of_nonneg (Int.natCast_nonneg _), Nat.testBit_eq_decide_div_mod_eq]
  congr 1
  rw [Bool.eq_iff_iff]
  simp only [beq_iff_eq, decide_eq_true_eq]
  omega
theorem rd_at (l : List Int) (i : Nat) (h : i < l.length) : rd l (i : Int) = l[i] := by unfold rd; simp [h]

theorem spHas_from (l : List Int) (x : Int) (hs : l.Pairwise (· < ·)) (hl : l.length < 1152921504606846976) : ∀ (m lo hi : Nat), hi - lo ≤ m → lo ≤ hi → hi ≤ l.length → (∀ j (h : j < l.length), j < lo → l[j] < x) → (∀ j (h : j < l.length), hi ≤ j → x ≤ l[j]) →
    Ev (fun k => spec_spHas.l0 k l x (lo : Int) (hi : Int)) (decide (x ∈ l)) := by
  have lt : ∀ i j (hi : i < l.length) (hj : j < l.length), i < j → l[i] < l[j] := fun i j hi hj h => List.pairwise_iff_getElem.1 hs i j hi hj h
  intro m
  induction m with
  | zero =>
    intro lo hi hm hle hhl h1 h2
    obtain rfl : lo = hi := by omega
    refine Ev.step (fun k => spec_spHas.l0.eq_2 _ _ _ _ k) ?_
    refine Ev.neg (by omega) ?_
    by_cases hlo : lo < l.length
    · refine Ev.pos (by omega) (Ev.pos (by omega) (Ev.one ?_))
      rw [rd_at l lo hlo, Bool.eq_iff_iff]
      simp only [beq_iff_eq, decide_eq_true_eq]
      constructor
      · rintro rfl; exact List.getElem_mem _
      · intro hm
        obtain ⟨j, hj, rfl⟩ := List.getElem_of_mem hm
        rcases Nat.lt_trichotomy j lo with h | h | h
        · have := h1 j hj h; omega
        · subst h; rfl
        · have := h2 lo hlo (Nat.le_refl _); have := lt lo j hlo hj h; omega
    · refine Ev.neg (by omega) (Ev.one ?_)
      rw [eq_comm, decide_eq_false_iff_not]
      intro hm
      obtain ⟨j, hj, rfl⟩ := List.getElem_of_mem hm
      have := h1 j hj (by omega); omega
  | succ m ih =>
    intro lo hi hm hle hhl h1 h2
    by_cases hlt : lo < hi
    · refine Ev.step (fun k => spec_spHas.l0.eq_2 _ _ _ _ k) ?_
      have em : wrap64 (Int.tdiv (wrap64 ((lo : Int) + (hi : Int))) 2) = (((lo + hi) / 2 : Nat) : Int) := by
        have : wrap64 ((lo : Int) + (hi : Int)) = ((lo + hi : Nat) : Int) := by unfold wrap64; omega
        rw [this, Int.tdiv_eq_ediv_of_nonneg (by omega)]; unfold wrap64; omega
      have hmid : (lo + hi) / 2 < l.length := by omega
      simp only [em]
      refine Ev.pos (by omega) (Ev.pos (by omega) (Ev.pos (by omega) ?_))
      rw [rd_at l _ hmid]
      by_cases hc : l[(lo + hi) / 2] < x
      · refine Ev.pos hc ?_
        rw [wrap_small (by omega) (by omega)]
        have := ih ((lo + hi) / 2 + 1) hi (by omega) (by omega) hhl (fun j hj hjl => by
          rcases Nat.lt_or_ge j ((lo + hi) / 2) with h | h
          · have := lt j _ hj hmid h; omega
          · obtain rfl : j = (lo + hi) / 2 := by omega
            exact hc) h2
        simpa using this
      · refine Ev.neg hc ?_
        exact ih lo ((lo + hi) / 2) (by omega) (by omega) (by omega) h1 (fun j hj hjl => by
          rcases Nat.lt_or_ge ((lo + hi) / 2) j with h | h
          · have := lt _ j hmid hj h; omega
          · obtain rfl : j = (lo + hi) / 2 := by omega
            omega)
    · exact ih lo hi (by omega) hle hhl h1 h2
theorem spHas_pure (l : List Int) (x : Int) (hs : l.Pairwise (· < ·)) (hl : l.length < 1152921504606846976) : Ev (fun k => spec_spHas.f k l x) (decide (x ∈ l)) :=
  spHas_from l x hs hl l.length 0 l.length (by omega) (by omega) (by omega) (fun _ _ h => by omega) (fun _ _ h => by omega)

theorem go_xout (x i : Nat) (hx : x < 128) (hi : i < 7) (hb : x.testBit i = true) : Go.bits .xor .i64 (x : Int) (shl .i64 1 (i : Int)) = ((wout x i : Nat) : Int) := by
  have : ∀ x, x < 128 → ∀ i, i < 7 → x.testBit i = true → Go.bits .xor .i64 ((x : Nat) : Int) (shl .i64 1 ((i : Nat) : Int)) = ((wout x i : Nat) : Int) := by decide +kernel
  exact this x hx i hi hb
def innerR (F : Nat → Bool) (x i : Nat) : Nat := (List.range i).foldl (fun o j => if x.testBit j then (if F (wout x j) then wth o j else o) else o) 0
theorem innerR_all (F : Nat → Bool) (x : Nat) : innerR F x 7 = inner F x := by
  unfold innerR inner innerF itemsOf
  rw [List.foldl_filter]
theorem innerR_succ (F : Nat → Bool) (x i : Nat) : innerR F x (i + 1) = if x.testBit i then (if F (wout x i) then wth (innerR F x i) i else innerR F x i) else innerR F x i := by
  simp [innerR, List.range_succ]
theorem innerR_lt (F : Nat → Bool) (x i : Nat) (hi : i ≤ 7) : innerR F x i < 128 := by
  induction i with
  | zero => simp [innerR]
  | succ i ih =>
    rw [innerR_succ]
    have := ih (by omega)
    split
    · split
      · exact wth_lt _ _ this (by omega)
      · exact this
    · exact this
theorem spInner_from (l : List Int) (x : Nat) (hx : x < 128) (hs : l.Pairwise (· < ·)) (hl : l.length < 1152921504606846976) : ∀ (m i : Nat), i + m = 7 →
    Ev (fun k => spec_spInner.l0 k l (x : Int) ((innerR (famOf l) x i : Nat) : Int) (i : Int)) ((inner (famOf l) x : Nat) : Int) := by
  intro m
  induction m with
  | zero =>
    intro i hi
    obtain rfl : i = 7 := by omega
    refine Ev.step (fun k => spec_spInner.l0.eq_2 _ _ _ _ k) ?_
    refine Ev.neg (by omega) (Ev.one (by rw [innerR_all]))
  | succ m ih =>
    intro i hi
    refine Ev.step (fun k => spec_spInner.l0.eq_2 _ _ _ _ k) ?_
    refine Ev.pos (by omega) (Ev.bind (by rw [spIn_nat x i (by omega)]; exact Ev.now _) ?_)
    have h2 := ih (i + 1) (by omega)
    have ew : wrap64 ((i : Int) + 1) = ((i + 1 : Nat) : Int) := by rw [wrap_small (by omega) (by omega)]; omega
    simp only [ew]
    rw [innerR_succ] at h2
    cases hb : x.testBit i with
    | true =>
      rw [hb] at h2
      simp only [if_true] at h2 ⊢
      refine Ev.pos (by omega) (Ev.bind (by rw [go_xout x i hx (by omega) hb]; exact spHas_pure l _ hs hl) ?_)
      rw [famOf_nat] at h2
      cases hf : decide (((wout x i : Nat) : Int) ∈ l) with
      | true =>
        rw [hf] at h2
        simp only [if_true] at h2 ⊢
        rw [shl_one i (by omega), go_wth _ i (innerR_lt _ _ _ (by omega)) (by omega)]
        exact h2
      | false =>
        rw [hf] at h2
        simp only [Bool.false_eq_true, if_false] at h2 ⊢
        exact h2
    | false =>
      rw [hb] at h2
      simp only [Bool.false_eq_true, if_false] at h2 ⊢
      exact h2
theorem spInner_pure (l : List Int) (x : Nat) (hx : x < 128) (hs : l.Pairwise (· < ·)) (hl : l.length < 1152921504606846976) : Ev (fun k => spec_spInner.f k l (x : Int)) ((inner (famOf l) x : Nat) : Int) := by
  have := spInner_from l x hx hs hl 7 0 (by omega)
  exact this

theorem l1Rising_from (l : List Int) (n : Nat) (hn : n < 8) (hl : l.length < 1152921504606846976) : ∀ (m i : Nat), i + m = l.length →
    Ev (fun k => spec_l1Rising.l0 k l 0 (2 ^ n - 1) l (l.length : Int) (i : Int)) ((List.range' i m).all (incOk n l)) := by
  intro m
  induction m with
  | zero =>
    intro i hi
    refine Ev.step (fun k => spec_l1Rising.l0.eq_2 _ _ _ _ _ _ k) ?_
    exact Ev.neg (by omega) (Ev.now _)
  | succ m ih =>
    intro i hi
    have hil : i < l.length := by omega
    refine Ev.step (fun k => spec_l1Rising.l0.eq_2 _ _ _ _ _ _ k) ?_
    have ei : spec_l1In.f (rd l (i : Int)) 0 (2 ^ n - 1) = some (decide (0 ≤ l[i] ∧ l[i] < 2 ^ n)) := by
      rw [rd_at l i hil]
      unfold spec_l1In.f
      by_cases h : l[i] ≥ 0
      · rw [if_pos h]; congr 1; rw [decide_eq_decide]; omega
      · rw [if_neg h]; congr 1; rw [eq_comm, decide_eq_false_iff_not]; omega
    refine Ev.pos (by omega) (Ev.pos (by omega) (Ev.pos (by omega) (Ev.bind (by rw [ei]; exact Ev.now _) ?_)))
    have ew : wrap64 ((i : Int) + 1) = ((i + 1 : Nat) : Int) := by rw [wrap_small (by omega) (by omega)]; omega
    have h2 := ih (i + 1) (by omega)
    have er : (List.range' i (m + 1)).all (incOk n l) = (incOk n l i && (List.range' (i + 1) m).all (incOk n l)) := by rw [List.range'_succ]; rfl
    have ec : incOk n l i = (decide (0 ≤ l[i] ∧ l[i] < 2 ^ n) && (decide (i = 0) || decide (l[i - 1]?.getD 0 < l[i]))) := by unfold incOk; simp [hil]
    rw [er, ec]
    simp only [ew]
    cases hd : decide (0 ≤ l[i] ∧ l[i] < 2 ^ n) with
    | false => simp only [Bool.false_eq_true, if_false, Bool.false_and]; exact Ev.now _
    | true =>
      simp only [if_true, Bool.true_and]
      by_cases h0 : i = 0
      · subst h0
        refine Ev.neg (by omega) ?_
        simpa using h2
      · have e1 : wrap64 ((i : Int) - 1) = ((i - 1 : Nat) : Int) := by unfold wrap64; omega
        simp only [e1]
        refine Ev.pos (by omega) (Ev.pos (by omega) (Ev.pos (by omega) ?_))
        rw [rd_at l i hil, rd_at l (i - 1) (by omega)]
        have e2 : l[i - 1]?.getD 0 = l[i - 1] := by simp [show i - 1 < l.length by omega]
        rw [e2]
        by_cases h : l[i - 1] ≥ l[i]
        · refine Ev.pos h (Ev.one ?_)
          rw [show decide (i = 0) = false by simpa using h0, show decide (l[i - 1] < l[i]) = false by rw [decide_eq_false_iff_not]; omega]; rfl
        · refine Ev.neg h ?_
          rw [show decide (l[i - 1] < l[i]) = true by rw [decide_eq_true_eq]; omega]
          simpa using h2
theorem l1Rising_pure (l : List Int) (n : Nat) (hn : n < 8) (hl : l.length < 1152921504606846976) : Ev (fun k => spec_l1Rising.f k l 0 (2 ^ n - 1)) ((List.range l.length).all (incOk n l)) := by
  have := l1Rising_from l n hn hl l.length 0 (by omega)
  rw [← List.range_eq_range'] at this
  exact this
/-- What rising says. -/
theorem rising_of {l : List Int} {n : Nat} (h : (List.range l.length).all (incOk n l) = true) : l.Pairwise (· < ·) ∧ ∀ x ∈ l, 0 ≤ x ∧ x < 2 ^ n := by
  rw [List.all_eq_true] at h
  have h' : ∀ i (hi : i < l.length), (0 ≤ l[i] ∧ l[i] < 2 ^ n) ∧ (i = 0 ∨ l[i - 1]?.getD 0 < l[i]) := fun i hi => by
    have := h i (by simpa using hi)
    simpa [incOk, hi] using this
  constructor
  · rw [List.pairwise_iff_getElem]
    intro i j hi hj hij
    obtain ⟨m, rfl⟩ : ∃ m, j = i + 1 + m := ⟨j - i - 1, by omega⟩
    induction m with
    | zero =>
      have := (h' (i + 1) hj).2
      simp [hi] at this
      exact this
    | succ m ih =>
      have h1 := ih (by omega) (by omega)
      have h2 := (h' (i + 1 + (m + 1)) hj).2
      have e : i + 1 + (m + 1) - 1 = i + 1 + m := by omega
      rw [e] at h2
      simp [show i + 1 + m < l.length by omega] at h2
      omega
  · intro x hx
    obtain ⟨i, hi, rfl⟩ := List.getElem_of_mem hx
    exact (h' i hi).1

section
set_option linter.unusedSectionVars false
variable (l : List Int) (n : Nat) (hn : n < 8) (hs : l.Pairwise (· < ·)) (hb : ∀ x ∈ l, 0 ≤ x ∧ x < 2 ^ n) (hl : l.length < 1152921504606846976)
include hn hs hb hl
theorem el_nat (i : Nat) (hi : i < l.length) : ∃ x : Nat, l[i] = (x : Int) ∧ x < 128 ∧ l[i].toNat = x := by
  have h1 := hb _ (List.getElem_mem hi)
  refine ⟨l[i].toNat, by omega, ?_, rfl⟩
  have : (2 : Int) ^ n ≤ 128 := by
    have : (2 : Nat) ^ n ≤ 2 ^ 7 := Nat.pow_le_pow_right (by omega) (by omega)
    have h3 : ((2 ^ n : Nat) : Int) ≤ ((2 ^ 7 : Nat) : Int) := by exact_mod_cast this
    simpa using h3
  omega
theorem spGood_l1 (x : Nat) (hx : x < 128) (a : Int) (e : Int) (i : Nat) (q : Bool) (hq : Ev (fun k => spec_spGood.l0 k l e (wrap64 ((i : Int) + 1)) a l) q) : ∀ (m j : Nat), j + m = l.length →
    Ev (fun k => spec_spGood.l1 k (x : Int) l e (i : Int) l (l.length : Int) (j : Int) a l) ((l.drop j).all (fun y => famOf l (x ||| y.toNat)) && q) := by
  intro m
  induction m with
  | zero =>
    intro j hj
    refine Ev.step (fun k => spec_spGood.l1.eq_2 _ _ _ _ _ _ _ _ _ k) ?_
    refine Ev.neg (by omega) ?_
    rw [List.drop_eq_nil_of_le (by omega)]
    exact hq
  | succ m ih =>
    intro j hj
    have hjl : j < l.length := by omega
    refine Ev.step (fun k => spec_spGood.l1.eq_2 _ _ _ _ _ _ _ _ _ k) ?_
    obtain ⟨y, hy, hy1, hy2⟩ := el_nat l n hn hs hb hl j hjl
    have h2 := ih (j + 1) (by omega)
    have ew : wrap64 ((j : Int) + 1) = ((j + 1 : Nat) : Int) := by rw [wrap_small (by omega) (by omega)]; omega
    refine Ev.pos (by omega) (Ev.pos (by omega) (Ev.pos (by omega) (Ev.bind (by rw [rd_at l j hjl, hy, go_or x y hx hy1]; exact spHas_pure l _ hs hl) ?_)))
    rw [List.drop_eq_getElem_cons hjl, List.all_cons, hy2, famOf_nat]
    simp only [ew]
    cases hd : decide (((x ||| y : Nat) : Int) ∈ l) with
    | true => simp only [if_true, Bool.true_and]; exact h2
    | false => simp only [Bool.false_eq_true, if_false, Bool.false_and]; exact Ev.now _
theorem spGood_l0 (a : Int) : ∀ (m i : Nat), i + m = l.length → Ev (fun k => spec_spGood.l0 k l (l.length : Int) (i : Int) a l) ((l.drop i).all (rowOk (famOf l) l)) := by
  intro m
  induction m with
  | zero =>
    intro i hi
    refine Ev.step (fun k => spec_spGood.l0.eq_2 _ _ _ _ _ k) ?_
    refine Ev.neg (by omega) ?_
    rw [List.drop_eq_nil_of_le (by omega)]
    exact Ev.now _
  | succ m ih =>
    intro i hi
    have hil : i < l.length := by omega
    obtain ⟨x, hx, hx1, hx2⟩ := el_nat l n hn hs hb hl i hil
    have h2 := ih (i + 1) (by omega)
    have ew : wrap64 ((i : Int) + 1) = ((i + 1 : Nat) : Int) := by rw [wrap_small (by omega) (by omega)]; omega
    have h3 := spGood_l1 l n hn hs hb hl x hx1 a (l.length : Int) i _ (by rw [ew]; exact h2) l.length 0 (by omega)
    have e : (l.drop i).all (rowOk (famOf l) l) = ((decide ((x : Int) = 0) || decide (inner (famOf l) x ≠ 0)) && ((l.drop 0).all (fun y => famOf l (x ||| y.toNat)) && (l.drop (i + 1)).all (rowOk (famOf l) l))) := by
      rw [List.drop_eq_getElem_cons hil, List.all_cons, List.drop_zero, ← Bool.and_assoc]
      unfold rowOk orOk
      rw [hx2, hx]
    rw [e]
    refine Ev.step (fun k => spec_spGood.l0.eq_2 _ _ _ _ _ k) ?_
    refine Ev.pos (by omega) (Ev.pos (by omega) (Ev.pos (by omega) ?_))
    rw [rd_at l i hil, hx]
    by_cases hp : (x : Int) > 0
    · refine Ev.pos hp (Ev.bind (spInner_pure l x hx1 hs hl) ?_)
      refine Ev.step (fun k => spec_spGood.j3.eq_2 _ _ _ _ _ _ _ k) ?_
      rw [show decide ((x : Int) = 0) = false by rw [decide_eq_false_iff_not]; omega, Bool.false_or]
      by_cases hz : inner (famOf l) x = 0
      · refine Ev.pos (by rw [hz]; rfl) (Ev.one ?_)
        simp [hz]
      · refine Ev.neg (by simp; omega) ?_
        rw [show decide (inner (famOf l) x ≠ 0) = true by simpa using hz, Bool.true_and]
        exact h3
    · refine Ev.neg hp ?_
      refine Ev.step (fun k => spec_spGood.j3.eq_2 _ _ _ _ _ _ _ k) ?_
      refine Ev.neg (by simp) ?_
      rw [show decide ((x : Int) = 0) = true by rw [decide_eq_true_eq]; omega, Bool.true_or, Bool.true_and]
      exact h3
end
theorem pow_wrap (n : Nat) (hn : n < 8) : wrap64 ((shl .i64 1 (n : Int)) - 1) = (2 : Int) ^ n - 1 ∧ shl .i64 1 (n : Int) = (2 : Int) ^ n ∧ ((2 ^ n - 1 : Nat) : Int) = 2 ^ n - 1 := by
  have : ∀ n, n < 8 → wrap64 ((shl .i64 1 ((n : Nat) : Int)) - 1) = (2 : Int) ^ n - 1 ∧ shl .i64 1 (n : Int) = (2 : Int) ^ n ∧ ((2 ^ n - 1 : Nat) : Int) = 2 ^ n - 1 := by decide +kernel
  exact this n hn
/-- spec's 'spGood' asks what impl's IsSpace asks. -/
theorem spGood_pure (a : Int) (l : List Int) (hl : l.length < 1152921504606846976) : Ev (fun k => spec_spGood.f k a l) (isSpB a l) := by
  unfold isSpB
  have ei : spec_spItems.f a = some (decide (1 ≤ a ∧ a ≤ 7)) := by
    unfold spec_spItems.f spec_l1In.f
    by_cases h : a ≥ 1
    · rw [if_pos h]; simp only [Option.bind_some]; congr 1; rw [decide_eq_decide]; omega
    · rw [if_neg h]; simp only [Option.bind_some]; congr 1; rw [eq_comm, decide_eq_false_iff_not]; omega
  by_cases ha : 1 ≤ a ∧ a ≤ 7
  · rw [if_pos ha]
    obtain ⟨n, rfl⟩ : ∃ n : Nat, a = n := ⟨a.toNat, by omega⟩
    have hn : n < 8 := by omega
    obtain ⟨p1, p2, p3⟩ := pow_wrap n hn
    rw [show ((n : Int)).toNat = n by omega]
    unfold isSpN
    refine Ev.congr (fun k => spec_spGood.f.eq_1 k _ _) (Ev.bind (by rw [ei]; exact Ev.now _) ?_)
    rw [show decide (1 ≤ (n : Int) ∧ (n : Int) ≤ 7) = true by simpa using ha]
    refine Ev.pos rfl (Ev.pos (by omega) ?_)
    rw [p1, p2]
    have hj0 : ∀ (b : Bool), b = true → Ev (fun k => spec_spGood.j0 k b (n : Int) l) false := fun b hb => by
      refine Ev.step (fun k => spec_spGood.j0.eq_2 _ _ _ k) (Ev.pos hb (Ev.now _))
    have hc : (l.length : Int) > 2 ^ n ↔ ¬ l.length ≤ 2 ^ n := by
      have : ((2 ^ n : Nat) : Int) = 2 ^ n := by simp
      omega
    by_cases hlen : l.length ≤ 2 ^ n
    · refine Ev.neg (by rw [hc]; simpa using hlen) (Ev.bind (l1Rising_pure l n hn hl) ?_)
      rw [show decide (l.length ≤ 2 ^ n) = true by simpa using hlen, Bool.true_and]
      cases hr : (List.range l.length).all (incOk n l) with
      | false => rw [Bool.false_and]; exact hj0 _ rfl
      | true =>
        obtain ⟨hs, hb⟩ := rising_of hr
        rw [Bool.true_and]
        refine Ev.step (fun k => spec_spGood.j0.eq_2 _ _ _ k) (Ev.neg (by simp) (Ev.bind (spHas_pure l 0 hs hl) ?_))
        have hj1 : Ev (fun k => spec_spGood.j1 k true (n : Int) l) false := Ev.step (fun k => spec_spGood.j1.eq_2 _ _ _ k) (Ev.pos rfl (Ev.now _))
        have e0 : famOf l 0 = decide ((0 : Int) ∈ l) := rfl
        rw [e0]
        cases h0 : decide ((0 : Int) ∈ l) with
        | false => rw [Bool.false_and]; exact Ev.neg (by simp) hj1
        | true =>
          rw [Bool.true_and]
          refine Ev.pos rfl (Ev.pos (by omega) (Ev.bind (by rw [p1]; exact spHas_pure l _ hs hl) ?_))
          have e1 : famOf l (2 ^ n - 1) = decide (((2 : Int) ^ n - 1) ∈ l) := by rw [famOf_nat, p3]
          rw [e1]
          cases h1 : decide (((2 : Int) ^ n - 1) ∈ l) with
          | false => rw [Bool.false_and]; exact hj1
          | true =>
            rw [Bool.true_and]
            refine Ev.step (fun k => spec_spGood.j1.eq_2 _ _ _ k) (Ev.neg (by simp) ?_)
            exact spGood_l0 l n hn hs hb hl (n : Int) l.length 0 (by omega)
    · refine Ev.pos (by rw [hc]; exact hlen) ?_
      rw [show decide (l.length ≤ 2 ^ n) = false by simpa using hlen, Bool.false_and]
      exact hj0 _ rfl
  · rw [if_neg ha]
    refine Ev.congr (fun k => spec_spGood.f.eq_1 k _ _) (Ev.bind (by rw [ei]; exact Ev.now _) ?_)
    rw [show decide (1 ≤ a ∧ a ≤ 7) = false by simpa using ha]
    refine Ev.neg (by simp) ?_
    exact Ev.step (fun k => spec_spGood.j0.eq_2 _ _ _ k) (Ev.pos rfl (Ev.now _))
end Go.Proofs.Ytjhjphgdjhahlaa.P
/- The reference's order of lists. -/
namespace Go.Proofs.Ytjhjphgdjhahlaa.P
open Go.RowKit Go.Proofs.YtjhjphgdjhahlaaW.PrintWords Go.Proofs.YtjhjphgdjhahlaaW.PrintLast Go.Proofs.YtjhjphgdjhahlaaW.PrintMore
set_option linter.unusedVariables false

theorem alBefore_from (l m : List Int) (hl : l.length < 1152921504606846976) (hm : m.length < 1152921504606846976) : ∀ (j i : Nat), i + j = l.length → i ≤ m.length → Ev (fun k => spec_alBefore.l0 k l m (i : Int)) (decide (cmpL (l.drop i) (m.drop i) < 0)) := by
  intro j
  induction j with
  | zero =>
    intro i hi him
    refine Ev.step (fun k => spec_alBefore.l0.eq_2 _ _ _ k) (Ev.neg (by omega) ?_)
    refine Ev.step (fun k => spec_alBefore.j1.eq_2 _ _ _ _ k) (Ev.neg (by simp) (Ev.one ?_))
    rw [List.drop_eq_nil_of_le (by omega)]
    by_cases h : i < m.length
    · rw [List.drop_eq_getElem_cons h]; simp [cmpL]; omega
    · rw [List.drop_eq_nil_of_le (by omega)]; simp [cmpL]; omega
  | succ j ih =>
    intro i hi him
    have hi1 : i < l.length := by omega
    refine Ev.step (fun k => spec_alBefore.l0.eq_2 _ _ _ k) (Ev.pos (by omega) ?_)
    refine Ev.step (fun k => spec_alBefore.j1.eq_2 _ _ _ _ k) ?_
    rw [List.drop_eq_getElem_cons hi1]
    by_cases h : i < m.length
    · have e1 : rd l (i : Int) = l[i] := by unfold rd; simp [hi1]
      have e2 : rd m (i : Int) = m[i] := by unfold rd; simp [h]
      have ew : wrap64 ((i : Int) + 1) = ((i + 1 : Nat) : Int) := by unfold wrap64; omega
      refine Ev.pos (by simp; omega) (Ev.pos (by omega) (Ev.pos (by omega) (Ev.pos (by omega) ?_)))
      rw [List.drop_eq_getElem_cons h, e1, e2, ew]
      by_cases he : l[i] = m[i]
      · refine Ev.pos he ?_
        have := ih (i + 1) (by omega) (by omega)
        simpa [cmpL, he] using this
      · refine Ev.neg he (Ev.one ?_)
        have ec : cmpL (l[i] :: l.drop (i + 1)) (m[i] :: m.drop (i + 1)) = if l[i] < m[i] then -1 else if m[i] < l[i] then 1 else cmpL (l.drop (i + 1)) (m.drop (i + 1)) := rfl
        rw [decide_eq_decide, ec]
        by_cases hlt : l[i] < m[i]
        · rw [if_pos hlt]; omega
        · rw [if_neg hlt, if_pos (by omega)]; omega
    · refine Ev.neg (by simp; omega) (Ev.one ?_)
      rw [List.drop_eq_nil_of_le (show m.length ≤ i by omega)]
      simp [cmpL]; omega
theorem alBefore_pure (l m : List Int) (hl : l.length < 1152921504606846976) (hm : m.length < 1152921504606846976) : Ev (fun k => spec_alBefore.f k l m) (decide (cmpL l m < 0)) := by
  have := alBefore_from l m hl hm l.length 0 (by omega) (by omega)
  exact Ev.congr (fun k => spec_alBefore.f.eq_1 k _ _) (by simpa using this)


end Go.Proofs.Ytjhjphgdjhahlaa.P
/- Families in memory: an array of 128 Bools in a block of its own; impl's 'family' makes the family of a space. -/
namespace Go.Proofs.Ytjhjphgdjhahlaa.P
open Go.RowKit Go.Proofs.YtjhjphgdjhahlaaW.PrintWords Go.Proofs.YtjhjphgdjhahlaaW.PrintLast Go.Proofs.YtjhjphgdjhahlaaW.PrintMore
set_option linter.unusedVariables false

def famCells (F : Nat → Bool) : Array Value := ((List.range 128).map fun i => Value.bool (F i)).toArray
theorem famCells_size (F : Nat → Bool) : (famCells F).size = 128 := by simp [famCells]
theorem famCells_get (F : Nat → Bool) (i : Nat) (h : i < 128) : (famCells F)[i]? = some (.bool (F i)) := by
  simp [famCells, h]
theorem famCells_set (F : Nat → Bool) (i : Nat) (b : Bool) : (famCells F).setIfInBounds i (.bool b) = famCells (upd F i b) := by
  apply Array.ext
  · simp [famCells]
  · intro j h1 h2
    simp [famCells, upd]
    have := h1; simp [famCells] at this
    by_cases e : i = j <;> simp [e, eq_comm]

/-- Block g holds the family F. -/
def FamAt (w : World) (g : Nat) (F : Nat → Bool) : Prop := w.heap[g]? = some (.cells (famCells F) 120 (0, 0))
theorem zero_fam : Try.zeroCells120 = famCells (fun _ => false) := by kernel_rfl
theorem FamAt.lt {w : World} {g : Nat} {F : Nat → Bool} (h : FamAt w g F) : g < w.heap.size := (Array.getElem?_eq_some_iff.1 h).1
theorem FamAt.cell {w : World} {g : Nat} {F : Nat → Bool} (h : FamAt w g F) (i : Nat) (hi : i < 128) : w.cell? ⟨g, i, none⟩ = some (.bool (F i)) := (blk_cell h i).trans (famCells_get F i hi)
theorem FamAt.frozen {w : World} {g : Nat} {F : Nat → Bool} (h : FamAt w g F) (i : Nat) : w.frozen? ⟨g, i, none⟩ = false := blk_frozen h i
theorem FamAt.set {w : World} {g : Nat} {F : Nat → Bool} (h : FamAt w g F) (i : Nat) (b : Bool) : FamAt (w.setCell ⟨g, i, none⟩ (.bool b)) g (upd F i b) := by
  unfold FamAt; rw [← famCells_set]; exact blk_set h i _
theorem FamAt.far {w : World} {g : Nat} {F : Nat → Bool} (h : FamAt w g F) {p : Addr} (hne : g ≠ p.block) (u : Value) : FamAt (w.setCell p u) g F := blk_far h hne u
theorem FamAt.below {w w1 : World} {g : Nat} {F : Nat → Bool} (h : FamAt w g F) (hb : Below w.heap.size w w1) : FamAt w1 g F := blk_below h hb
theorem FamAt.alloc {w : World} {g : Nat} {F : Nat → Bool} (h : FamAt w g F) (o : Obj) : FamAt (w.alloc o) g F := blk_alloc h o
theorem FamAt.drewN {w : World} {g : Nat} {F : Nat → Bool} (h : FamAt w g F) (n : Nat) : FamAt (w.drewN n) g F := blk_drewN h n
theorem FamAt.drew {w : World} {g : Nat} {F : Nat → Bool} (h : FamAt w g F) : FamAt w.drew g F := blk_drew h
theorem FamAt.new (w : World) : FamAt (w.alloc (.cells Try.zeroCells120 120)) w.heap.size (fun _ => false) := by
  unfold FamAt; rw [← zero_fam]; exact heap_alloc_new w _
theorem FamAt.ext {w : World} {g : Nat} {F G : Nat → Bool} (h : FamAt w g F) (e : ∀ i, i < 128 → F i = G i) : FamAt w g G := by
  have : famCells F = famCells G := by
    simp only [famCells]; congr 1; apply List.map_congr_left; intro i hi; rw [e i (by simpa using hi)]
  unfold FamAt; rw [← this]; exact h

/-- The integers of a list that is read lie where the list is. -/
theorem int_at {w : World} {A : Option Addr} {n : Nat} {l : List Int} (h : Kd.C (Kd.int .i64) w A n l) (i : Nat) (hi : i < n) : ∃ ad, A = some ad ∧ w.cell? (ad.add i) = some (.int .i64 (l[i]?.getD 0)) := by
  obtain ⟨ad, e1, hx⟩ := Kd.at_int h (i : Int) (by omega) (by omega)
  refine ⟨ad, e1, ?_⟩
  simpa [rd] using hx

set_option maxHeartbeats 800000
set_option maxRecDepth 100000
theorem family_calls (n : Int) (A : Option Addr) (l : List Int) (c : Nat) (w : World) (hr : Kd.C (Kd.int .i64) w A l.length l) (hv : ∀ x ∈ l, 0 ≤ x ∧ x < 128) :
    Calls Try.prog 106 #[.agg #[.int .i64 n, .slice A l.length c]] w fun e w' => ∃ g, e = .returned (.pointer (some ⟨g, 0, none⟩)) ∧ FamAt w' g (famOf l) ∧ Below w.heap.size w w' ∧ w.heap.size ≤ g := by
  have hu := Try.underlying28
  have HR := Aside0.mk hr
  clear hr
  have HV := Aside0.mk hv
  clear hv
  have HL := Aside0.mk (HR.out.2.1)
  go_enter Try.func106, Try.ntmps106
  go_wp2_with fail
  go_loopg [11] l.length (fun kq v11 w' => ∃ i : Nat, v11 = .int .i64 i ∧ i ≤ l.length ∧ Aside0 (kq = l.length - i) ∧ Aside0 (FamAt w' (w.heap.size + 1) (famOf (l.take i))) ∧ Aside0 (Below w.heap.size w w'))
  case atStart =>
    refine ⟨0, rfl, Nat.zero_le _, ⟨by omega⟩, ⟨?_⟩, ⟨?_⟩⟩
    · have := FamAt.new (w.alloc (.cells #[Value.int .i64 n, .slice A l.length c] 28))
      simpa using this.ext (fun i _ => by simp [famOf])
    · exact below_alloc (below_alloc (Below.refl _ _) _) _
  case round =>
    obtain ⟨i, rfl, hi, HK, HF, HB⟩ := hrel
    by_cases hlt : i < l.length
    · have hlen := HL.out
      have p1 : (0:Int) ≤ (i : Int) := by omega
      have q1 : (i : Int) < (l.length : Int) := by omega
      obtain ⟨ad, e1, hx⟩ := Kd.at_int HR.out (i : Int) p1 q1
      cases e1
      replace hx := (HB.out.cell (World.block_lt_of_cell? w _ hx)).trans hx
      have hm := HV.out (rd l i) (by unfold rd; simp [hlt])
      obtain ⟨m, hm1⟩ := Int.eq_ofNat_of_zero_le hm.1
      rw [hm1] at hx hm
      have hm2 : (m : Int) < 128 := hm.2
      clear hm
      simp only [Int.toNat_natCast] at hx
      have hc' := HF.out.cell m (by omega)
      have hf' := HF.out.frozen m
      have HM1 := Aside0.mk hm1
      clear hm1
      go_wp2
      go_roundg (l.length - (i + 1))
      case measure => have := HK.out; omega
      case rel =>
        refine ⟨i + 1, by go_num, by omega, ⟨rfl⟩, ⟨?_⟩, ⟨below_set HB.out (by omega)⟩⟩
        refine (HF.out.set m true).ext (fun j _ => ?_)
        have hh := famOf_snoc l i hlt (by have := HM1.out; unfold rd at this; simp [hlt] at this; omega) j
        have e2 : l[i].toNat = m := by have := HM1.out; unfold rd at this; simp [hlt] at this; omega
        rw [e2] at hh; exact hh
    · obtain rfl : i = l.length := by omega
      go_wp2
      go_ret
      refine ⟨w.heap.size + 1, rfl, ?_, HB.out, by omega⟩
      have := HF.out; rw [List.take_length] at this; exact this
end Go.Proofs.Ytjhjphgdjhahlaa.P
/- What a call leaves: all blocks but those of a set are as they were. -/
-- plain
namespace Go.Proofs.Ytjhjphgdjhahlaa.P
open Go.RowKit Go.Proofs.YtjhjphgdjhahlaaW.PrintWords Go.Proofs.YtjhjphgdjhahlaaW.PrintLast Go.Proofs.YtjhjphgdjhahlaaW.PrintMore

/-- W is w but for new blocks, draws, and what may have been written into blocks of S. -/
structure KB (w W : World) (S : Nat → Prop) : Prop where
  os : W.os = w.os
  tape : W.tape = w.tape
  output : W.output = w.output
  size : w.heap.size ≤ W.heap.size
  block : ∀ i, i < w.heap.size → ¬ S i → W.heap[i]? = w.heap[i]?
variable {w W W2 : World} {S S' S2 : Nat → Prop}
theorem KB.refl (w : World) (S : Nat → Prop) : KB w w S := ⟨rfl, rfl, rfl, Nat.le_refl _, fun _ _ _ => rfl⟩
theorem KB.of_below (h : Below w.heap.size w W) (S : Nat → Prop) : KB w W S := ⟨h.os, h.tape, h.output, h.size, fun i hi _ => h.block i hi⟩
theorem KB.mono (h : KB w W S) (hs : ∀ k, k < w.heap.size → S k → S' k) : KB w W S' := ⟨h.os, h.tape, h.output, h.size, fun i hi hn => h.block i hi fun hk => hn (hs i hi hk)⟩
theorem KB.then_ (h : KB w W S) (k : KB W W2 S2) (hs : ∀ k, k < w.heap.size → S2 k → S k) : KB w W2 S :=
  ⟨k.os.trans h.os, k.tape.trans h.tape, k.output.trans h.output, Nat.le_trans h.size k.size, fun i hi hn =>
    (k.block i (Nat.lt_of_lt_of_le hi h.size) fun h2 => hn (hs i hi h2)).trans (h.block i hi hn)⟩
theorem KB.to_below (h : KB w W S) (hs : ∀ k, k < w.heap.size → ¬ S k) : Below w.heap.size w W := ⟨h.os, h.tape, h.output, h.size, fun i hi => h.block i hi (hs i hi)⟩
theorem KB.below (h : KB w W S) (hb : Below W.heap.size W W2) : KB w W2 S := h.then_ (KB.of_below hb (fun _ => False)) (fun _ _ hk => hk.elim)
theorem KB.alloc (h : KB w W S) (o : Obj) : KB w (W.alloc o) S := h.below (below_alloc (Below.refl _ _) o)
theorem KB.drewN (h : KB w W S) (m : Nat) : KB w (W.drewN m) S := ⟨h.os, h.tape, h.output, h.size, h.block⟩
theorem KB.drew (h : KB w W S) : KB w W.drew S := ⟨h.os, h.tape, h.output, h.size, h.block⟩
theorem KB.setCell (h : KB w W S) {p : Addr} (hp : S p.block ∨ w.heap.size ≤ p.block) (u : Value) : KB w (W.setCell p u) S :=
  h.then_ (S2 := fun k => k = p.block) ⟨rfl, rfl, rfl, by simp [World.setCell], fun i _ hn => Below.heap_setCell W p u i hn⟩ (fun k hk he => by subst he; rcases hp with h | h; exact h; omega)
theorem KB.grown (h : KB w W S) {row : Option Nat} (hg : W.grownBy W2 row) (hr : ∀ k, row = some k → S k ∨ w.heap.size ≤ k) : KB w W2 S :=
  h.then_ (S2 := fun k => row = some k) ⟨hg.os, hg.tape, hg.output, hg.size, fun i hi hn => hg.block i hi (fun he => hn he.symm)⟩ (fun k hk he => by rcases hr k he with h | h; exact h; omega)
theorem blk_kb {g : Nat} {o : Obj} (hb : W.heap[g]? = some o) (hk : KB W W2 S) (hne : ¬ S g) : W2.heap[g]? = some o := (hk.block g (blk_lt hb) hne).trans hb
theorem cell_kb {a : Addr} {v : Value} (hc : W.cell? a = some v) (hk : KB W W2 S) (hne : ¬ S a.block) : W2.cell? a = some v := by
  have := hk.block a.block (World.block_lt_of_cell? W a hc) hne
  simpa [World.cell?, this] using hc
/-- A list of integers that is read, over what leaves its block alone. -/
theorem C_kb {A : Option Addr} {n : Nat} {l : List Int} (h : Kd.C (Kd.int .i64) W A n l) (hk : KB W W2 S) (hne : ∀ ad, A = some ad → ¬ S ad.block) : Kd.C (Kd.int .i64) W2 A n l := by
  refine ⟨h.1, h.2.1, fun hn => ?_⟩
  obtain ⟨ad, e, hc⟩ := h.2.2 hn
  refine ⟨ad, e, fun j p hp => ?_⟩
  obtain ⟨c, hl, hK, hcc⟩ := hc j p hp
  refine ⟨c, hl, hK, fun i u hu => cell_kb (hcc i u hu) hk ?_⟩
  have : (ad.add (j * (Kd.int .i64).sz + i)).block = ad.block := by unfold Addr.add; split <;> rfl
  rw [this]; exact hne ad e
/-- An own row, over what leaves its block alone. -/
theorem R_kb {base : Nat} {ok : Nat → Prop} {v : Value} {l : List Int} {e : Nat} (h : Kd.R (Kd.int .i64) e W base ok v l) (hk : KB W W2 S) (hne : ∀ k, ok k → ¬ S k) : Kd.R (Kd.int .i64) e W2 base ok v l := by
  refine Kd.R_mono (Kd.R_move (Kd.R_bound h) ?_) (fun k hk => hk.1)
  intro k hk2
  exact hk.block k hk2.2.2.1 (hne k hk2.1)
end Go.Proofs.Ytjhjphgdjhahlaa.P
/- Plain facts about words of learning. No program. -/
-- plain
namespace Go.Proofs.Ytjhjphgdjhahlaa.P
/-! Words of learning: all ways on from a set. -/
def wordsFrom (F : Nat → Bool) (al : Nat) : Nat → Nat → List (List Nat)
  | 0, _ => []
  | d + 1, s => if s = al then [[]] else (itemsOf (outer F s)).flatMap fun i => (wordsFrom F al d (wth s i)).map (i :: ·)
/-- what is told of words one by one, as long as it is asked for -/
def feed (cont : List (List Nat) → Bool) (s : List (List Nat) × Bool) (l : List (List Nat)) : List (List Nat) × Bool :=
  l.foldl (fun s x => if s.2 then (s.1 ++ [x], cont (s.1 ++ [x])) else s) s
theorem feed_append (cont : List (List Nat) → Bool) (s : List (List Nat) × Bool) (l l' : List (List Nat)) : feed cont s (l ++ l') = feed cont (feed cont s l) l' := by
  simp [feed]
theorem feed_off (cont : List (List Nat) → Bool) (h : List (List Nat)) (l : List (List Nat)) : feed cont (h, false) l = (h, false) := by
  induction l with
  | nil => rfl
  | cons a l ih => simpa [feed] using ih
theorem feed_one (cont : List (List Nat) → Bool) (h : List (List Nat)) (x : List Nat) : feed cont (h, true) [x] = (h ++ [x], cont (h ++ [x])) := by simp [feed]
theorem feed_all (cont : List (List Nat) → Bool) (hc : ∀ h, cont h = true) (h : List (List Nat)) (l : List (List Nat)) : feed cont (h, true) l = (h ++ l, true) := by
  induction l generalizing h with
  | nil => simp [feed]
  | cons a l ih =>
    have : feed cont (h, true) (a :: l) = feed cont (h ++ [a], true) l := by simp [feed, hc]
    rw [this, ih]; simp
theorem outerF_bit (F : Nat → Bool) (x : Nat) (k i : Nat) : (outerF F x (List.range k)).testBit i = (decide (i < k) && (!x.testBit i && F (wth x i))) := by
  induction k with
  | zero => simp [outerF]
  | succ k ih =>
    rw [outerF_succ]
    by_cases e : i = k
    · subst e
      have hk : (outerF F x (List.range i)).testBit i = false := by rw [ih]; simp
      split
      · rename_i h; rw [hk, h]; simp
      · rename_i h
        have hx : x.testBit i = false := by simpa using h
        split
        · rename_i hf; unfold wth at hf ⊢; simp [Nat.testBit_or, hx, hf]
        · rename_i hf; rw [hk, hx]; have : F (wth x i) = false := by simpa using hf
          rw [this]; simp
    · have hd : decide (i < k + 1) = decide (i < k) := by rw [decide_eq_decide]; omega
      have hp : Nat.testBit (2 ^ k) i = false := by rw [Nat.testBit_two_pow]; simp; omega
      rw [hd, ← ih]
      split
      · rfl
      · split
        · simp [wth, Nat.testBit_or, hp]
        · rfl
theorem outer_bit (F : Nat → Bool) (x i : Nat) : (outer F x).testBit i = (decide (i < 7) && (!x.testBit i && F (wth x i))) := outerF_bit F x 7 i
theorem outer_mem {F : Nat → Bool} {x i : Nat} (h : i ∈ itemsOf (outer F x)) : i < 7 ∧ x.testBit i = false ∧ F (wth x i) = true := by
  have h2 := (itemsOf_mem h).2
  rw [outer_bit] at h2
  simp at h2
  exact ⟨h2.1, h2.2.1, h2.2.2⟩
def cnt (x : Nat) : Nat := (itemsOf x).length
theorem cnt_le (x : Nat) : cnt x ≤ 7 := itemsOf_len x
theorem cnt_wth (x i : Nat) (hx : x < 128) (hi : i < 7) (hb : x.testBit i = false) : cnt (wth x i) = cnt x + 1 := by
  have : ∀ x, x < 128 → ∀ i, i < 7 → x.testBit i = false → cnt (wth x i) = cnt x + 1 := by decide +kernel
  exact this x hx i hi hb
end Go.Proofs.Ytjhjphgdjhahlaa.P
/- impl's 'those': the sets for which a function value says yes; the space of all sets. -/
namespace Go.Proofs.Ytjhjphgdjhahlaa.P
open Go.RowKit Go.Proofs.YtjhjphgdjhahlaaW.PrintWords Go.Proofs.YtjhjphgdjhahlaaW.PrintLast Go.Proofs.YtjhjphgdjhahlaaW.PrintMore
set_option linter.unusedVariables false
set_option maxHeartbeats 1600000
set_option maxRecDepth 100000

theorem those_calls (g : Nat) (lb : Array Value) (P : Nat → Bool) (n : Nat) (hn7 : n ≤ 7) (w : World) (eg : ∀ args w, (callFunc g args).run Try.prog w = .ok (.enter g args) w)
    (hg : ∀ x, x < 2 ^ n → ∀ W, Below w.heap.size w W → Calls Try.prog g (#[.int .i64 (x : Int)] ++ lb) W fun e W' => e = .returned (.bool (P x)) ∧ Below W.heap.size W W') :
    Calls Try.prog 117 #[.int .i64 (n : Int), .func (.func g) #[] lb] w fun e w' => ∃ v, e = .returned (.agg #[.int .i64 n, v]) ∧ Kd.R (Kd.int .i64) 3 w' w.heap.size (fun _ => True) v (ints (setsUpto P (2 ^ n))) ∧ Below w.heap.size w w' := by
  have hu := Try.underlying28
  have HG := Aside0.mk hg
  have hp7 : 2 ^ n ≤ 128 := Nat.pow_le_pow_right (n := 2) (by omega) hn7
  obtain ⟨q, hq1, hq2, hq⟩ := bit_letter n (by omega)
  obtain ⟨p, hp⟩ : ∃ p, 2 ^ n = p := ⟨_, rfl⟩
  rw [hp] at hq HG hp7 ⊢
  subst hq
  clear hg hp
  go_enter Try.func117, Try.ntmps117
  go_wp2_with fail
  go_loopg [11] p (fun kq v11 w' => ∃ (i : Nat) (v : Value), v11 = .int .i64 i ∧ i ≤ p ∧ Aside0 (kq = p - i) ∧ Aside0 (Kd.R (Kd.int .i64) 3 w' w.heap.size (fun _ => True) v (ints (setsUpto P i))) ∧ Aside0 (w'.heap[w.heap.size]? = some (.cells #[.int .i64 0, .slice none 0 0] 28 (0, 0))) ∧ Aside0 (w'.heap[w.heap.size + 1]? = some (.cells #[.int .i64 n, v] 28 (0, 0))) ∧ Aside0 (Below w.heap.size w w'))
  case atStart =>
    refine ⟨0, .slice none 0 0, rfl, by omega, ⟨rfl⟩, ⟨Kd.R_nil _ _ _ _ _⟩, ⟨blk_alloc (heap_alloc_new _ _) _⟩, ⟨?_⟩, ⟨below_alloc (below_alloc (Below.refl _ _) _) _⟩⟩
    have := heap_alloc_new (w.alloc (.cells #[Value.int .i64 0, .slice none 0 0] 28)) (.cells #[Value.int .i64 n, .slice none 0 0] 28)
    simpa using this
  case round =>
    obtain ⟨i, v, rfl, hi, HK, HO, HB0, HB1, HB⟩ := hrel
    obtain ⟨A, c, hv⟩ := Kd.R_slice HO.out
    rw [hv] at HB1 HO
    clear hv
    by_cases hlt : i < p
    · have hsl := setsUpto_len P i
      have hgi := HG.out i hlt wr HB.out
      have HGI := Aside0.mk hgi
      have hsu := setsUpto_succ P i
      obtain ⟨b, hb⟩ : ∃ b, P i = b := ⟨_, rfl⟩
      rw [hb] at hsu HGI
      have HSU := Aside0.mk hsu
      clear hgi hsu hb
      go_wp2_with fail
      refine HGI.out.mono ?_
      rintro e w1 ⟨rfl, hb1⟩
      have HO1 := Aside0.mk (Kd.R_below HO.out hb1)
      have HB01 := Aside0.mk (blk_below HB0.out hb1)
      have HB11 := Aside0.mk (blk_below HB1.out hb1)
      have HBB1 := Aside0.mk (below_step HB.out hb1)
      clear hb1 HO HB0 HB1 HB
      cases b
      · go_wp2_with fail
        go_roundg (p - (i + 1))
        case measure => have := HK.out; omega
        case rel =>
          refine ⟨i + 1, .slice A (ints (setsUpto P i)).length c, by go_num, by omega, ⟨rfl⟩, ⟨?_⟩, HB01, HB11, HBB1⟩
          rw [HSU.out]
          exact HO1.out
      · have hc1_1 : w1.cell? ⟨w.heap.size + 1, 1, none⟩ = some (.slice A (ints (setsUpto P i)).length c) := (blk_cell HB11.out 1).trans rfl
        have hf1_1 := blk_frozen HB11.out 1
        go_wp2_with (first | ((with_reducible refine gate_builtin (b := .append) (xs := #[.tmp 18, .tmp 20]) rfl ?_); at_builtin; refine Kd.R_append (Kd.int .i64) (w0 := w) w.heap.size rfl (.tmp 18) (.tmp 20) 22 3 (.int .i64 0) 8 rfl Try.underlying22 info3 rfl (by decide) (by omega) (.slice A (ints (setsUpto P i)).length c) (ints (setsUpto P i)) (i : Int) [.int .i64 (i : Int)] (fun _ => True) (fun _ => False) rfl rfl ?aP (fun _ hk => hk.elim) ?aF ?aO ?aB ?aS ?aL ?_; (case aP => exact rfl); (case aB => exact HBB1.out); (case aF => exact (fun _ _ => trivial)); (case aO => exact HO1.out); (case aS => exact below_size HBB1.out); (case aL => simp only [ints, List.length_map]; omega); intro v1 w9 ho hb hg hat; obtain ⟨A1, c1, rfl⟩ := Kd.R_slice ho; have hB0 := Aside0.mk (blk_grown HB01.out hg (Kd.R_ne HO1.out HB01.out (by decide))); have hB1 := Aside0.mk (blk_grown HB11.out hg (Kd.R_ne HO1.out HB11.out (by decide))); have HO9 := Aside0.mk ho; have HB9 := Aside0.mk hb; have hf9 := blk_frozen hB1.out 1; have hc9 : w9.cell? ⟨w.heap.size + 1, 1, none⟩ = some (.slice A (ints (setsUpto P i)).length c) := (blk_cell hB1.out 1).trans rfl; clear ho hb hg hat hc1_1 hf1_1) | fail)
        go_roundg (p - (i + 1))
        case measure => have := HK.out; omega
        case rel =>
          refine ⟨i + 1, .slice A1 (ints (setsUpto P i) ++ [(i : Int)]).length c1, by go_num, by omega, ⟨rfl⟩, ⟨?_⟩, ⟨blk_far hB0.out (by simp) _⟩, ⟨?_⟩, ⟨below_set HB9.out (by omega)⟩⟩
          · rw [HSU.out]
            simp only [if_true]
            have e : ints (setsUpto P i ++ [i]) = ints (setsUpto P i) ++ [(i : Int)] := by simp [ints]
            rw [e]
            exact Kd.R_mono (Kd.R_far (p := ⟨w.heap.size + 1, 1, none⟩) (Kd.R_types HO9.out hB1.out (by decide)) (fun _ hk => hk.2) _) (fun _ _ => trivial)
          · have := blk_put (cs := #[.int .i64 n, .slice A (ints (setsUpto P i)).length c]) hB1.out 1 (.slice A1 ((ints (setsUpto P i)).length + 1) c1) rfl
            simpa using this
    · obtain rfl : i = p := by omega
      have hc1_0 : wr.cell? ⟨w.heap.size + 1, 0, none⟩ = some (.int .i64 n) := (blk_cell HB1.out 0).trans rfl
      have hc1_1 : wr.cell? ⟨w.heap.size + 1, 1, none⟩ = some (.slice A (ints (setsUpto P i)).length c) := (blk_cell HB1.out 1).trans rfl
      have hc0_0 : wr.cell? ⟨w.heap.size, 0, none⟩ = some (.int .i64 0) := (blk_cell HB0.out 0).trans rfl
      have hc0_1 : wr.cell? ⟨w.heap.size, 1, none⟩ = some (.slice none 0 0) := (blk_cell HB0.out 1).trans rfl
      have hf0_0 := blk_frozen HB0.out 0
      have hf0_1 := blk_frozen HB0.out 1
      go_wp2_with fail
      refine bodyPost_ret (results_cell_row rfl _ _ w.heap.size 28 #[.int .i64 n, .slice A (ints (setsUpto P i)).length c] (0, 0) _ rfl (by refine blk_put (cs := #[.int .i64 n, .slice none 0 0]) ?_ 1 _ rfl; refine blk_put (cs := #[.int .i64 0, .slice none 0 0]) ?_ 0 _ rfl; exact HB0.out) Try.underlying28 rfl (by kernel_rfl)) rfl ?_
      refine ⟨_, rfl, ?_, by repeat (first | exact HB.out | refine below_set ?_ (Nat.le_refl _))⟩
      exact Kd.R_mono (Kd.R_far (p := ⟨w.heap.size, 1, none⟩) (Kd.R_far (p := ⟨w.heap.size, 0, none⟩) (Kd.R_types HO.out HB0.out (by decide)) (fun _ hk => hk.2) _) (fun _ hk => hk.2) _) (fun _ _ => trivial)
theorem yes_calls (x : Int) (w : World) : Calls Try.prog 145 #[.int .i64 x] w fun e w' => e = .returned (.bool true) ∧ Below w.heap.size w w' := by
  go_enter Try.func145, Try.ntmps145
  go_wp2_with fail
  go_ret
  exact ⟨rfl, Below.refl _ _⟩
theorem setsUpto_true (k : Nat) : setsUpto (fun _ => true) k = List.range k := by simp [setsUpto]
theorem isSize_small (n : Nat) (h1 : 1 ≤ n) (h7 : n ≤ 7) : impl_isSize.f (n : Int) = some true := by
  unfold impl_isSize.f impl_within.f
  rw [if_pos (by omega)]; simp; omega
/-- the space of all sets -/
theorem free_calls (n : Nat) (h1 : 1 ≤ n) (h7 : n ≤ 7) (w : World) : Calls Try.prog 136 #[.int .i64 (n : Int)] w fun e w' => ∃ v, e = .returned (.tuple #[.agg #[.int .i64 n, v], .bool true]) ∧ Kd.R (Kd.int .i64) 3 w' w.heap.size (fun _ => True) v (ints (List.range (2 ^ n))) ∧ Below w.heap.size w w' := by
  have hu := Try.underlying28
  have HS := Aside0.mk (isSize_small n h1 h7)
  clear h1
  go_enter Try.func136, Try.ntmps136
  go_wp2_with fail
  refine (impl_isSize.calls (n : Int) true _ HS.out).mono ?_
  rintro e w1 ⟨rfl, hb⟩
  have hb0 := Aside0.mk (blk_below (blk_new w _) hb.below)
  have HB1 := Aside0.mk (below_step (below_alloc (Below.refl _ w) _) hb.below)
  have hz : w.heap.size < w1.heap.size := blk_lt hb0.out
  clear hb
  go_wp2_with fail
  refine (those_calls 145 #[] (fun _ => true) n h7 _ (enters_ (by rw [Try.func145]) (by decide) (by decide)) (fun x _ W _ => yes_calls x W)).mono ?_
  rintro e w2 ⟨v, rfl, ho, hb⟩
  rw [setsUpto_true] at ho
  obtain ⟨A, c, rfl⟩ := Kd.R_slice ho
  have HO := Aside0.mk ho
  have hb1 := Aside0.mk (blk_below hb0.out hb)
  have HB2 := Aside0.mk (below_step HB1.out hb)
  have hf1 := blk_frozen hb1.out 0
  have hf2 := blk_frozen hb1.out 1
  have hc1 : w2.cell? ⟨w.heap.size, 0, none⟩ = some (.int .i64 0) := (blk_cell hb1.out 0).trans rfl
  have hc2 : w2.cell? ⟨w.heap.size, 1, none⟩ = some (.slice none 0 0) := (blk_cell hb1.out 1).trans rfl
  clear ho hb
  go_wp2_with fail
  refine bodyPost_ret (results_ct rfl _ _ w.heap.size 28 #[.int .i64 n, .slice A (ints (List.range (2 ^ n))).length c] (0, 0) _ rfl (by refine blk_put (cs := #[.int .i64 n, .slice none 0 0]) ?_ 1 _ rfl; refine blk_put (cs := #[.int .i64 0, .slice none 0 0]) ?_ 0 _ rfl; exact hb1.out) Try.underlying28 rfl (by kernel_rfl)) rfl ?_
  refine ⟨_, rfl, ?_, by repeat (first | exact HB2.out | refine below_set ?_ (Nat.le_refl _))⟩
  exact Kd.R_mono (Kd.R_far (p := ⟨w.heap.size, 1, none⟩) (Kd.R_far (p := ⟨w.heap.size, 0, none⟩) (Kd.R_types (Kd.R_lower HO.out HB1.out.size) hb1.out (by decide)) (fun _ hk => hk.2) _) (fun _ hk => hk.2) _) (fun _ _ => trivial)
end Go.Proofs.Ytjhjphgdjhahlaa.P
/- impl's fringes: 'inner' and 'outer' of a family. -/
namespace Go.Proofs.Ytjhjphgdjhahlaa.P
open Go.RowKit Go.Proofs.YtjhjphgdjhahlaaW.PrintWords Go.Proofs.YtjhjphgdjhahlaaW.PrintLast Go.Proofs.YtjhjphgdjhahlaaW.PrintMore
set_option linter.unusedVariables false
set_option maxHeartbeats 800000
set_option maxRecDepth 100000

theorem items_pure (x : Nat) (hx : x < 128) : impl_items.f 8 (x : Int) = some (ints (itemsOf x)) := by
  have : ∀ x, x < 128 → impl_items.f 8 ((x : Nat) : Int) = some (ints (itemsOf x)) := by decide +kernel
  exact this x hx

theorem items_get (x : Nat) (j : Nat) (h : j < (itemsOf x).length) : ∃ i, i < 7 ∧ (itemsOf x)[j]? = some i ∧ (ints (itemsOf x))[j]?.getD 0 = (i : Int) := by
  have hm : (itemsOf x)[j] ∈ itemsOf x := List.getElem_mem h
  refine ⟨(itemsOf x)[j], ?_, by simp [h], by simp [ints, h]⟩
  simp only [itemsOf, List.mem_filter, List.mem_range] at hm
  exact hm.1

theorem inner_calls (g x : Nat) (F : Nat → Bool) (w : World) (hx : x < 128) (hF : FamAt w g F) :
    Calls Try.prog 130 #[.pointer (some ⟨g, 0, none⟩), .int .i64 (x : Int)] w fun e w' => e = .returned (.int .i64 ((inner F x : Nat) : Int)) ∧ Below w.heap.size w w' := by
  have HF := Aside0.mk hF
  clear hF
  go_enter Try.func130, Try.ntmps130
  go_wp2_with (go_at_call 110; refine (impl_items.calls 8 (x : Int) _ w (items_pure x hx)).mono ?_; rintro e w1 ⟨v0, rfl, ho, hb⟩; have HO := Aside0.mk ho; have HB := Aside0.mk hb; clear ho hb; obtain ⟨A, c, rfl⟩ := Kd.R_slice HO.out)
  have hlen : (ints (itemsOf x)).length = (itemsOf x).length := by simp [ints]
  have hl7 : (itemsOf x).length ≤ 7 := List.length_filter_le _ _
  have HLEN := Aside0.mk hlen
  clear hlen

  go_loopg [5, 11] (itemsOf x).length (fun kq v5 v11 w' => ∃ i : Nat, v11 = .int .i64 i ∧ v5 = .int .i64 ((innerF F x ((itemsOf x).take i) : Nat) : Int) ∧ i ≤ (itemsOf x).length ∧ Aside0 (kq = (itemsOf x).length - i) ∧ Aside0 (Below w1.heap.size w1 w'))
  case atStart => exact ⟨0, rfl, rfl, Nat.zero_le _, ⟨rfl⟩, ⟨Below.refl _ _⟩⟩
  case round =>
    obtain ⟨i, rfl, rfl, hi, HK, HB1⟩ := hrel
    by_cases hlt : i < (itemsOf x).length
    · obtain ⟨a, ha, hg, hg2⟩ := items_get x i hlt
      obtain ⟨ad, e1, hx1⟩ := int_at ((Kd.R_reads' HO.out).2.2) i (by rw [HLEN.out]; exact hlt)
      cases e1
      rw [hg2] at hx1
      replace hx1 := pw_cell_below HB1.out hx1
      have HLT : i < (ints (itemsOf x)).length := by rw [HLEN.out]; exact hlt
      have hF1 := (HF.out.below HB.out).below HB1.out
      obtain ⟨p, hp1, hp2, hp⟩ := bit_letter a (by omega)
      obtain ⟨q, hq⟩ : ∃ q, wout x a = q := ⟨_, rfl⟩
      have hq1 : Go.bits .andNot .i64 (x : Int) p = (q : Int) := by rw [hp, ← hq]; exact go_wout x a hx ha
      have hq2 : q < 128 := by rw [← hq]; exact wout_lt x a hx
      have hor : ∀ o : Nat, o < 128 → Go.bits .or .i64 (o : Int) p = ((wth o a : Nat) : Int) := fun o ho => by rw [hp]; exact go_wth o a ho ha
      have hcell := hF1.cell q hq2
      have hol := innerF_lt F x ((itemsOf x).take i) (by intro j hj; have := List.mem_of_mem_take hj; simp [itemsOf] at this; exact this.1)
      obtain ⟨o, ho⟩ : ∃ o, innerF F x ((itemsOf x).take i) = o := ⟨_, rfl⟩
      rw [ho] at hol
      have hor1 := hor o hol
      have HQ := Aside0.mk hq
      have HO1 := Aside0.mk ho
      have HOR := Aside0.mk hor
      rw [ho]
      obtain ⟨b, hb⟩ : ∃ b, F q = b := ⟨_, rfl⟩
      rw [hb] at hcell
      have HBB := Aside0.mk hb
      have HG := Aside0.mk hg
      have htk : (itemsOf x).take (i + 1) = (itemsOf x).take i ++ [a] := by
        rw [List.take_add_one, hg]; rfl
      have HTK := Aside0.mk htk
      clear hF1 hp hq ho hor hb hg htk
      cases b
      all_goals
        go_wp2
        go_quiet (fail)
        go_wp2
        go_roundg ((itemsOf x).length - (i + 1))
        case measure => have := HK.out; omega
        case rel =>
          refine ⟨i + 1, by go_num, ?_, by omega, ⟨rfl⟩, ⟨by repeat (first | exact HB1.out | apply pw_below_drewN)⟩⟩
          rw [HTK.out, innerF_snoc, HQ.out, HBB.out, HO1.out]
          simp
    · have hi2 : i = (itemsOf x).length := by omega
      have HI := Aside0.mk hi2
      have hge : ¬ i < (ints (itemsOf x)).length := by rw [HLEN.out]; exact hlt
      clear hi2
      go_wp2
      go_ret
      refine ⟨?_, below_then HB.out HB.out.size HB1.out⟩
      rw [HI.out, List.take_length]; rfl
theorem outer_calls (g x : Nat) (F : Nat → Bool) (w : World) (hx : x < 128) (hF : FamAt w g F) :
    Calls Try.prog 111 #[.pointer (some ⟨g, 0, none⟩), .int .i64 (x : Int)] w fun e w' => e = .returned (.int .i64 ((outer F x : Nat) : Int)) ∧ Below w.heap.size w w' := by
  have HF := Aside0.mk hF
  clear hF
  go_enter Try.func111, Try.ntmps111
  go_wp2_with fail
  go_loopg [5, 7] 7 (fun kq v5 v7 w' => ∃ i : Nat, v7 = .int .i64 i ∧ v5 = .int .i64 ((outerF F x (List.range i) : Nat) : Int) ∧ i ≤ 7 ∧ Aside0 (kq = 7 - i) ∧ Aside0 (Below w.heap.size w w'))
  case atStart => exact ⟨0, rfl, rfl, Nat.zero_le _, ⟨rfl⟩, ⟨Below.refl _ _⟩⟩
  case round =>
    obtain ⟨i, rfl, rfl, hi, HK, HB1⟩ := hrel
    by_cases hlt : i < 7
    · obtain ⟨p, hp1, hp2, hp⟩ := bit_letter i (by omega)
      obtain ⟨q, hq⟩ : ∃ q, wth x i = q := ⟨_, rfl⟩
      have hq1 : Go.bits .or .i64 (x : Int) p = (q : Int) := by rw [hp, ← hq]; exact go_wth x i hx hlt
      have hq2 : q < 128 := by rw [← hq]; exact wth_lt x i hx hlt
      have hol := outerF_lt F x i hi
      obtain ⟨o, ho⟩ : ∃ o, outerF F x (List.range i) = o := ⟨_, rfl⟩
      rw [ho] at hol
      have hor1 : Go.bits .or .i64 (o : Int) p = ((wth o i : Nat) : Int) := by rw [hp]; exact go_wth o i hol hlt
      have hcell := (HF.out.below HB1.out).cell q hq2
      obtain ⟨sh, hsh, hbit⟩ := shr_letter x i hx (by omega)
      obtain ⟨b, hb⟩ : ∃ b, F q = b := ⟨_, rfl⟩
      rw [hb] at hcell
      obtain ⟨c, hc⟩ : ∃ c, x.testBit i = c := ⟨_, rfl⟩
      rw [hc] at hbit
      have hs := outerF_succ F x i
      rw [hq, hb, ho, hc] at hs
      have HO1 := Aside0.mk ho
      have HS := Aside0.mk hs
      rw [ho]
      clear hp hq ho hb hc hs
      cases c <;> cases b
      all_goals
        simp only [Bool.false_eq_true, if_false, if_true] at hbit
        go_wp2_with fail
        go_quiet (fail)
        go_wp2
        go_roundg (7 - (i + 1))
        case measure => have := HK.out; omega
        case rel =>
          refine ⟨i + 1, by go_num, ?_, by omega, ⟨rfl⟩, ⟨by repeat (first | exact HB1.out | apply pw_below_drewN)⟩⟩
          rw [HS.out]
          simp
    · have hi2 : i = 7 := by omega
      subst hi2
      go_wp2
      go_ret
      exact ⟨rfl, HB1.out⟩
end Go.Proofs.Ytjhjphgdjhahlaa.P
