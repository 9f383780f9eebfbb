/- Texts of this claim, put together: Q5, XGrSpec, XGrTable, XCountPlain, XSpOuter, XGrGreedy, XSpecCount. -/
import Derived.Test.YtjhjphgdjhahlaaM0
import Derived.Test.YtjhjphgdjhahlaaM1
import Derived.Test.YtjhjphgdjhahlaaM2
-- PRINTED by print.py (a twelfth state) out of the translation. Not trusted: Lean checks it.
namespace Go.Proofs.Ytjhjphgdjhahlaa.P
open Go.RowKit Go.Proofs.YtjhjphgdjhahlaaW.PrintWords Go.Proofs.YtjhjphgdjhahlaaW.PrintLast Go.Proofs.YtjhjphgdjhahlaaW.PrintMore
attribute [local go_sem] max2_int min2_int max_two min_two max_three min_three max_four min_four   -- for this text's walks alone
set_option linter.unusedVariables false
set_option linter.unusedSimpArgs false

/-! ### spec_grTable: function 58 -/
mutual
def spec_grTable.l0 : Nat → List (S54) → Int → List (S73) → Int → Int → List Int → Option ((List (S73)))
  | 0, _, _, _, _, _, _ => none
  | k + 1, x1, x2, x7, x8, x151000, x151001 => if x8 ≥ 0 then (if 0 ≤ x8 then (if x8 < (x151001.length : Int) then (spec_grTable.l1 k x1 x2 x7 x8 (rd x151001 x8) (x1.length : Int) 0 x151000 x151001 10000 0) else (none)) else (none)) else (some x7)
def spec_grTable.l1 : Nat → List (S54) → Int → List (S73) → Int → Int → Int → Int → Int → List Int → Int → Int → Option ((List (S73)))
  | 0, _, _, _, _, _, _, _, _, _, _, _ => none
  | k + 1, x1, x2, x7, x8, x9, x39, x40, x151000, x151001, x157000, x157001 => if x40 < x39 then (spec_grTable.l2 k x1 x2 x7 x8 x9 x40 (wrap64 (x8 + 1)) x39 x40 x151000 x151001 x157000 x157001) else (if 0 ≤ x8 then (if x8 < (x7.length : Int) then (spec_grTable.l0 k x1 x2 (x7.set (x8 : Int).toNat (⟨x157000, x157001⟩ : S73)) (wrap64 (x8 - 1)) x151000 x151001) else (none)) else (none))
def spec_grTable.l2 : Nat → List (S54) → Int → List (S73) → Int → Int → Int → Int → Int → Int → Int → List Int → Int → Int → Option ((List (S73)))
  | 0, _, _, _, _, _, _, _, _, _, _, _, _, _ => none
  | k + 1, x1, x2, x7, x8, x9, x11, x12, x39, x40, x151000, x151001, x157000, x157001 => if x12 < (x151001.length : Int) then ((spec_spIn.f x9 x11).bind fun t158 => (if t158 = true then (spec_grTable.j3 k x1 x2 x7 x8 x9 x11 x12 x39 x40 false x151000 x151001 x157000 x157001) else (if 0 ≤ x12 then (if 0 ≤ x11 then (spec_grTable.j3 k x1 x2 x7 x8 x9 x11 x12 x39 x40 ((rd x151001 x12) == (Go.bits .or .i64 x9 (shl .i64 1 x11))) x151000 x151001 x157000 x157001) else (none)) else (none)))) else (spec_grTable.l1 k x1 x2 x7 x8 x9 x39 (wrap64 (x40 + 1)) x151000 x151001 x157000 x157001)
def spec_grTable.j3 : Nat → List (S54) → Int → List (S73) → Int → Int → Int → Int → Int → Int → Bool → Int → List Int → Int → Int → Option ((List (S73)))
  | 0, _, _, _, _, _, _, _, _, _, _, _, _, _, _ => none
  | k + 1, x1, x2, x7, x8, x9, x11, x12, x39, x40, x67, x151000, x151001, x157000, x157001 => if x67 = true then ((spec_grCost.f k x1 x9 x11).bind fun t160 => (if 0 ≤ x12 then (if x12 < (x7.length : Int) then ((spec_l1Most.f t160 ((rd_T73 x7 x12).f0)).bind fun t162 => ((spec_l1Least.f x157000 t162).bind fun t163 => (if t160 ≤ x2 then (spec_grTable.l2 k x1 x2 x7 x8 x9 x11 (wrap64 (x12 + 1)) x39 x40 x151000 x151001 t163 (wrap64 (x157001 + ((rd_T73 x7 x12).f1)))) else (spec_grTable.l2 k x1 x2 x7 x8 x9 x11 (wrap64 (x12 + 1)) x39 x40 x151000 x151001 t163 x157001)))) else (none)) else (none))) else (spec_grTable.l2 k x1 x2 x7 x8 x9 x11 (wrap64 (x12 + 1)) x39 x40 x151000 x151001 x157000 x157001)
end
def spec_grTable.f (k : Nat) (a0_0 : Int) (l0_1 : List Int) (l1 : List (S54)) (a2 : Int) : Option ((List (S73))) := if 0 ≤ (l0_1.length : Int) then (if ((l0_1.length : Int) : Int).toNat ≤ 17592186044416 then ((some (List.replicate ((l0_1.length : Int) : Int).toNat z73 : List (S73))).bind fun y151 => (if 0 ≤ (wrap64 ((y151.length : Int) - 1)) then (if (wrap64 ((y151.length : Int) - 1)) < (y151.length : Int) then (spec_grTable.l0 k l1 a2 (y151.set ((wrap64 ((y151.length : Int) - 1)) : Int).toNat (⟨(-10000), 1⟩ : S73)) (wrap64 ((l0_1.length : Int) - 2)) a0_0 l0_1) else (none)) else (none))) else (none)) else (none)
theorem spec_grTable.mono_l : ∀ k, (∀ y0 y1 y2 y3 y4 y5, LeO (spec_grTable.l0 k y0 y1 y2 y3 y4 y5) (spec_grTable.l0 (k + 1) y0 y1 y2 y3 y4 y5)) ∧ (∀ y0 y1 y2 y3 y4 y5 y6 y7 y8 y9 y10, LeO (spec_grTable.l1 k y0 y1 y2 y3 y4 y5 y6 y7 y8 y9 y10) (spec_grTable.l1 (k + 1) y0 y1 y2 y3 y4 y5 y6 y7 y8 y9 y10)) ∧ (∀ y0 y1 y2 y3 y4 y5 y6 y7 y8 y9 y10 y11 y12, LeO (spec_grTable.l2 k y0 y1 y2 y3 y4 y5 y6 y7 y8 y9 y10 y11 y12) (spec_grTable.l2 (k + 1) y0 y1 y2 y3 y4 y5 y6 y7 y8 y9 y10 y11 y12)) ∧ (∀ y0 y1 y2 y3 y4 y5 y6 y7 y8 y9 y10 y11 y12 y13, LeO (spec_grTable.j3 k y0 y1 y2 y3 y4 y5 y6 y7 y8 y9 y10 y11 y12 y13) (spec_grTable.j3 (k + 1) y0 y1 y2 y3 y4 y5 y6 y7 y8 y9 y10 y11 y12 y13))
  | 0 => ⟨fun _ _ _ _ _ _ r h => by simp [spec_grTable.l0] at h, fun _ _ _ _ _ _ _ _ _ _ _ r h => by simp [spec_grTable.l1] at h, fun _ _ _ _ _ _ _ _ _ _ _ _ _ r h => by simp [spec_grTable.l2] at h, fun _ _ _ _ _ _ _ _ _ _ _ _ _ _ r h => by simp [spec_grTable.j3] at h⟩
  | k + 1 => by
    obtain ⟨ih0, ih1, ih2, ih3⟩ := spec_grTable.mono_l k
    refine ⟨?_, ?_, ?_, ?_⟩
    · intro y0 y1 y2 y3 y4 y5
      unfold spec_grTable.l0
      repeat' first
      | (with_reducible exact ih0 _ _ _ _ _ _)
      | (with_reducible exact ih1 _ _ _ _ _ _ _ _ _ _ _)
      | (with_reducible exact ih2 _ _ _ _ _ _ _ _ _ _ _ _ _)
      | (with_reducible exact ih3 _ _ _ _ _ _ _ _ _ _ _ _ _ _)
      | (with_reducible exact spec_grCost.mono _ _ _ _)
      | (with_reducible exact LeO.refl _)
      | (with_reducible exact LeO.none _)
      | (with_reducible refine LeO.ite ?_ ?_)
      | (with_reducible refine LeO.bind ?_ (fun _ => ?_))
      | exact ih0 _ _ _ _ _ _
      | exact ih1 _ _ _ _ _ _ _ _ _ _ _
      | exact ih2 _ _ _ _ _ _ _ _ _ _ _ _ _
      | exact ih3 _ _ _ _ _ _ _ _ _ _ _ _ _ _
      | exact spec_grCost.mono _ _ _ _
      | exact LeO.none _
      | refine LeO.ite ?_ ?_
      | refine LeO.bind ?_ (fun _ => ?_)
    · intro y0 y1 y2 y3 y4 y5 y6 y7 y8 y9 y10
      unfold spec_grTable.l1
      repeat' first
      | (with_reducible exact ih0 _ _ _ _ _ _)
      | (with_reducible exact ih1 _ _ _ _ _ _ _ _ _ _ _)
      | (with_reducible exact ih2 _ _ _ _ _ _ _ _ _ _ _ _ _)
      | (with_reducible exact ih3 _ _ _ _ _ _ _ _ _ _ _ _ _ _)
      | (with_reducible exact spec_grCost.mono _ _ _ _)
      | (with_reducible exact LeO.refl _)
      | (with_reducible exact LeO.none _)
      | (with_reducible refine LeO.ite ?_ ?_)
      | (with_reducible refine LeO.bind ?_ (fun _ => ?_))
      | exact ih0 _ _ _ _ _ _
      | exact ih1 _ _ _ _ _ _ _ _ _ _ _
      | exact ih2 _ _ _ _ _ _ _ _ _ _ _ _ _
      | exact ih3 _ _ _ _ _ _ _ _ _ _ _ _ _ _
      | exact spec_grCost.mono _ _ _ _
      | exact LeO.none _
      | refine LeO.ite ?_ ?_
      | refine LeO.bind ?_ (fun _ => ?_)
    · intro y0 y1 y2 y3 y4 y5 y6 y7 y8 y9 y10 y11 y12
      unfold spec_grTable.l2
      repeat' first
      | (with_reducible exact ih0 _ _ _ _ _ _)
      | (with_reducible exact ih1 _ _ _ _ _ _ _ _ _ _ _)
      | (with_reducible exact ih2 _ _ _ _ _ _ _ _ _ _ _ _ _)
      | (with_reducible exact ih3 _ _ _ _ _ _ _ _ _ _ _ _ _ _)
      | (with_reducible exact spec_grCost.mono _ _ _ _)
      | (with_reducible exact LeO.refl _)
      | (with_reducible exact LeO.none _)
      | (with_reducible refine LeO.ite ?_ ?_)
      | (with_reducible refine LeO.bind ?_ (fun _ => ?_))
      | exact ih0 _ _ _ _ _ _
      | exact ih1 _ _ _ _ _ _ _ _ _ _ _
      | exact ih2 _ _ _ _ _ _ _ _ _ _ _ _ _
      | exact ih3 _ _ _ _ _ _ _ _ _ _ _ _ _ _
      | exact spec_grCost.mono _ _ _ _
      | exact LeO.none _
      | refine LeO.ite ?_ ?_
      | refine LeO.bind ?_ (fun _ => ?_)
    · intro y0 y1 y2 y3 y4 y5 y6 y7 y8 y9 y10 y11 y12 y13
      unfold spec_grTable.j3
      repeat' first
      | (with_reducible exact ih0 _ _ _ _ _ _)
      | (with_reducible exact ih1 _ _ _ _ _ _ _ _ _ _ _)
      | (with_reducible exact ih2 _ _ _ _ _ _ _ _ _ _ _ _ _)
      | (with_reducible exact ih3 _ _ _ _ _ _ _ _ _ _ _ _ _ _)
      | (with_reducible exact spec_grCost.mono _ _ _ _)
      | (with_reducible exact LeO.refl _)
      | (with_reducible exact LeO.none _)
      | (with_reducible refine LeO.ite ?_ ?_)
      | (with_reducible refine LeO.bind ?_ (fun _ => ?_))
      | exact ih0 _ _ _ _ _ _
      | exact ih1 _ _ _ _ _ _ _ _ _ _ _
      | exact ih2 _ _ _ _ _ _ _ _ _ _ _ _ _
      | exact ih3 _ _ _ _ _ _ _ _ _ _ _ _ _ _
      | exact spec_grCost.mono _ _ _ _
      | exact LeO.none _
      | refine LeO.ite ?_ ?_
      | refine LeO.bind ?_ (fun _ => ?_)
theorem spec_grTable.mono : ∀ a0 a1 a2 a3 k, LeO (spec_grTable.f k a0 a1 a2 a3) (spec_grTable.f (k + 1) a0 a1 a2 a3) := by
  intro a0 a1 a2 a3 k
  obtain ⟨ih0, ih1, ih2, ih3⟩ := spec_grTable.mono_l k
  unfold spec_grTable.f
  repeat' first
      | (with_reducible exact ih0 _ _ _ _ _ _)
      | (with_reducible exact ih1 _ _ _ _ _ _ _ _ _ _ _)
      | (with_reducible exact ih2 _ _ _ _ _ _ _ _ _ _ _ _ _)
      | (with_reducible exact ih3 _ _ _ _ _ _ _ _ _ _ _ _ _ _)
      | (with_reducible exact spec_grCost.mono _ _ _ _)
      | (with_reducible exact LeO.refl _)
      | (with_reducible exact LeO.none _)
      | (with_reducible refine LeO.ite ?_ ?_)
      | (with_reducible refine LeO.bind ?_ (fun _ => ?_))
      | exact ih0 _ _ _ _ _ _
      | exact ih1 _ _ _ _ _ _ _ _ _ _ _
      | exact ih2 _ _ _ _ _ _ _ _ _ _ _ _ _
      | exact ih3 _ _ _ _ _ _ _ _ _ _ _ _ _ _
      | exact spec_grCost.mono _ _ _ _
      | exact LeO.none _
      | refine LeO.ite ?_ ?_
      | refine LeO.bind ?_ (fun _ => ?_)
def spec_grTable.T14 : Bool × List (List Nat × List Nat) := (true, [([], []), ([], []), ([0, 1], [0, 1]), ([2], [2]), ([3, 2], [3]), ([4], [4]), ([5, 4], [4, 5]), ([4], [4]), ([6, 7, 4], [4, 6, 7]), ([8, 4], [4, 8]), ([4], [4]), ([4], [4]), ([11, 4], [4, 11]), ([10, 12, 4], [4, 10, 12]), ([9, 13, 4], [4, 9, 13]), ([4, 14], [4, 14])])
def spec_grTable.B14 : List Nat := [0, 0, 3, 7, 15, 31, 63, 31, 255, 511, 31, 31, 2079, 7199, 16383, 32767]
theorem spec_grTable.tab14 : rtab .any (opsOf Try.f58 14) = spec_grTable.T14 := by kernel_rfl
theorem spec_grTable.bits14 : waitsOk spec_grTable.T14.2 spec_grTable.B14 = true := by kernel_rfl
def spec_grTable.T16 : Bool × List (List Nat × List Nat) := (true, [([], []), ([0], [0]), ([], []), ([], []), ([], []), ([3, 4], [3, 4]), ([5], [5]), ([6], [6]), ([2, 7], [2, 7]), ([1, 8, 8], [1, 8]), ([0, 1, 2, 3, 4, 5, 6, 7, 8, 9], []), ([10, 9, 9, 0, 1, 2, 3, 4, 5, 6, 7, 8, 9], [9, 10])])
def spec_grTable.B16 : List Nat := [0, 1, 0, 0, 0, 24, 56, 120, 252, 511, 1023, 2047]
theorem spec_grTable.tab16 : rtab .any (opsOf Try.f58 16) = spec_grTable.T16 := by kernel_rfl
theorem spec_grTable.bits16 : waitsOk spec_grTable.T16.2 spec_grTable.B16 = true := by kernel_rfl
def spec_grTable.T18 : Bool × List (List Nat × List Nat) := (true, [([], []), ([0], [0]), ([], []), ([], []), ([2, 3], [2, 3]), ([4], [4]), ([5], [5]), ([1, 6], [1, 6]), ([0, 1, 2, 3, 4, 5, 6, 7], []), ([8, 7, 0, 1, 2, 3, 4, 5, 6, 7], [7, 8])])
def spec_grTable.B18 : List Nat := [0, 1, 0, 0, 12, 28, 60, 127, 255, 511]
theorem spec_grTable.tab18 : rtab .any (opsOf Try.f58 18) = spec_grTable.T18 := by kernel_rfl
theorem spec_grTable.bits18 : waitsOk spec_grTable.T18.2 spec_grTable.B18 = true := by kernel_rfl
set_option maxHeartbeats 8000000 in
set_option maxRecDepth 100000 in
theorem spec_grTable.calls (k : Nat) (a0_0 : Int) (A0_1 : Option Addr) (c0_1 : Nat) (l0_1 : List Int) (A1 : Option Addr) (c1 : Nat) (l1 : List (S54)) (a2 : Int) (r : List (S73)) (w : World) (hr0_1 : Kd.C (Kd.int .i64) w A0_1 l0_1.length l0_1) (hc0_1 : l0_1.length ≤ c0_1) (hr1 : Kd.C k54 w A1 l1.length l1) (hc1 : l1.length ≤ c1) (h : spec_grTable.f k a0_0 l0_1 l1 a2 = some r) :
    Calls Try.prog 58 #[.agg #[.int .i64 a0_0, .slice A0_1 l0_1.length c0_1], .slice A1 l1.length c1, .int .i64 a2] w fun e w' => ∃ v0_ : Value, e = .returned (v0_) ∧ Kd.R k73 73 w' w.heap.size (fun _ => True) v0_ r ∧ Below w.heap.size w w' := by
  have hu28 := Try.underlying28
  have hu73 := Try.underlying73
  have HR0_1 := Aside0.mk hr0_1
  have HC0_1 := Aside0.mk hc0_1
  clear hr0_1 hc0_1
  have HR1 := Aside0.mk hr1
  have HC1 := Aside0.mk hc1
  clear hr1 hc1
  have HB := Aside0.mk (Below.refl w.heap.size w)
  have H : (if 0 ≤ (l0_1.length : Int) then (if ((l0_1.length : Int) : Int).toNat ≤ 17592186044416 then ((some (List.replicate ((l0_1.length : Int) : Int).toNat z73 : List (S73))).bind fun y151 => (if 0 ≤ (wrap64 ((y151.length : Int) - 1)) then (if (wrap64 ((y151.length : Int) - 1)) < (y151.length : Int) then (spec_grTable.l0 k l1 a2 (y151.set ((wrap64 ((y151.length : Int) - 1)) : Int).toNat (⟨(-10000), 1⟩ : S73)) (wrap64 ((l0_1.length : Int) - 2)) a0_0 l0_1) else (none)) else (none))) else (none)) else (none)) = some r := h
  clear h
  by_cases c4 : 0 ≤ (l0_1.length : Int)
  · rw [if_pos c4] at H
    have c4b0 := eq_true c4
    have c4b1 : decide (0 ≤ (l0_1.length : Int)) = true := decide_eq_true c4
    clear c4
    by_cases c5 : ((l0_1.length : Int) : Int).toNat ≤ 17592186044416
    · rw [if_pos c5] at H
      have c5b0 := eq_true c5
      have c5b1 : decide (((l0_1.length : Int) : Int).toNat ≤ 17592186044416) = true := decide_eq_true c5
      clear c5
      obtain ⟨y151, hy151⟩ : ∃ y_ : List (S73), y_ = (List.replicate ((l0_1.length : Int) : Int).toNat z73) := ⟨_, rfl⟩
      replace H : (if 0 ≤ (wrap64 ((y151.length : Int) - 1)) then (if (wrap64 ((y151.length : Int) - 1)) < (y151.length : Int) then (spec_grTable.l0 k l1 a2 (y151.set ((wrap64 ((y151.length : Int) - 1)) : Int).toNat (⟨(-10000), 1⟩ : S73)) (wrap64 ((l0_1.length : Int) - 2)) a0_0 l0_1) else (none)) else (none)) = some r := by first | (rw [hy151]; with_reducible exact H) | (have H2_ := (Option.bind_some _ _).symm.trans H; rw [hy151]; with_reducible exact H2_) | (have H2_ := (Option.bind_some _ _).symm.trans H; with_reducible exact H2_) | with_reducible exact H | (rw [hy151]; exact H) | exact H
      have Ny151 := Aside0.mk hy151
      clear hy151
      obtain ⟨ji6, hji6⟩ : ∃ j_ : Int, (wrap64 ((y151.length : Int) - 1)) = j_ := ⟨_, rfl⟩
      replace H : (if 0 ≤ (ji6) then (if (ji6) < (y151.length : Int) then (spec_grTable.l0 k l1 a2 (y151.set ((ji6) : Int).toNat (⟨(-10000), 1⟩ : S73)) (wrap64 ((l0_1.length : Int) - 2)) a0_0 l0_1) else (none)) else (none)) = some r := by first | (rw [hji6] at H; exact H) | (simp only [hji6] at H ⊢; exact H)
      have hji6w : (IntKind.i64.wrap ((y151.length : Int) - 1)) = ji6 := (i64_w _).trans hji6
      by_cases c7 : 0 ≤ (ji6)
      · rw [if_pos c7] at H
        have c7b0 : decide (0 ≤ (ji6)) = true := decide_eq_true c7
        clear c7
        by_cases c8 : (ji6) < (y151.length : Int)
        · rw [if_pos c8] at H
          have c8b0 : decide ((ji6) < (y151.length : Int)) = true := decide_eq_true c8
          clear c8
          obtain ⟨y154, hy154⟩ : ∃ y_ : List (S73), y_ = (y151.set ((ji6) : Int).toNat (⟨(-10000), 1⟩ : S73)) := ⟨_, rfl⟩
          replace H : (spec_grTable.l0 k l1 a2 y154 (wrap64 ((l0_1.length : Int) - 2)) a0_0 l0_1) = some r := by first | (rw [hy154]; with_reducible exact H) | (have H2_ := (Option.bind_some _ _).symm.trans H; rw [hy154]; with_reducible exact H2_) | (have H2_ := (Option.bind_some _ _).symm.trans H; with_reducible exact H2_) | with_reducible exact H | (rw [hy154]; exact H) | exact H
          have Ny154 := Aside0.mk hy154
          clear hy154
          have H' := Aside0.mk H
          clear H
          go_enter Try.func58, Try.ntmps58
          go_wp2_with (first | ((with_reducible refine gate_dst (N := 3) rfl ?_); refine box_event ?hg (N := 3) ?hd (cs := #[.int .i64 a0_0, .slice A0_1 l0_1.length c0_1]) (t := 28) ?hr ?_; (case hd => rfl); (case hg => rfl); (case hr => first | (go_simp; done) | (go_simp; rfl)); intro gb150 hg w10 hbox hb; have n0_ := Aside0.mk (below_step (by repeat (first | (with_reducible first | exact HB.out | apply below_alloc | apply pw_below_drewN | apply below_drew1) | exact HB.out)) hb); have n1_ := Aside0.mk (hbox); have n2_ := Aside0.mk ((by rw [hg]; exact (below_size (by repeat (first | (with_reducible first | exact HB.out | apply below_alloc | apply pw_below_drewN | apply below_drew1) | exact HB.out))) : w.heap.size ≤ gb150)); have n3_ := Aside0.mk ((by rw [hg]; exact (below_size (by repeat (first | (with_reducible first | exact HB.out | apply below_alloc | apply pw_below_drewN | apply below_drew1) | exact HB.out))) : w.heap.size ≤ gb150)); clear HB; have HB := n0_; have BK150 := n1_; have GW150 := n2_; have GE150 := n3_; clear n0_ n1_ n2_ n3_; clear hb hbox hg; have hcz11_0 : w10.cell? ⟨gb150, 0, none⟩ = some (.int .i64 a0_0) := (blk_cell BK150.out 0).trans rfl; have hcz11_1 : w10.cell? ⟨gb150, 1, none⟩ = some (.slice A0_1 l0_1.length c0_1) := (blk_cell BK150.out 1).trans rfl; have hfz11_0 := blk_frozen BK150.out 0; have hfz11_1 := blk_frozen BK150.out 1) | ((with_reducible refine gate_dst (N := 17) rfl ?_); refine Kd.R_make k73 _ 73 rfl (N := 17) rfl 74 _ _ rfl (l0_1.length : Int) rfl rfl Try.underlying74 (.agg #[(.int .i64 0), (.int .i64 0)]) 16 info73 rfl (by decide) (by omega) z73 (ok := fun _ => True) (okp := fun _ => True) (k73_mkM _ _ _ z73 ) (fun _ hk => hk) trivial (of_decide_eq_true (by first | (with_reducible assumption) | assumption)) (Nat.le_trans (Nat.mul_le_mul_right _ (of_decide_eq_true (by first | (with_reducible assumption) | assumption) : (l0_1.length : Int).toNat ≤ 17592186044416)) (by omega)) (Below.refl _ _) (Nat.le_refl _) ?_; intro v152 w12 ho13 hb hg_ hnew_; clear hg_ hnew_; (first | rw [← Ny151.out] at ho13 | (simp only [Int.reduceToNat] at ho13; rw [← Ny151.out] at ho13)); have n0_ := Aside0.mk (Kd.R_lower ho13 (below_size (by repeat (first | (with_reducible first | exact HB.out | apply below_alloc | apply pw_below_drewN | apply below_drew1 | refine below_set ?_ GE150.out) | exact HB.out)))); have n1_ := Aside0.mk (blk_below (g := gb150) (o := .cells #[.int .i64 a0_0, .slice A0_1 l0_1.length c0_1] 28 (0, 0)) (by (with_reducible repeat (first | refine blk_drewN ?_ _ | refine blk_drew ?_ | refine blk_alloc ?_ _)); exact BK150.out) hb); have n2_ := Aside0.mk (below_step (by repeat (first | (with_reducible first | exact HB.out | apply below_alloc | apply pw_below_drewN | apply below_drew1 | refine below_set ?_ GE150.out) | exact HB.out)) hb); clear BK150; clear HB; have HO153 := n0_; have BK150 := n1_; have HB := n2_; clear n0_ n1_ n2_; clear hb ho13; obtain ⟨Ao14, co14, eo14⟩ := Kd.R_slice HO153.out; subst eo14; have p9 : 0 ≤ ((ji6) : Int) := of_decide_eq_true (by first | (with_reducible assumption) | assumption); have q9 : ((ji6) : Int) < ((y151.length : Int) : Int) := of_decide_eq_true (by first | (with_reducible assumption) | assumption); obtain ⟨go9, co9, eo9, gb9, gl9, cl9, HG9⟩ := Kd.R_form HO153.out (by omega); (first | cases eo9 | (injection eo9 with ea_ en_ ec_; (first | subst ea_ | (injection ea_ with ea_; subst ea_)); subst ec_; clear en_)); have GB9 := Aside0.mk gb9; have GG9 := Aside0.mk HG9; clear gb9 gl9 HG9; obtain ⟨ce9, hcl9, hM9, hcc9, hfr9⟩ := Kd.R_elem HO153.out z73 ((ji6) : Int) p9 q9; obtain rfl := k73_openM hM9; have hx9_0 : w12.cell? ⟨go9, ((ji6) : Int).toNat * 2, none⟩ = some (.int .i64 ((rd_T73 y151 (ji6)).f0)) := hcc9 0 _ rfl; have hx9_1 : w12.cell? ⟨go9, ((ji6) : Int).toNat * 2 + 1, none⟩ = some (.int .i64 ((rd_T73 y151 (ji6)).f1)) := hcc9 1 _ rfl; have hf9_0 : w12.frozen? ⟨go9, ((ji6) : Int).toNat * 2, none⟩ = false := hfr9 0; have hf9_1 : w12.frozen? ⟨go9, ((ji6) : Int).toNat * 2 + 1, none⟩ = false := hfr9 1; clear hcl9 hcc9 hfr9 hM9; replace p9 := eq_true p9; replace q9 := eq_true q9; have HX15 := Aside0.mk (show Kd.R k73 73 w12 w.heap.size (fun _ => True) (.slice (some ⟨go9, 0, none⟩) y151.length co14) y151 from (by (with_reducible repeat (first | apply Kd.R_alloc | apply Kd.R_drewN | apply Kd.R_drew)); exact HO153.out)); obtain ⟨ce15, hcl15, hM15, hcc15, hfr15⟩ := Kd.R_elem HX15.out z73 ((ji6) : Int) (of_decide_eq_true (by first | (with_reducible assumption) | assumption)) (by have h_ : ((ji6) : Int) < ((y151.length : Int) : Int) := of_decide_eq_true (by first | (with_reducible assumption) | assumption); first | exact h_ | (have e_ := (Kd.R_reads' HO153.out).1; omega) | simpa using h_); obtain rfl := k73_openM hM15; have HP15 := Kd.R_seg HX15.out ((ji6) : Int) (of_decide_eq_true (by first | (with_reducible assumption) | assumption)) (by have h_ : ((ji6) : Int) < ((y151.length : Int) : Int) := of_decide_eq_true (by first | (with_reducible assumption) | assumption); first | exact h_ | (have e_ := (Kd.R_reads' HO153.out).1; omega) | simpa using h_) (seg := [.int .i64 (-10000), .int .i64 1]) (j := 0) hcl15 hcc15 (show 2 ≤ 2 from by decide) (x' := (⟨(-10000), 1⟩ : S73)) (k73_mkM _ _ _ (⟨(-10000), 1⟩ : S73) ) (fun _ hk => hk); have hx15_0 := hcc15 0 _ rfl; (try simp only [show (k73).sz = 2 from rfl, Nat.mul_one, Nat.add_zero] at hx15_0); have hf15_0 := hfr15 0; (try simp only [show (k73).sz = 2 from rfl, Nat.mul_one, Nat.add_zero] at hf15_0); have hx15_1 := hcc15 1 _ rfl; (try simp only [show (k73).sz = 2 from rfl, Nat.mul_one, Nat.add_zero] at hx15_1); have hf15_1 := hfr15 1; (try simp only [show (k73).sz = 2 from rfl, Nat.mul_one, Nat.add_zero] at hf15_1); clear hcl15 hcc15 hfr15 hM15) | ((with_reducible refine gate_store (t := 73) (p := 23) rfl ?_); refine store_event (t := 73) (p := 23) (v := ?vo_w16) (w1 := ((w12.setCell ⟨go9, ((ji6) : Int).toNat * 2, none⟩ (.int .i64 (-10000))).setCell ⟨go9, ((ji6) : Int).toNat * 2 + 1, none⟩ (.int .i64 1))) ?hg ?ho ?hn ?hr ?_; (case ho => rfl); (case hg => rfl); (case hn => rfl); (case hr => first | (go_simp; done) | (go_simp; rfl)); intro w16 hw; have hg : w12.grownBy w16 (some go9) := (by rw [hw]; exact HP15.2); have hp_ : Kd.R k73 73 w16 w.heap.size (fun _ => True) (.slice (some ⟨go9, 0, none⟩) y151.length co14) y154 := (by rw [hw, Ny154.out]; exact HP15.1); clear HP15; have n0_ := Aside0.mk (blk_grown (g := gb150) (o := .cells #[.int .i64 a0_0, .slice A0_1 l0_1.length c0_1] 28 (0, 0)) (by (with_reducible repeat (first | refine blk_drewN ?_ _ | refine blk_drew ?_ | refine blk_alloc ?_ _)); exact BK150.out) hg (Kd.R_ne HO153.out BK150.out (by decide))); have n1_ := Aside0.mk (hp_); have n2_ := Aside0.mk ((by rw [hw]; exact below_set (below_set (HB.out) GB9.out) GB9.out : Below w.heap.size w w16)); clear BK150; clear HO153; clear HB; have BK150 := n0_; have HO153 := n1_; have HB := n2_; clear n0_ n1_ n2_; clear hg hw hp_; have hcz17_0 : w16.cell? ⟨gb150, 0, none⟩ = some (.int .i64 a0_0) := (blk_cell BK150.out 0).trans rfl; have hcz17_1 : w16.cell? ⟨gb150, 1, none⟩ = some (.slice A0_1 l0_1.length c0_1) := (blk_cell BK150.out 1).trans rfl; have hfz17_0 := blk_frozen BK150.out 0; have hfz17_1 := blk_frozen BK150.out 1))
          go_loopg [8] k (fun kq v8 w' => ∃ (x7_1 : List (S73)) (x8_1 : Int), v8 = .int .i64 x8_1 ∧ Aside0 (spec_grTable.l0 kq l1 a2 x7_1 x8_1 a0_0 l0_1 = some r) ∧ Aside0 (kq ≤ k) ∧ Aside0 (Kd.R k73 73 w' w.heap.size (fun _ => True) (.slice (some ⟨go9, 0, none⟩) y151.length co14) x7_1) ∧ Aside0 (w'.heap[gb150]? = some (.cells #[.int .i64 a0_0, (.slice A0_1 l0_1.length c0_1)] 28 (0, 0))) ∧ Aside0 (Below w.heap.size w w'))
          case atStart => exact ⟨(y154), (wrap64 ((l0_1.length : Int) - 2)), (by first | rfl | (simp; done) | (simp [*]; done)), H', ⟨Nat.le_refl _⟩, ⟨by (with_reducible repeat (first | apply Kd.R_alloc | apply Kd.R_drewN | apply Kd.R_drew)); exact HO153.out⟩, ⟨by (with_reducible repeat (first | refine blk_drewN ?_ _ | refine blk_drew ?_ | refine blk_alloc ?_ _)); exact BK150.out⟩, ⟨by repeat (first | (with_reducible first | exact HB.out | apply below_alloc | apply pw_below_drewN | apply below_drew1 | refine below_set ?_ GE150.out) | exact HB.out)⟩⟩
          case round =>
            clear H'
            try clear c1
            try clear hx1
            try clear p2
            try clear c4
            try clear c4b0
            try clear c4b1
            try clear c5
            try clear c5b0
            try clear c5b1
            try clear p6
            try clear c7
            try clear c7b0
            try clear c8
            try clear c8b0
            try clear c9
            try clear p9
            try clear q9
            try clear hx9
            try clear hf9
            try clear c15
            try clear hx15
            try clear hf15
            try clear hcz11_0
            try clear hcz11_1
            try clear hcz17_0
            try clear hcz17_1
            try clear hfz11_0
            try clear hfz11_1
            try clear hfz17_0
            try clear hfz17_1
            try clear hx15_0
            try clear hx15_1
            try clear hx9_0
            try clear hx9_1
            try clear p9
            try clear q9
            obtain ⟨x7_1, x8_1, rfl, HA, HK1, HO_7, BK150, HB⟩ := hrel
            have hl7_1 := (Kd.R_reads' HO_7.out).1
            rw [hl7_1] at HO_7
            (try simp only [hl7_1])
            (try simp only [hl7_1] at BK150)
            cases gk with
            | zero => exact absurd HA.out (by simp [spec_grTable.l0])
            | succ k1 =>
              have H := HA.out
              clear HA
              simp only [spec_grTable.l0] at H
              by_cases c18 : x8_1 ≥ 0
              · rw [if_pos c18] at H
                have c18b0 : decide (0 ≤ x8_1) = true := decide_eq_true c18
                clear c18
                by_cases c19 : 0 ≤ x8_1
                · rw [if_pos c19] at H
                  have c19b0 : decide (0 ≤ x8_1) = true := decide_eq_true c19
                  clear c19
                  by_cases c20 : x8_1 < (l0_1.length : Int)
                  · rw [if_pos c20] at H
                    have c20b0 : decide (x8_1 < (l0_1.length : Int)) = true := decide_eq_true c20
                    clear c20
                    have H' := Aside0.mk H
                    clear H
                    have hcz21_0 : wr.cell? ⟨gb150, 0, none⟩ = some (.int .i64 a0_0) := (blk_cell BK150.out 0).trans rfl
                    have hcz21_1 : wr.cell? ⟨gb150, 1, none⟩ = some (.slice A0_1 l0_1.length c0_1) := (blk_cell BK150.out 1).trans rfl
                    have hfz21_0 := blk_frozen BK150.out 0
                    have hfz21_1 := blk_frozen BK150.out 1
                    have p155 : 0 ≤ (x8_1 : Int) := of_decide_eq_true (by first | (with_reducible assumption) | assumption)
                    have q155 : x8_1 < (l0_1.length : Int) := of_decide_eq_true (by first | (with_reducible assumption) | assumption)
                    obtain ⟨ad155, e155, hx155_0⟩ := Kd.at_int HR0_1.out x8_1 p155 q155
                    cases e155
                    replace hx155_0 := (HB.out.cell (World.block_lt_of_cell? w _ hx155_0)).trans hx155_0
                    replace p155 := eq_true p155
                    replace q155 := eq_true q155
                    go_wp2_with (first | ((with_reducible refine gate_dst (N := 10) rfl ?_); refine box_event ?hg (N := 10) ?hd (cs := #[.int .i64 0, .int .i64 0]) (t := 73) ?hr ?_; (case hd => rfl); (case hg => rfl); (case hr => first | (go_simp; done) | (go_simp; rfl)); intro gb156 hg w22 hbox hb; have n0_ := Aside0.mk (Kd.R_below (Kd.R_elderB (by (with_reducible repeat (first | apply Kd.R_alloc | apply Kd.R_drewN | apply Kd.R_drew)); exact HO_7.out) gb156 (Nat.le_of_eq hg.symm)) hb); have n1_ := Aside0.mk (blk_below (g := gb150) (o := .cells #[.int .i64 a0_0, .slice (some ad155) l0_1.length c0_1] 28 (0, 0)) (by (with_reducible repeat (first | refine blk_drewN ?_ _ | refine blk_drew ?_ | refine blk_alloc ?_ _)); exact BK150.out) hb); have n2_ := Aside0.mk (below_step (by repeat (first | (with_reducible first | exact HB.out | apply below_alloc | apply pw_below_drewN | apply below_drew1 | refine below_set ?_ GE150.out) | exact HB.out)) hb); have n3_ := Aside0.mk (hbox); have n4_ := Aside0.mk ((by rw [hg]; exact (below_size (by repeat (first | (with_reducible first | exact HB.out | apply below_alloc | apply pw_below_drewN | apply below_drew1 | refine below_set ?_ GE150.out) | exact HB.out))) : w.heap.size ≤ gb156)); have n5_ := Aside0.mk ((by rw [hg]; exact (below_size (by repeat (first | (with_reducible first | exact HB.out | apply below_alloc | apply pw_below_drewN | apply below_drew1 | refine below_set ?_ GE150.out) | exact HB.out))) : w.heap.size ≤ gb156)); have n6_ := Aside0.mk ((by rw [hg]; exact Nat.ne_of_lt (blk_lt (g := gb150) (o := .cells #[.int .i64 a0_0, .slice (some ad155) l0_1.length c0_1] 28 (0, 0)) (by (with_reducible repeat (first | refine blk_drewN ?_ _ | refine blk_drew ?_ | refine blk_alloc ?_ _)); exact BK150.out)) : gb150 ≠ gb156)); have n7_ := Aside0.mk ((by rw [hg]; exact Nat.ne_of_gt (blk_lt (g := gb150) (o := .cells #[.int .i64 a0_0, .slice (some ad155) l0_1.length c0_1] 28 (0, 0)) (by (with_reducible repeat (first | refine blk_drewN ?_ _ | refine blk_drew ?_ | refine blk_alloc ?_ _)); exact BK150.out)) : gb156 ≠ gb150)); clear HO_7; clear BK150; clear HB; have HO_7 := n0_; have BK150 := n1_; have HB := n2_; have BK156 := n3_; have GW156 := n4_; have GE156 := n5_; have NB150_156 := n6_; have NB156_150 := n7_; clear n0_ n1_ n2_ n3_ n4_ n5_ n6_ n7_; clear hb hbox hg; have hnb23 := NB156_150.out; have hnc23 := NB150_156.out; have hcz24_0 : w22.cell? ⟨gb156, 0, none⟩ = some (.int .i64 0) := (blk_cell BK156.out 0).trans rfl; have hcz24_1 : w22.cell? ⟨gb156, 1, none⟩ = some (.int .i64 0) := (blk_cell BK156.out 1).trans rfl; have hfz24_0 := blk_frozen BK156.out 0; have hfz24_1 := blk_frozen BK156.out 1))
                    go_loopg [40] k1 (fun kq v40 w' => ∃ (x40_2 : Int) (x157000_2 : Int) (x157001_2 : Int), v40 = .int .i64 x40_2 ∧ Aside0 (spec_grTable.l1 kq l1 a2 x7_1 x8_1 (rd l0_1 x8_1) (l1.length : Int) x40_2 a0_0 l0_1 x157000_2 x157001_2 = some r) ∧ Aside0 (kq ≤ k1) ∧ Aside0 (Kd.R k73 73 w' w.heap.size (fun k_ => k_ ≠ gb156) (.slice (some ⟨go9, 0, none⟩) x7_1.length co14) x7_1) ∧ Aside0 (w'.heap[gb150]? = some (.cells #[.int .i64 a0_0, (.slice (some ad155) l0_1.length c0_1)] 28 (0, 0))) ∧ Aside0 (w'.heap[gb156]? = some (.cells #[.int .i64 x157000_2, .int .i64 x157001_2] 73 (0, 0))) ∧ Aside0 (Below w.heap.size w w'))
                    case atStart => exact ⟨(0), (10000), (0), (by first | rfl | (simp; done) | (simp [*]; done)), H', ⟨Nat.le_refl _⟩, ⟨by (try simp only [hl7_1]); (with_reducible repeat (first | apply Kd.R_alloc | apply Kd.R_drewN | apply Kd.R_drew)); exact Kd.R_mono (Kd.R_far (p := ⟨gb156, 1, none⟩) (Kd.R_far (p := ⟨gb156, 0, none⟩) (Kd.R_mono HO_7.out (fun k_ hk => (⟨hk, hk.2⟩ : _ ∧ k_ ≠ gb156))) (fun _ hk => hk.2) (.int .i64 10000)) (fun _ hk => hk.2) (.int .i64 0)) (fun _ hk => hk.1.2)⟩, ⟨by (try simp only [hl7_1]); (with_reducible repeat (first | refine blk_drewN ?_ _ | refine blk_drew ?_ | refine blk_alloc ?_ _)); refine blk_far ?_ NB150_156.out _; (with_reducible repeat (first | refine blk_drewN ?_ _ | refine blk_drew ?_ | refine blk_alloc ?_ _)); refine blk_far ?_ NB150_156.out _; (with_reducible repeat (first | refine blk_drewN ?_ _ | refine blk_drew ?_ | refine blk_alloc ?_ _)); exact BK150.out⟩, ⟨by (try simp only [hl7_1]); (with_reducible repeat (first | refine blk_drewN ?_ _ | refine blk_drew ?_ | refine blk_alloc ?_ _)); refine blk_put (cs := #[.int .i64 10000, .int .i64 0]) ?_ 1 _ rfl; (with_reducible repeat (first | refine blk_drewN ?_ _ | refine blk_drew ?_ | refine blk_alloc ?_ _)); refine blk_put (cs := #[.int .i64 0, .int .i64 0]) ?_ 0 _ rfl; (with_reducible repeat (first | refine blk_drewN ?_ _ | refine blk_drew ?_ | refine blk_alloc ?_ _)); exact BK156.out⟩, ⟨by repeat (first | (with_reducible first | exact HB.out | apply below_alloc | apply pw_below_drewN | apply below_drew1 | refine below_set ?_ GE150.out | refine below_set ?_ GE156.out) | exact HB.out)⟩⟩
                    case round =>
                      clear H'
                      try clear c1
                      try clear p1
                      try clear q1
                      try clear hx1
                      try clear c2
                      try clear p2
                      try clear c4
                      try clear c4b0
                      try clear c4b1
                      try clear c5
                      try clear c5b0
                      try clear c5b1
                      try clear p6
                      try clear c7
                      try clear c7b0
                      try clear c8
                      try clear c8b0
                      try clear c9
                      try clear p9
                      try clear q9
                      try clear hx9
                      try clear hf9
                      try clear c15
                      try clear p15
                      try clear q15
                      try clear hx15
                      try clear hf15
                      try clear c18
                      try clear c18b0
                      try clear c19
                      try clear c19b0
                      try clear c20
                      try clear c20b0
                      try clear c23
                      try clear hcz11_0
                      try clear hcz11_1
                      try clear hcz17_0
                      try clear hcz17_1
                      try clear hcz21_0
                      try clear hcz21_1
                      try clear hcz24_0
                      try clear hcz24_1
                      try clear hfz11_0
                      try clear hfz11_1
                      try clear hfz17_0
                      try clear hfz17_1
                      try clear hfz21_0
                      try clear hfz21_1
                      try clear hfz24_0
                      try clear hfz24_1
                      try clear hx155_0
                      try clear hx15_0
                      try clear hx15_1
                      try clear hx9_0
                      try clear hx9_1
                      try clear p155
                      try clear p2
                      try clear p6
                      try clear p9
                      try clear q155
                      try clear q9
                      obtain ⟨x40_2, x157000_2, x157001_2, rfl, HA, HK2, HO_7, BK150, BK156, HB⟩ := hrel
                      cases gk with
                      | zero => exact absurd HA.out (by simp [spec_grTable.l1])
                      | succ k2 =>
                        have H := HA.out
                        clear HA
                        simp only [spec_grTable.l1] at H
                        by_cases c25 : x40_2 < (l1.length : Int)
                        · rw [if_pos c25] at H
                          have c25b0 : decide (x40_2 < (l1.length : Int)) = true := decide_eq_true c25
                          clear c25
                          have H' := Aside0.mk H
                          clear H
                          go_wp2
                          go_loopg [12] k2 (fun kq v12 w' => ∃ (x12_3 : Int) (x157000_3 : Int) (x157001_3 : Int), v12 = .int .i64 x12_3 ∧ Aside0 (spec_grTable.l2 kq l1 a2 x7_1 x8_1 (rd l0_1 x8_1) x40_2 x12_3 (l1.length : Int) x40_2 a0_0 l0_1 x157000_3 x157001_3 = some r) ∧ Aside0 (kq ≤ k2) ∧ Aside0 (Kd.R k73 73 w' w.heap.size (fun k_ => k_ ≠ gb156) (.slice (some ⟨go9, 0, none⟩) x7_1.length co14) x7_1) ∧ Aside0 (w'.heap[gb150]? = some (.cells #[.int .i64 a0_0, (.slice (some ad155) l0_1.length c0_1)] 28 (0, 0))) ∧ Aside0 (w'.heap[gb156]? = some (.cells #[.int .i64 x157000_3, .int .i64 x157001_3] 73 (0, 0))) ∧ Aside0 (Below w.heap.size w w'))
                          case atStart => exact ⟨(wrap64 (x8_1 + 1)), (x157000_2), (x157001_2), (by first | rfl | (simp; done) | (simp [*]; done)), H', ⟨Nat.le_refl _⟩, ⟨by (try simp only [hl7_1]); (with_reducible repeat (first | apply Kd.R_alloc | apply Kd.R_drewN | apply Kd.R_drew)); exact HO_7.out⟩, ⟨by (try simp only [hl7_1]); (with_reducible repeat (first | refine blk_drewN ?_ _ | refine blk_drew ?_ | refine blk_alloc ?_ _)); exact BK150.out⟩, ⟨by (try simp only [hl7_1]); (with_reducible repeat (first | refine blk_drewN ?_ _ | refine blk_drew ?_ | refine blk_alloc ?_ _)); exact BK156.out⟩, ⟨by repeat (first | (with_reducible first | exact HB.out | apply below_alloc | apply pw_below_drewN | apply below_drew1 | refine below_set ?_ GE150.out | refine below_set ?_ GE156.out) | exact HB.out)⟩⟩
                          case round =>
                            clear H'
                            try clear c1
                            try clear p1
                            try clear q1
                            try clear hx1
                            try clear c2
                            try clear p2
                            try clear c4
                            try clear c4b0
                            try clear c4b1
                            try clear c5
                            try clear c5b0
                            try clear c5b1
                            try clear p6
                            try clear c7
                            try clear c7b0
                            try clear c8
                            try clear c8b0
                            try clear c9
                            try clear p9
                            try clear q9
                            try clear hx9
                            try clear hf9
                            try clear c15
                            try clear p15
                            try clear q15
                            try clear hx15
                            try clear hf15
                            try clear c18
                            try clear c18b0
                            try clear c19
                            try clear c19b0
                            try clear c20
                            try clear c20b0
                            try clear c23
                            try clear c25
                            try clear c25b0
                            try clear hcz11_0
                            try clear hcz11_1
                            try clear hcz17_0
                            try clear hcz17_1
                            try clear hcz21_0
                            try clear hcz21_1
                            try clear hcz24_0
                            try clear hcz24_1
                            try clear hfz11_0
                            try clear hfz11_1
                            try clear hfz17_0
                            try clear hfz17_1
                            try clear hfz21_0
                            try clear hfz21_1
                            try clear hfz24_0
                            try clear hfz24_1
                            try clear hx155_0
                            try clear hx15_0
                            try clear hx15_1
                            try clear hx9_0
                            try clear hx9_1
                            try clear p1
                            try clear p15
                            try clear p155
                            try clear p2
                            try clear p6
                            try clear p9
                            try clear q1
                            try clear q15
                            try clear q155
                            try clear q9
                            obtain ⟨x12_3, x157000_3, x157001_3, rfl, HA, HK3, HO_7, BK150, BK156, HB⟩ := hrel
                            cases gk with
                            | zero => exact absurd HA.out (by simp [spec_grTable.l2])
                            | succ k3 =>
                              have H := HA.out
                              clear HA
                              simp only [spec_grTable.l2] at H
                              by_cases c26 : x12_3 < (l0_1.length : Int)
                              · rw [if_pos c26] at H
                                have c26b0 : decide (x12_3 < (l0_1.length : Int)) = true := decide_eq_true c26
                                clear c26
                                have HC27 := Aside0.mk H
                                clear H
                                have hnb28 := NB150_156.out
                                have hnc28 := NB156_150.out
                                have hcz29_0 : wr.cell? ⟨gb150, 0, none⟩ = some (.int .i64 a0_0) := (blk_cell BK150.out 0).trans rfl
                                have hcz29_1 : wr.cell? ⟨gb150, 1, none⟩ = some (.slice (some ad155) l0_1.length c0_1) := (blk_cell BK150.out 1).trans rfl
                                have hfz29_0 := blk_frozen BK150.out 0
                                have hfz29_1 := blk_frozen BK150.out 1
                                go_upto_region 14 with (fail)
                                go_cut [67] (fun v67 wc => ∃ (kq : Nat) (x67_26 : Bool), v67 = .bool x67_26 ∧ Aside0 (spec_grTable.j3 kq l1 a2 x7_1 x8_1 (rd l0_1 x8_1) x40_2 x12_3 (l1.length : Int) x40_2 x67_26 a0_0 l0_1 x157000_3 x157001_3 = some r) ∧ Aside0 (kq ≤ k3) ∧ Aside0 (Kd.R k73 73 wc w.heap.size (fun k_ => k_ ≠ gb156) (.slice (some ⟨go9, 0, none⟩) x7_1.length co14) x7_1) ∧ Aside0 (wc.heap[gb150]? = some (.cells #[.int .i64 a0_0, (.slice (some ad155) l0_1.length c0_1)] 28 (0, 0))) ∧ Aside0 (wc.heap[gb156]? = some (.cells #[.int .i64 x157000_3, .int .i64 x157001_3] 73 (0, 0))) ∧ Aside0 (Below w.heap.size w wc))
                                case first =>
                                  have H := HC27.out
                                  clear HC27
                                  replace H := Option.bind_eq_some_iff.mp H
                                  obtain ⟨t158, A300, H⟩ := H
                                  replace H : (if t158 = true then (spec_grTable.j3 k3 l1 a2 x7_1 x8_1 (rd l0_1 x8_1) x40_2 x12_3 (l1.length : Int) x40_2 false a0_0 l0_1 x157000_3 x157001_3) else (if 0 ≤ x12_3 then (if 0 ≤ x40_2 then (spec_grTable.j3 k3 l1 a2 x7_1 x8_1 (rd l0_1 x8_1) x40_2 x12_3 (l1.length : Int) x40_2 ((rd l0_1 x12_3) == (Go.bits .or .i64 (rd l0_1 x8_1) (shl .i64 1 x40_2))) a0_0 l0_1 x157000_3 x157001_3) else (none)) else (none))) = some r := H
                                  have A30 := Aside0.mk A300
                                  clear A300
                                  by_cases c31 : t158 = true
                                  · subst c31
                                    have H1 : (spec_grTable.j3 k3 l1 a2 x7_1 x8_1 (rd l0_1 x8_1) x40_2 x12_3 (l1.length : Int) x40_2 false a0_0 l0_1 x157000_3 x157001_3) = some r := by rw [if_pos rfl] at H; exact H
                                    clear H
                                    have H := H1
                                    clear H1
                                    have H' := Aside0.mk H
                                    clear H
                                    try go_wp2
                                    have n0_ := Aside0.mk (Kd.R_drew HO_7.out)
                                    have n1_ := Aside0.mk (blk_drew BK150.out)
                                    have n2_ := Aside0.mk (blk_drew BK156.out)
                                    have n3_ := Aside0.mk (below_drew1 HB.out)
                                    clear HO_7
                                    clear BK150
                                    clear BK156
                                    clear HB
                                    have HO_7 := n0_
                                    have BK150 := n1_
                                    have BK156 := n2_
                                    have HB := n3_
                                    clear n0_ n1_ n2_ n3_
                                    refine start_ (n := 16) (S := fun w' => True) (ds := []) #[false, false, false, false, false, false, false, false, false, false, false, false, false, false, false, false] (by kernel_rfl) rfl rfl trivial (fun hHeld => ?_); refine with_tabW spec_grTable.tab14 spec_grTable.bits14 (fun HT_ HW_ => ?_)
                                    generalize wr.drew = w32 at HO_7 BK150 BK156 HB hHeld ⊢
                                    refine pure_ (i := 0) (N := some 52) (v := ?_) (a' := ?_) #[true, false, false, false, false, false, false, false, false, false, false, false, false, false, false, false] rfl rfl (any_of HT_.out (by kernel_rfl)) (fun _ _ _ h => h) (Or.inl ⟨by rfl, ?_⟩) ?_ ?_
                                    rotate_left
                                    · intro w'
                                      go_simp
                                      with_reducible rfl
                                    rotate_left
                                    · simp only [Act.put, List.setIfInBounds_toArray, List.set_cons_zero, List.set_cons_succ, i64_w, i32_w]
                                      rfl
                                    refine pure_ (i := 1) (N := some 53) (v := ?_) (a' := ?_) #[true, true, false, false, false, false, false, false, false, false, false, false, false, false, false, false] rfl rfl (any_of HT_.out (by kernel_rfl)) (fun _ _ _ h => h) (Or.inl ⟨by rfl, ?_⟩) ?_ ?_
                                    rotate_left
                                    · intro w'
                                      go_simp
                                      with_reducible rfl
                                    rotate_left
                                    · simp only [Act.put, List.setIfInBounds_toArray, List.set_cons_zero, List.set_cons_succ, i64_w, i32_w]
                                      rfl
                                    refine one_ (i := 2) (N := some 54) #[true, true, true, false, false, false, false, false, false, false, false, false, false, false, false, false] rfl rfl (one_of HT_.out (by kernel_rfl)) (by decide) (fun K hK => ?_)
                                    refine goes_ Try.func102 (by kernel_rfl) rfl #[.int .i64 (rd l0_1 x8_1), .int .i64 x40_2] (by rfl) rfl rfl (by (try simp only [List.map_toArray, List.map_cons, List.map_nil]); first | done | rfl | (simp only [List.length_drop, List.length_take]; rfl)) ?_
                                    with_reducible refine (spec_spIn.calls (rd l0_1 x8_1) x40_2 true _ A30.out).mono ?_
                                    rintro e w' ⟨rfl, ⟨nd, rfl⟩⟩
                                    refine ⟨_, rfl, ?_⟩
                                    refine hK.out _ _ trivial (fun hHeld => ?_)
                                    clear hK K
                                    refine norm_ (a' := ?_) ?_ ?_
                                    rotate_left
                                    · show Act.put _ (some 54) _ = _
                                      simp only [Act.put, List.setIfInBounds_toArray, List.set_cons_zero, List.set_cons_succ, i64_w, i32_w]
                                      rfl
                                    refine pure_ (i := 3) (N := some 55) (v := ?_) (a' := ?_) #[true, true, true, true, false, false, false, false, false, false, false, false, false, false, false, false] rfl rfl (any_of HT_.out (by kernel_rfl)) (fun _ _ _ h => h) (Or.inl ⟨by rfl, ?_⟩) ?_ ?_
                                    rotate_left
                                    · intro w'
                                      go_simp
                                      with_reducible rfl
                                    rotate_left
                                    · simp only [Act.put, List.setIfInBounds_toArray, List.set_cons_zero, List.set_cons_succ, i64_w, i32_w]
                                      rfl
                                    refine pure_ (i := 4) (N := some 56) (v := ?_) (a' := ?_) #[true, true, true, true, true, false, false, false, false, false, false, false, false, false, false, false] rfl rfl (any_of HT_.out (by kernel_rfl)) (fun _ _ _ h => h) (Or.inl ⟨by rfl, ?_⟩) ?_ ?_
                                    rotate_left
                                    · intro w'
                                      go_simp
                                      with_reducible rfl
                                    rotate_left
                                    · simp only [Act.put, List.setIfInBounds_toArray, List.set_cons_zero, List.set_cons_succ, i64_w, i32_w]
                                      rfl
                                    refine pure_ (i := 5) (N := some 57) (v := undef) (a' := ?_) #[true, true, true, true, true, true, false, false, false, false, false, false, false, false, false, false] rfl rfl (any_of HT_.out (by kernel_rfl)) (fun _ _ _ h => h) (Or.inr ⟨by rfl, rfl⟩) ?_ ?_
                                    rotate_left
                                    · simp only [Act.put, List.setIfInBounds_toArray, List.set_cons_zero, List.set_cons_succ, i64_w, i32_w]
                                      rfl
                                    refine pure_ (i := 6) (N := some 58) (v := undef) (a' := ?_) #[true, true, true, true, true, true, true, false, false, false, false, false, false, false, false, false] rfl rfl (any_of HT_.out (by kernel_rfl)) (fun _ _ _ h => h) (Or.inr ⟨by rfl, rfl⟩) ?_ ?_
                                    rotate_left
                                    · simp only [Act.put, List.setIfInBounds_toArray, List.set_cons_zero, List.set_cons_succ, i64_w, i32_w]
                                      rfl
                                    refine pure_ (i := 7) (N := some 59) (v := undef) (a' := ?_) #[true, true, true, true, true, true, true, true, false, false, false, false, false, false, false, false] rfl rfl (any_of HT_.out (by kernel_rfl)) (fun _ _ _ h => h) (Or.inr ⟨by rfl, rfl⟩) ?_ ?_
                                    rotate_left
                                    · simp only [Act.put, List.setIfInBounds_toArray, List.set_cons_zero, List.set_cons_succ, i64_w, i32_w]
                                      rfl
                                    refine pure_ (i := 8) (N := some 60) (v := undef) (a' := ?_) #[true, true, true, true, true, true, true, true, true, false, false, false, false, false, false, false] rfl rfl (any_of HT_.out (by kernel_rfl)) (fun _ _ _ h => h) (Or.inr ⟨by rfl, rfl⟩) ?_ ?_
                                    rotate_left
                                    · simp only [Act.put, List.setIfInBounds_toArray, List.set_cons_zero, List.set_cons_succ, i64_w, i32_w]
                                      rfl
                                    refine pure_ (i := 9) (N := some 61) (v := undef) (a' := ?_) #[true, true, true, true, true, true, true, true, true, true, false, false, false, false, false, false] rfl rfl (any_of HT_.out (by kernel_rfl)) (fun _ _ _ h => h) (Or.inr ⟨by rfl, rfl⟩) ?_ ?_
                                    rotate_left
                                    · simp only [Act.put, List.setIfInBounds_toArray, List.set_cons_zero, List.set_cons_succ, i64_w, i32_w]
                                      rfl
                                    refine pure_ (i := 10) (N := some 62) (v := undef) (a' := ?_) #[true, true, true, true, true, true, true, true, true, true, true, false, false, false, false, false] rfl rfl (any_of HT_.out (by kernel_rfl)) (fun _ _ _ h => h) (Or.inr ⟨by rfl, rfl⟩) ?_ ?_
                                    rotate_left
                                    · simp only [Act.put, List.setIfInBounds_toArray, List.set_cons_zero, List.set_cons_succ, i64_w, i32_w]
                                      rfl
                                    refine pure_ (i := 11) (N := some 63) (v := undef) (a' := ?_) #[true, true, true, true, true, true, true, true, true, true, true, true, false, false, false, false] rfl rfl (any_of HT_.out (by kernel_rfl)) (fun _ _ _ h => h) (Or.inr ⟨by rfl, rfl⟩) ?_ ?_
                                    rotate_left
                                    · simp only [Act.put, List.setIfInBounds_toArray, List.set_cons_zero, List.set_cons_succ, i64_w, i32_w]
                                      rfl
                                    refine pure_ (i := 12) (N := some 64) (v := undef) (a' := ?_) #[true, true, true, true, true, true, true, true, true, true, true, true, true, false, false, false] rfl rfl (any_of HT_.out (by kernel_rfl)) (fun _ _ _ h => h) (Or.inr ⟨by rfl, rfl⟩) ?_ ?_
                                    rotate_left
                                    · simp only [Act.put, List.setIfInBounds_toArray, List.set_cons_zero, List.set_cons_succ, i64_w, i32_w]
                                      rfl
                                    refine pure_ (i := 13) (N := some 65) (v := undef) (a' := ?_) #[true, true, true, true, true, true, true, true, true, true, true, true, true, true, false, false] rfl rfl (any_of HT_.out (by kernel_rfl)) (fun _ _ _ h => h) (Or.inr ⟨by rfl, rfl⟩) ?_ ?_
                                    rotate_left
                                    · simp only [Act.put, List.setIfInBounds_toArray, List.set_cons_zero, List.set_cons_succ, i64_w, i32_w]
                                      rfl
                                    refine pure_ (i := 14) (N := some 66) (v := undef) (a' := ?_) #[true, true, true, true, true, true, true, true, true, true, true, true, true, true, true, false] rfl rfl (any_of HT_.out (by kernel_rfl)) (fun _ _ _ h => h) (Or.inr ⟨by rfl, rfl⟩) ?_ ?_
                                    rotate_left
                                    · simp only [Act.put, List.setIfInBounds_toArray, List.set_cons_zero, List.set_cons_succ, i64_w, i32_w]
                                      rfl
                                    refine pure_ (i := 15) (N := some 67) (v := ?_) (a' := ?_) #[true, true, true, true, true, true, true, true, true, true, true, true, true, true, true, true] rfl rfl (any_of HT_.out (by kernel_rfl)) (fun _ _ _ h => h) (Or.inl ⟨by rfl, ?_⟩) ?_ ?_
                                    rotate_left
                                    · intro w'
                                      go_simp
                                      with_reducible rfl
                                    rotate_left
                                    · simp only [Act.put, List.setIfInBounds_toArray, List.set_cons_zero, List.set_cons_succ, i64_w, i32_w]
                                      rfl
                                    refine done_ (done_of HT_.out (by kernel_rfl)) ?_
                                    try go_wp2
                                    go_meet
                                    case rel => exact ⟨_, (false), (by first | rfl | (simp; done) | (simp [*]; done)), H', ⟨by have := HK1.out; have := HK2.out; have := HK3.out; first | omega | exact Nat.le_refl _⟩, ⟨by (try simp only [hl7_1]); (with_reducible repeat (first | apply Kd.R_alloc | apply Kd.R_drewN | apply Kd.R_drew)); exact HO_7.out⟩, ⟨by (try simp only [hl7_1]); (with_reducible repeat (first | refine blk_drewN ?_ _ | refine blk_drew ?_ | refine blk_alloc ?_ _)); exact BK150.out⟩, ⟨by (try simp only [hl7_1]); (with_reducible repeat (first | refine blk_drewN ?_ _ | refine blk_drew ?_ | refine blk_alloc ?_ _)); exact BK156.out⟩, ⟨by repeat (first | (with_reducible first | exact HB.out | apply below_alloc | apply pw_below_drewN | apply below_drew1 | refine below_set ?_ GE150.out | refine below_set ?_ GE156.out) | exact HB.out)⟩⟩
                                  · replace c31 := Bool.eq_false_iff.mpr c31
                                    subst c31
                                    have H1 : (if 0 ≤ x12_3 then (if 0 ≤ x40_2 then (spec_grTable.j3 k3 l1 a2 x7_1 x8_1 (rd l0_1 x8_1) x40_2 x12_3 (l1.length : Int) x40_2 ((rd l0_1 x12_3) == (Go.bits .or .i64 (rd l0_1 x8_1) (shl .i64 1 x40_2))) a0_0 l0_1 x157000_3 x157001_3) else (none)) else (none)) = some r := by rw [if_neg (show ¬ (false = true) by decide)] at H; exact H
                                    clear H
                                    have H := H1
                                    clear H1
                                    by_cases c33 : 0 ≤ x12_3
                                    · rw [if_pos c33] at H
                                      have c33b0 : decide (0 ≤ x12_3) = true := decide_eq_true c33
                                      clear c33
                                      (first | rw [c33b0] | (simp only [i64_w, i32_w]; rw [c33b0]) | skip)
                                      by_cases c34 : 0 ≤ x40_2
                                      · rw [if_pos c34] at H
                                        have c34b0 := eq_true c34
                                        have c34b1 : decide (0 ≤ x40_2) = true := decide_eq_true c34
                                        clear c34
                                        obtain ⟨ji35, hji35⟩ : ∃ j_ : Int, (shl .i64 1 x40_2) = j_ := ⟨_, rfl⟩
                                        replace H : (spec_grTable.j3 k3 l1 a2 x7_1 x8_1 (rd l0_1 x8_1) x40_2 x12_3 (l1.length : Int) x40_2 ((rd l0_1 x12_3) == (Go.bits .or .i64 (rd l0_1 x8_1) (ji35))) a0_0 l0_1 x157000_3 x157001_3) = some r := by first | (rw [hji35] at H; exact H) | (simp only [hji35] at H ⊢; exact H)
                                        (try rw [hji35] at A30)
                                        have hji35_ : (IntKind.i64.wrap (1 * 2 ^ min x40_2.toNat 64)) = ji35 := hji35
                                        have hji35z : x40_2 ≤ 64 → (IntKind.i64.wrap (1 * 2 ^ x40_2.toNat)) = ji35 := shl_small hji35
                                        have hji35u : (IntKind.i64.wrap (2 ^ min x40_2.toNat 64)) = ji35 := by have h_ := hji35_; rw [Int.one_mul] at h_; exact h_
                                        have hji35v : x40_2 ≤ 64 → (IntKind.i64.wrap (2 ^ x40_2.toNat)) = ji35 := fun hle_ => by have h_ := hji35z hle_; rw [Int.one_mul] at h_; exact h_
                                        have hji35y : (wrap64 (1 * 2 ^ min x40_2.toNat 64)) = ji35 := (i64_w _).symm.trans hji35_
                                        have hji35x : x40_2 ≤ 64 → (wrap64 (1 * 2 ^ x40_2.toNat)) = ji35 := fun h_ => (i64_w _).symm.trans (hji35z h_)
                                        have H' := Aside0.mk H
                                        clear H
                                        try go_wp2
                                        have n0_ := Aside0.mk (Kd.R_drew HO_7.out)
                                        have n1_ := Aside0.mk (blk_drew BK150.out)
                                        have n2_ := Aside0.mk (blk_drew BK156.out)
                                        have n3_ := Aside0.mk (below_drew1 HB.out)
                                        clear HO_7
                                        clear BK150
                                        clear BK156
                                        clear HB
                                        have HO_7 := n0_
                                        have BK150 := n1_
                                        have BK156 := n2_
                                        have HB := n3_
                                        clear n0_ n1_ n2_ n3_
                                        have p159 : 0 ≤ (x12_3 : Int) := of_decide_eq_true (by first | (with_reducible assumption) | assumption)
                                        have q159 : x12_3 < (l0_1.length : Int) := of_decide_eq_true (by first | (with_reducible assumption) | assumption)
                                        obtain ⟨ad159, e159, hx159_0⟩ := Kd.at_int HR0_1.out x12_3 p159 q159
                                        have hw159_0 := hx159_0
                                        obtain rfl : ad155 = ad159 := (by injection e159)
                                        replace hx159_0 := (HB.out.cell (World.block_lt_of_cell? w _ hx159_0)).trans hx159_0
                                        replace p159 := eq_true p159
                                        replace q159 := eq_true q159
                                        refine start_ (n := 16) (S := fun w' => w'.cell? ⟨gb150, 0, none⟩ = some (.int .i64 a0_0) ∧ w'.cell? ⟨gb150, 1, none⟩ = some (.slice (some ad155) l0_1.length c0_1) ∧ w'.cell? (ad155.add (x12_3).toNat) = some (.int .i64 (rd l0_1 x12_3))) (ds := []) #[false, false, false, false, false, false, false, false, false, false, false, false, false, false, false, false] (by kernel_rfl) rfl rfl ⟨(blk_cell BK150.out 0).trans rfl, (blk_cell BK150.out 1).trans rfl, ((HB.out.cell (World.block_lt_of_cell? w _ hw159_0)).trans hw159_0)⟩ (fun hHeld => ?_); refine with_tabW spec_grTable.tab14 spec_grTable.bits14 (fun HT_ HW_ => ?_)
                                        generalize wr.drew = w36 at HO_7 BK150 BK156 HB hx159_0 hHeld ⊢
                                        refine pure_ (i := 0) (N := some 52) (v := ?_) (a' := ?_) #[true, false, false, false, false, false, false, false, false, false, false, false, false, false, false, false] rfl rfl (any_of HT_.out (by kernel_rfl)) (fun _ _ _ h => h) (Or.inl ⟨by rfl, ?_⟩) ?_ ?_
                                        rotate_left
                                        · intro w'
                                          go_simp
                                          with_reducible rfl
                                        rotate_left
                                        · simp only [Act.put, List.setIfInBounds_toArray, List.set_cons_zero, List.set_cons_succ, i64_w, i32_w]
                                          rfl
                                        refine pure_ (i := 1) (N := some 53) (v := ?_) (a' := ?_) #[true, true, false, false, false, false, false, false, false, false, false, false, false, false, false, false] rfl rfl (any_of HT_.out (by kernel_rfl)) (fun _ _ _ h => h) (Or.inl ⟨by rfl, ?_⟩) ?_ ?_
                                        rotate_left
                                        · intro w'
                                          go_simp
                                          with_reducible rfl
                                        rotate_left
                                        · simp only [Act.put, List.setIfInBounds_toArray, List.set_cons_zero, List.set_cons_succ, i64_w, i32_w]
                                          rfl
                                        refine one_ (i := 2) (N := some 54) #[true, true, true, false, false, false, false, false, false, false, false, false, false, false, false, false] rfl rfl (one_of HT_.out (by kernel_rfl)) (by decide) (fun K hK => ?_)
                                        refine goes_ Try.func102 (by kernel_rfl) rfl #[.int .i64 (rd l0_1 x8_1), .int .i64 x40_2] (by rfl) rfl rfl (by (try simp only [List.map_toArray, List.map_cons, List.map_nil]); first | done | rfl | (simp only [List.length_drop, List.length_take]; rfl)) ?_
                                        with_reducible refine (spec_spIn.calls (rd l0_1 x8_1) x40_2 false _ A30.out).mono ?_
                                        rintro e w' ⟨rfl, ⟨nd, rfl⟩⟩
                                        refine ⟨_, rfl, ?_⟩
                                        refine hK.out _ _ ⟨(blk_cell BK150.out 0).trans rfl, (blk_cell BK150.out 1).trans rfl, ((HB.out.cell (World.block_lt_of_cell? w _ hw159_0)).trans hw159_0)⟩ (fun hHeld => ?_)
                                        clear hK K
                                        refine norm_ (a' := ?_) ?_ ?_
                                        rotate_left
                                        · show Act.put _ (some 54) _ = _
                                          simp only [Act.put, List.setIfInBounds_toArray, List.set_cons_zero, List.set_cons_succ, i64_w, i32_w]
                                          rfl
                                        refine pure_ (i := 3) (N := some 55) (v := ?_) (a' := ?_) #[true, true, true, true, false, false, false, false, false, false, false, false, false, false, false, false] rfl rfl (any_of HT_.out (by kernel_rfl)) (fun _ _ _ h => h) (Or.inl ⟨by rfl, ?_⟩) ?_ ?_
                                        rotate_left
                                        · intro w'
                                          go_simp
                                          with_reducible rfl
                                        rotate_left
                                        · simp only [Act.put, List.setIfInBounds_toArray, List.set_cons_zero, List.set_cons_succ, i64_w, i32_w]
                                          rfl
                                        refine pure_ (i := 4) (N := some 56) (v := ?_) (a' := ?_) #[true, true, true, true, true, false, false, false, false, false, false, false, false, false, false, false] rfl rfl (any_of HT_.out (by kernel_rfl)) (fun _ _ _ h => h) (Or.inl ⟨by rfl, ?_⟩) ?_ ?_
                                        rotate_left
                                        · intro w'
                                          go_simp
                                          with_reducible rfl
                                        rotate_left
                                        · simp only [Act.put, List.setIfInBounds_toArray, List.set_cons_zero, List.set_cons_succ, i64_w, i32_w]
                                          rfl
                                        refine pure_ (i := 5) (N := some 57) (v := ?_) (a' := ?_) #[true, true, true, true, true, true, false, false, false, false, false, false, false, false, false, false] rfl rfl (any_of HT_.out (by kernel_rfl)) (fun _ _ _ h => h) (Or.inl ⟨by rfl, ?_⟩) ?_ ?_
                                        rotate_left
                                        · intro w'
                                          go_simp
                                          with_reducible rfl
                                        rotate_left
                                        · simp only [Act.put, List.setIfInBounds_toArray, List.set_cons_zero, List.set_cons_succ, i64_w, i32_w]
                                          rfl
                                        refine pure_ (i := 7) (N := some 59) (v := ?_) (a' := ?_) #[true, true, true, true, true, true, false, true, false, false, false, false, false, false, false, false] rfl rfl (any_of HT_.out (by kernel_rfl)) (fun _ _ _ h => h) (Or.inl ⟨by rfl, ?_⟩) ?_ ?_
                                        rotate_left
                                        · intro w'
                                          go_simp
                                          with_reducible rfl
                                        rotate_left
                                        · simp only [Act.put, List.setIfInBounds_toArray, List.set_cons_zero, List.set_cons_succ, i64_w, i32_w]
                                          rfl
                                        refine pure_ (i := 10) (N := some 62) (v := ?_) (a' := ?_) #[true, true, true, true, true, true, false, true, false, false, true, false, false, false, false, false] rfl rfl (any_of HT_.out (by kernel_rfl)) (fun _ _ _ h => h) (Or.inl ⟨by rfl, ?_⟩) ?_ ?_
                                        rotate_left
                                        · intro w'
                                          go_simp
                                          with_reducible rfl
                                        rotate_left
                                        · simp only [Act.put, List.setIfInBounds_toArray, List.set_cons_zero, List.set_cons_succ, i64_w, i32_w]
                                          rfl
                                        refine pure_ (i := 11) (N := some 63) (v := ?_) (a' := ?_) #[true, true, true, true, true, true, false, true, false, false, true, true, false, false, false, false] rfl rfl (any_of HT_.out (by kernel_rfl)) (fun _ _ _ h => h) (Or.inl ⟨by rfl, ?_⟩) ?_ ?_
                                        rotate_left
                                        · intro w'
                                          go_simp
                                          with_reducible rfl
                                        rotate_left
                                        · simp only [Act.put, List.setIfInBounds_toArray, List.set_cons_zero, List.set_cons_succ, i64_w, i32_w]
                                          rfl
                                        refine pure_ (i := 12) (N := some 64) (v := ?_) (a' := ?_) #[true, true, true, true, true, true, false, true, false, false, true, true, true, false, false, false] rfl rfl (any_of HT_.out (by kernel_rfl)) (fun _ _ _ h => h) (Or.inl ⟨by rfl, ?_⟩) ?_ ?_
                                        rotate_left
                                        · intro w'
                                          go_simp
                                          with_reducible rfl
                                        rotate_left
                                        · simp only [Act.put, List.setIfInBounds_toArray, List.set_cons_zero, List.set_cons_succ, i64_w, i32_w]
                                          rfl
                                        refine pure_ (i := 13) (N := some 65) (v := ?_) (a' := ?_) #[true, true, true, true, true, true, false, true, false, false, true, true, true, true, false, false] rfl rfl (any_of HT_.out (by kernel_rfl)) (fun _ _ _ h => h) (Or.inl ⟨by rfl, ?_⟩) ?_ ?_
                                        rotate_left
                                        · intro w'
                                          go_simp
                                          with_reducible rfl
                                        rotate_left
                                        · simp only [Act.put, List.setIfInBounds_toArray, List.set_cons_zero, List.set_cons_succ, i64_w, i32_w]
                                          rfl
                                        refine take_ (i := 6) (N := some 58) (v := ?_) (a' := ?_) #[true, true, true, true, true, true, true, true, false, false, true, true, true, true, false, false] rfl rfl (take_ofW HT_.out HW_.out (by kernel_rfl)) (fun _ _ _ h => h) (Or.inl ⟨by rfl, ?_⟩) hHeld ?_ ?_
                                        rotate_left
                                        · rintro w' ⟨s0, s1, s2⟩
                                          go_simp
                                          with_reducible rfl
                                        rotate_left
                                        · simp only [Act.put, List.setIfInBounds_toArray, List.set_cons_zero, List.set_cons_succ, i64_w, i32_w]
                                          rfl
                                        refine pure_ (i := 8) (N := some 60) (v := ?_) (a' := ?_) #[true, true, true, true, true, true, true, true, true, false, true, true, true, true, false, false] rfl rfl (any_of HT_.out (by kernel_rfl)) (fun _ _ _ h => h) (Or.inl ⟨by rfl, ?_⟩) ?_ ?_
                                        rotate_left
                                        · intro w'
                                          go_simp
                                          with_reducible rfl
                                        rotate_left
                                        · simp only [Act.put, List.setIfInBounds_toArray, List.set_cons_zero, List.set_cons_succ, i64_w, i32_w]
                                          rfl
                                        refine take_ (i := 9) (N := some 61) (v := ?_) (a' := ?_) #[true, true, true, true, true, true, true, true, true, true, true, true, true, true, false, false] rfl rfl (take_ofW HT_.out HW_.out (by kernel_rfl)) (fun _ _ _ h => h) (Or.inl ⟨by rfl, ?_⟩) hHeld ?_ ?_
                                        rotate_left
                                        · rintro w' ⟨s0, s1, s2⟩
                                          go_simp
                                          with_reducible rfl
                                        rotate_left
                                        · simp only [Act.put, List.setIfInBounds_toArray, List.set_cons_zero, List.set_cons_succ, i64_w, i32_w]
                                          rfl
                                        refine pure_ (i := 14) (N := some 66) (v := ?_) (a' := ?_) #[true, true, true, true, true, true, true, true, true, true, true, true, true, true, true, false] rfl rfl (any_of HT_.out (by kernel_rfl)) (fun _ _ _ h => h) (Or.inl ⟨by rfl, ?_⟩) ?_ ?_
                                        rotate_left
                                        · intro w'
                                          go_simp
                                          with_reducible rfl
                                        rotate_left
                                        · simp only [Act.put, List.setIfInBounds_toArray, List.set_cons_zero, List.set_cons_succ, i64_w, i32_w]
                                          rfl
                                        refine pure_ (i := 15) (N := some 67) (v := ?_) (a' := ?_) #[true, true, true, true, true, true, true, true, true, true, true, true, true, true, true, true] rfl rfl (any_of HT_.out (by kernel_rfl)) (fun _ _ _ h => h) (Or.inl ⟨by rfl, ?_⟩) ?_ ?_
                                        rotate_left
                                        · intro w'
                                          go_simp
                                          with_reducible rfl
                                        rotate_left
                                        · simp only [Act.put, List.setIfInBounds_toArray, List.set_cons_zero, List.set_cons_succ, i64_w, i32_w]
                                          rfl
                                        refine done_ (done_of HT_.out (by kernel_rfl)) ?_
                                        try go_wp2
                                        go_meet
                                        case rel => exact ⟨_, (((rd l0_1 x12_3) == (Go.bits .or .i64 (rd l0_1 x8_1) (ji35)))), (by first | rfl | (simp; done) | (simp only [← hji35] <;> (first | rfl | simp)) | (simp [*]; done)), H', ⟨by have := HK1.out; have := HK2.out; have := HK3.out; first | omega | exact Nat.le_refl _⟩, ⟨by (try simp only [hl7_1]); (with_reducible repeat (first | apply Kd.R_alloc | apply Kd.R_drewN | apply Kd.R_drew)); exact HO_7.out⟩, ⟨by (try simp only [hl7_1]); (with_reducible repeat (first | refine blk_drewN ?_ _ | refine blk_drew ?_ | refine blk_alloc ?_ _)); exact BK150.out⟩, ⟨by (try simp only [hl7_1]); (with_reducible repeat (first | refine blk_drewN ?_ _ | refine blk_drew ?_ | refine blk_alloc ?_ _)); exact BK156.out⟩, ⟨by repeat (first | (with_reducible first | exact HB.out | apply below_alloc | apply pw_below_drewN | apply below_drew1 | refine below_set ?_ GE150.out | refine below_set ?_ GE156.out) | exact HB.out)⟩⟩
                                      · rw [if_neg c34] at H
                                        exact absurd H (by simp)
                                    · rw [if_neg c33] at H
                                      exact absurd H (by simp)
                                case rest =>
                                  clear HC27
                                  try clear c1
                                  try clear p1
                                  try clear q1
                                  try clear hx1
                                  try clear c2
                                  try clear p2
                                  try clear c3
                                  try clear c4
                                  try clear c4b0
                                  try clear c4b1
                                  try clear c5
                                  try clear c5b0
                                  try clear c5b1
                                  try clear p6
                                  try clear c7
                                  try clear c7b0
                                  try clear c8
                                  try clear c8b0
                                  try clear c9
                                  try clear p9
                                  try clear q9
                                  try clear hx9
                                  try clear hf9
                                  try clear c10
                                  try clear c15
                                  try clear p15
                                  try clear q15
                                  try clear hx15
                                  try clear hf15
                                  try clear c18
                                  try clear c18b0
                                  try clear c19
                                  try clear c19b0
                                  try clear c20
                                  try clear c20b0
                                  try clear c23
                                  try clear c25
                                  try clear c25b0
                                  try clear c26
                                  try clear c26b0
                                  try clear c28
                                  try clear c31
                                  try clear c33
                                  try clear c33b0
                                  try clear c34
                                  try clear c34b0
                                  try clear c34b1
                                  try clear hcz11_0
                                  try clear hcz11_1
                                  try clear hcz17_0
                                  try clear hcz17_1
                                  try clear hcz21_0
                                  try clear hcz21_1
                                  try clear hcz24_0
                                  try clear hcz24_1
                                  try clear hcz29_0
                                  try clear hcz29_1
                                  try clear hfz11_0
                                  try clear hfz11_1
                                  try clear hfz17_0
                                  try clear hfz17_1
                                  try clear hfz21_0
                                  try clear hfz21_1
                                  try clear hfz24_0
                                  try clear hfz24_1
                                  try clear hfz29_0
                                  try clear hfz29_1
                                  try clear hx155_0
                                  try clear hx159_0
                                  try clear hx15_0
                                  try clear hx15_1
                                  try clear hx9_0
                                  try clear hx9_1
                                  try clear p1
                                  try clear p15
                                  try clear p155
                                  try clear p159
                                  try clear p2
                                  try clear p6
                                  try clear p9
                                  try clear q1
                                  try clear q15
                                  try clear q155
                                  try clear q159
                                  try clear q9
                                  obtain ⟨kq, x67_26, rfl, HA, HJ26, HO_7, BK150, BK156, HB⟩ := hcut
                                  cases kq with
                                  | zero => exact absurd HA.out (by simp [spec_grTable.j3])
                                  | succ kj26 =>
                                    have H := HA.out
                                    clear HA
                                    simp only [spec_grTable.j3] at H
                                    by_cases c37 : x67_26 = true
                                    · subst c37
                                      have H1 : ((spec_grCost.f kj26 l1 (rd l0_1 x8_1) x40_2).bind fun t160 => (if 0 ≤ x12_3 then (if x12_3 < (x7_1.length : Int) then ((spec_l1Most.f t160 ((rd_T73 x7_1 x12_3).f0)).bind fun t162 => ((spec_l1Least.f x157000_3 t162).bind fun t163 => (if t160 ≤ a2 then (spec_grTable.l2 kj26 l1 a2 x7_1 x8_1 (rd l0_1 x8_1) x40_2 (wrap64 (x12_3 + 1)) (l1.length : Int) x40_2 a0_0 l0_1 t163 (wrap64 (x157001_3 + ((rd_T73 x7_1 x12_3).f1)))) else (spec_grTable.l2 kj26 l1 a2 x7_1 x8_1 (rd l0_1 x8_1) x40_2 (wrap64 (x12_3 + 1)) (l1.length : Int) x40_2 a0_0 l0_1 t163 x157001_3)))) else (none)) else (none))) = some r := by rw [if_pos rfl] at H; exact H
                                      clear H
                                      have H := H1
                                      clear H1
                                      replace H := Option.bind_eq_some_iff.mp H
                                      obtain ⟨t160, A380, H⟩ := H
                                      replace H : (if 0 ≤ x12_3 then (if x12_3 < (x7_1.length : Int) then ((spec_l1Most.f t160 ((rd_T73 x7_1 x12_3).f0)).bind fun t162 => ((spec_l1Least.f x157000_3 t162).bind fun t163 => (if t160 ≤ a2 then (spec_grTable.l2 kj26 l1 a2 x7_1 x8_1 (rd l0_1 x8_1) x40_2 (wrap64 (x12_3 + 1)) (l1.length : Int) x40_2 a0_0 l0_1 t163 (wrap64 (x157001_3 + ((rd_T73 x7_1 x12_3).f1)))) else (spec_grTable.l2 kj26 l1 a2 x7_1 x8_1 (rd l0_1 x8_1) x40_2 (wrap64 (x12_3 + 1)) (l1.length : Int) x40_2 a0_0 l0_1 t163 x157001_3)))) else (none)) else (none)) = some r := H
                                      have A38 := Aside0.mk A380
                                      clear A380
                                      by_cases c39 : 0 ≤ x12_3
                                      · rw [if_pos c39] at H
                                        have c39b0 : decide (0 ≤ x12_3) = true := decide_eq_true c39
                                        clear c39
                                        by_cases c40 : x12_3 < (x7_1.length : Int)
                                        · rw [if_pos c40] at H
                                          have c40b0 : decide (x12_3 < (x7_1.length : Int)) = true := decide_eq_true c40
                                          clear c40
                                          replace H := Option.bind_eq_some_iff.mp H
                                          obtain ⟨t162, A410, H⟩ := H
                                          replace H : ((spec_l1Least.f x157000_3 t162).bind fun t163 => (if t160 ≤ a2 then (spec_grTable.l2 kj26 l1 a2 x7_1 x8_1 (rd l0_1 x8_1) x40_2 (wrap64 (x12_3 + 1)) (l1.length : Int) x40_2 a0_0 l0_1 t163 (wrap64 (x157001_3 + ((rd_T73 x7_1 x12_3).f1)))) else (spec_grTable.l2 kj26 l1 a2 x7_1 x8_1 (rd l0_1 x8_1) x40_2 (wrap64 (x12_3 + 1)) (l1.length : Int) x40_2 a0_0 l0_1 t163 x157001_3))) = some r := H
                                          have A41 := Aside0.mk A410
                                          clear A410
                                          replace H := Option.bind_eq_some_iff.mp H
                                          obtain ⟨t163, A420, H⟩ := H
                                          replace H : (if t160 ≤ a2 then (spec_grTable.l2 kj26 l1 a2 x7_1 x8_1 (rd l0_1 x8_1) x40_2 (wrap64 (x12_3 + 1)) (l1.length : Int) x40_2 a0_0 l0_1 t163 (wrap64 (x157001_3 + ((rd_T73 x7_1 x12_3).f1)))) else (spec_grTable.l2 kj26 l1 a2 x7_1 x8_1 (rd l0_1 x8_1) x40_2 (wrap64 (x12_3 + 1)) (l1.length : Int) x40_2 a0_0 l0_1 t163 x157001_3)) = some r := H
                                          have A42 := Aside0.mk A420
                                          clear A420
                                          by_cases c43 : t160 ≤ a2
                                          · rw [if_pos c43] at H
                                            have c43b0 : decide (t160 ≤ a2) = true := decide_eq_true c43
                                            clear c43
                                            have H' := Aside0.mk H
                                            clear H
                                            try go_wp2_with (first | ((with_reducible refine gate_callee (f := 103) rfl ?_); refine goesL_ (some 71) rfl rfl Try.func103 (by kernel_rfl) rfl #[.slice A1 l1.length c1, .int .i64 (rd l0_1 x8_1), .int .i64 x40_2] rfl (by (try simp only [List.map_toArray, List.map_cons, List.map_nil]); first | done | rfl | (simp only [List.length_drop, List.length_take]; rfl)) ?_; (with_reducible refine (spec_grCost.calls kj26 _ _ l1 (rd l0_1 x8_1) x40_2 t160 _ ?side1 ?side2 A38.out).mono ?_); (case side1 => repeat (first | exact (Kd.C_below HR1.out HB.out) | (with_reducible refine Kd.C_alloc ?_ _) | (with_reducible refine Kd.C_drewN ?_ _) | (with_reducible refine Kd.C_drew ?_))); (case side2 => exact HC1.out); rintro e w44 ⟨rfl, hb⟩; refine ⟨_, rfl, ?_⟩; have n0_ := Aside0.mk (Kd.R_below (by (with_reducible repeat (first | apply Kd.R_alloc | apply Kd.R_drewN | apply Kd.R_drew)); exact HO_7.out) hb); have n1_ := Aside0.mk (blk_below (g := gb150) (o := .cells #[.int .i64 a0_0, .slice (some ad155) l0_1.length c0_1] 28 (0, 0)) (by (with_reducible repeat (first | refine blk_drewN ?_ _ | refine blk_drew ?_ | refine blk_alloc ?_ _)); exact BK150.out) hb); have n2_ := Aside0.mk (blk_below (g := gb156) (o := .cells #[.int .i64 x157000_3, .int .i64 x157001_3] 73 (0, 0)) (by (with_reducible repeat (first | refine blk_drewN ?_ _ | refine blk_drew ?_ | refine blk_alloc ?_ _)); exact BK156.out) hb); have n3_ := Aside0.mk (below_step (by repeat (first | (with_reducible first | exact HB.out | apply below_alloc | apply pw_below_drewN | apply below_drew1 | refine below_set ?_ GE150.out | refine below_set ?_ GE156.out) | exact HB.out)) hb); clear HO_7; clear BK150; clear BK156; clear HB; have HO_7 := n0_; have BK150 := n1_; have BK156 := n2_; have HB := n3_; clear n0_ n1_ n2_ n3_; (try clear hb); (try clear hb2); (try clear hk); (try clear hi)))
                                            have n0_ := Aside0.mk (Kd.R_drew HO_7.out)
                                            have n1_ := Aside0.mk (blk_drew BK150.out)
                                            have n2_ := Aside0.mk (blk_drew BK156.out)
                                            have n3_ := Aside0.mk (below_drew1 HB.out)
                                            clear HO_7
                                            clear BK150
                                            clear BK156
                                            clear HB
                                            have HO_7 := n0_
                                            have BK150 := n1_
                                            have BK156 := n2_
                                            have HB := n3_
                                            clear n0_ n1_ n2_ n3_
                                            have p161 : 0 ≤ (x12_3 : Int) := of_decide_eq_true (by first | (with_reducible assumption) | assumption)
                                            have q161 : x12_3 < (x7_1.length : Int) := of_decide_eq_true (by first | (with_reducible assumption) | assumption)
                                            obtain ⟨ad161, e161, hx161_0, hx161_1⟩ := at_T73 (Kd.R_reads' HO_7.out).2.2 x12_3 p161 q161
                                            obtain rfl : (⟨go9, 0, none⟩ : Addr) = ad161 := (by injection e161)
                                            (first | simp only [add_plain] at hx161_0 | simp only [add_at] at hx161_0 | simp only [Addr.add, Nat.zero_add] at hx161_0 | skip)
                                            (first | simp only [add_plain] at hx161_1 | simp only [add_at] at hx161_1 | simp only [Addr.add, Nat.zero_add] at hx161_1 | skip)
                                            replace p161 := eq_true p161
                                            replace q161 := eq_true q161
                                            refine start_ (n := 12) (S := fun w' => w'.cell? ⟨gb156, 0, none⟩ = some (.int .i64 x157000_3) ∧ w'.cell? ⟨gb156, 1, none⟩ = some (.int .i64 x157001_3) ∧ w'.cell? ⟨go9, (x12_3).toNat * 2, none⟩ = some (.int .i64 ((rd_T73 x7_1 x12_3).f0)) ∧ w'.cell? ⟨go9, (x12_3).toNat * 2 + 1, none⟩ = some (.int .i64 ((rd_T73 x7_1 x12_3).f1))) (ds := [11]) #[false, false, false, false, false, false, false, false, false, false, false, false] (by kernel_rfl) rfl rfl ⟨(blk_cell BK156.out 0).trans rfl, (blk_cell BK156.out 1).trans rfl, hx161_0, hx161_1⟩ (fun hHeld => ?_); refine with_tabW spec_grTable.tab16 spec_grTable.bits16 (fun HT_ HW_ => ?_)
                                            generalize w44.drew = w45 at HO_7 BK150 BK156 HB hx161_0 hx161_1 hHeld ⊢
                                            refine pure_ (i := 0) (N := some 72) (v := ?_) (a' := ?_) #[true, false, false, false, false, false, false, false, false, false, false, false] rfl rfl (any_of HT_.out (by kernel_rfl)) (fun _ _ _ h => h) (Or.inl ⟨by rfl, ?_⟩) ?_ ?_
                                            rotate_left
                                            · intro w'
                                              go_simp
                                              with_reducible rfl
                                            rotate_left
                                            · simp only [Act.put, List.setIfInBounds_toArray, List.set_cons_zero, List.set_cons_succ, i64_w, i32_w]
                                              rfl
                                            refine pure_ (i := 2) (N := some 74) (v := ?_) (a' := ?_) #[true, false, true, false, false, false, false, false, false, false, false, false] rfl rfl (any_of HT_.out (by kernel_rfl)) (fun _ _ _ h => h) (Or.inl ⟨by rfl, ?_⟩) ?_ ?_
                                            rotate_left
                                            · intro w'
                                              go_simp
                                              with_reducible rfl
                                            rotate_left
                                            · simp only [Act.put, List.setIfInBounds_toArray, List.set_cons_zero, List.set_cons_succ, i64_w, i32_w]
                                              rfl
                                            refine pure_ (i := 3) (N := some 75) (v := ?_) (a' := ?_) #[true, false, true, true, false, false, false, false, false, false, false, false] rfl rfl (any_of HT_.out (by kernel_rfl)) (fun _ _ _ h => h) (Or.inl ⟨by rfl, ?_⟩) ?_ ?_
                                            rotate_left
                                            · intro w'
                                              go_simp
                                              with_reducible rfl
                                            rotate_left
                                            · simp only [Act.put, List.setIfInBounds_toArray, List.set_cons_zero, List.set_cons_succ, i64_w, i32_w]
                                              rfl
                                            refine pure_ (i := 4) (N := some 76) (v := ?_) (a' := ?_) #[true, false, true, true, true, false, false, false, false, false, false, false] rfl rfl (any_of HT_.out (by kernel_rfl)) (fun _ _ _ h => h) (Or.inl ⟨by rfl, ?_⟩) ?_ ?_
                                            rotate_left
                                            · intro w'
                                              go_simp
                                              with_reducible rfl
                                            rotate_left
                                            · simp only [Act.put, List.setIfInBounds_toArray, List.set_cons_zero, List.set_cons_succ, i64_w, i32_w]
                                              rfl
                                            refine pure_ (i := 5) (N := some 77) (v := ?_) (a' := ?_) #[true, false, true, true, true, true, false, false, false, false, false, false] rfl rfl (any_of HT_.out (by kernel_rfl)) (fun _ _ _ h => h) (Or.inl ⟨by rfl, ?_⟩) ?_ ?_
                                            rotate_left
                                            · intro w'
                                              go_simp
                                              with_reducible rfl
                                            rotate_left
                                            · simp only [Act.put, List.setIfInBounds_toArray, List.set_cons_zero, List.set_cons_succ, i64_w, i32_w]
                                              rfl
                                            refine pure_ (i := 6) (N := some 78) (v := ?_) (a' := ?_) #[true, false, true, true, true, true, true, false, false, false, false, false] rfl rfl (any_of HT_.out (by kernel_rfl)) (fun _ _ _ h => h) (Or.inl ⟨by rfl, ?_⟩) ?_ ?_
                                            rotate_left
                                            · intro w'
                                              go_simp
                                              with_reducible rfl
                                            rotate_left
                                            · simp only [Act.put, List.setIfInBounds_toArray, List.set_cons_zero, List.set_cons_succ, i64_w, i32_w]
                                              rfl
                                            refine take_ (i := 1) (N := some 73) (v := ?_) (a' := ?_) #[true, true, true, true, true, true, true, false, false, false, false, false] rfl rfl (take_ofW HT_.out HW_.out (by kernel_rfl)) (fun _ _ _ h => h) (Or.inl ⟨by rfl, ?_⟩) hHeld ?_ ?_
                                            rotate_left
                                            · rintro w' ⟨s0, s1, s2, s3⟩
                                              go_simp
                                              with_reducible rfl
                                            rotate_left
                                            · simp only [Act.put, List.setIfInBounds_toArray, List.set_cons_zero, List.set_cons_succ, i64_w, i32_w]
                                              rfl
                                            refine take_ (i := 7) (N := some 79) (v := ?_) (a' := ?_) #[true, true, true, true, true, true, true, true, false, false, false, false] rfl rfl (take_ofW HT_.out HW_.out (by kernel_rfl)) (fun _ _ _ h => h) (Or.inl ⟨by rfl, ?_⟩) hHeld ?_ ?_
                                            rotate_left
                                            · rintro w' ⟨s0, s1, s2, s3⟩
                                              go_simp
                                              with_reducible rfl
                                            rotate_left
                                            · simp only [Act.put, List.setIfInBounds_toArray, List.set_cons_zero, List.set_cons_succ, i64_w, i32_w]
                                              rfl
                                            refine one_ (i := 8) (N := some 80) #[true, true, true, true, true, true, true, true, true, false, false, false] rfl rfl (one_of HT_.out (by kernel_rfl)) (by decide) (fun K hK => ?_)
                                            refine goes_ Try.func104 (by kernel_rfl) rfl #[.int .i64 t160, .int .i64 ((rd_T73 x7_1 x12_3).f0)] (by rfl) rfl rfl (by (try simp only [List.map_toArray, List.map_cons, List.map_nil]); first | done | rfl | (simp only [List.length_drop, List.length_take]; rfl)) ?_
                                            with_reducible refine (spec_l1Most.calls t160 ((rd_T73 x7_1 x12_3).f0) t162 _ A41.out).mono ?_
                                            rintro e w' ⟨rfl, ⟨nd, rfl⟩⟩
                                            refine ⟨_, rfl, ?_⟩
                                            refine hK.out _ _ ⟨(blk_cell BK156.out 0).trans rfl, (blk_cell BK156.out 1).trans rfl, hHeld.2.2.1, hHeld.2.2.2⟩ (fun hHeld => ?_)
                                            clear hK K
                                            refine norm_ (a' := ?_) ?_ ?_
                                            rotate_left
                                            · show Act.put _ (some 80) _ = _
                                              simp only [Act.put, List.setIfInBounds_toArray, List.set_cons_zero, List.set_cons_succ, i64_w, i32_w]
                                              rfl
                                            refine one_ (i := 9) (N := some 81) #[true, true, true, true, true, true, true, true, true, true, false, false] rfl rfl (one_of HT_.out (by kernel_rfl)) (by decide) (fun K hK => ?_)
                                            refine goes_ Try.func68 (by kernel_rfl) rfl #[.int .i64 x157000_3, .int .i64 t162] (by rfl) rfl rfl (by (try simp only [List.map_toArray, List.map_cons, List.map_nil]); first | done | rfl | (simp only [List.length_drop, List.length_take]; rfl)) ?_
                                            with_reducible refine (spec_l1Least.calls x157000_3 t162 t163 _ A42.out).mono ?_
                                            rintro e w' ⟨rfl, ⟨nd, rfl⟩⟩
                                            refine ⟨_, rfl, ?_⟩
                                            refine hK.out _ _ ⟨(blk_cell BK156.out 0).trans rfl, (blk_cell BK156.out 1).trans rfl, hHeld.2.2.1, hHeld.2.2.2⟩ (fun hHeld => ?_)
                                            clear hK K
                                            refine norm_ (a' := ?_) ?_ ?_
                                            rotate_left
                                            · show Act.put _ (some 81) _ = _
                                              simp only [Act.put, List.setIfInBounds_toArray, List.set_cons_zero, List.set_cons_succ, i64_w, i32_w]
                                              rfl
                                            refine pure_ (i := 10) (N := some 82) (v := ?_) (a' := ?_) #[true, true, true, true, true, true, true, true, true, true, true, false] rfl rfl (any_of HT_.out (by kernel_rfl)) (fun _ _ _ h => h) (Or.inl ⟨by rfl, ?_⟩) ?_ ?_
                                            rotate_left
                                            · intro w'
                                              go_simp
                                              with_reducible rfl
                                            rotate_left
                                            · simp only [Act.put, List.setIfInBounds_toArray, List.set_cons_zero, List.set_cons_succ, i64_w, i32_w]
                                              rfl
                                            refine last_ (i := 11) (N := none) #[true, true, true, true, true, true, true, true, true, true, true, true] rfl rfl (one_of HT_.out (by kernel_rfl)) (by decide) (fun K hK => ?_)
                                            have hs46 : w45.cell? ⟨gb156, 0, none⟩ = some (.int .i64 x157000_3) := (blk_cell BK156.out 0).trans rfl
                                            have hfs46 := blk_frozen BK156.out 0
                                            have hns46_0 := NB150_156.out
                                            have hms46_0 := NB156_150.out
                                            refine skip_ (w1 := ?_) (by rfl) rfl ?_ ?_
                                            rotate_left
                                            · go_simp
                                              rfl
                                            refine hK.out _ _ ?_
                                            clear hK K
                                            refine done_ (done_of HT_.out (by kernel_rfl)) ?_
                                            try go_wp2
                                            have n0_ : Aside0 (Kd.R k73 73 (w45.setCell ⟨gb156, 0, none⟩ (.int .i64 t163)) w.heap.size (fun k_ => k_ ≠ gb156) (.slice (some ⟨go9, 0, none⟩) x7_1.length co14) x7_1) := ⟨by (with_reducible repeat (first | apply Kd.R_alloc | apply Kd.R_drewN | apply Kd.R_drew)); exact Kd.R_mono (Kd.R_far (p := ⟨gb156, 0, none⟩) (Kd.R_mono HO_7.out (fun k_ hk => (⟨hk, hk⟩ : _ ∧ k_ ≠ gb156))) (fun _ hk => hk.2) (.int .i64 t163)) (fun _ hk => hk.1)⟩
                                            have n1_ : Aside0 ((w45.setCell ⟨gb156, 0, none⟩ (.int .i64 t163)).heap[gb150]? = some (.cells #[.int .i64 a0_0, .slice (some ad155) l0_1.length c0_1] 28 (0, 0))) := ⟨by (with_reducible repeat (first | refine blk_drewN ?_ _ | refine blk_drew ?_ | refine blk_alloc ?_ _)); refine blk_far ?_ NB150_156.out _; (with_reducible repeat (first | refine blk_drewN ?_ _ | refine blk_drew ?_ | refine blk_alloc ?_ _)); exact BK150.out⟩
                                            have n2_ : Aside0 ((w45.setCell ⟨gb156, 0, none⟩ (.int .i64 t163)).heap[gb156]? = some (.cells #[.int .i64 t163, .int .i64 x157001_3] 73 (0, 0))) := ⟨by (with_reducible repeat (first | refine blk_drewN ?_ _ | refine blk_drew ?_ | refine blk_alloc ?_ _)); refine blk_put (cs := #[.int .i64 x157000_3, .int .i64 x157001_3]) ?_ 0 _ rfl; (with_reducible repeat (first | refine blk_drewN ?_ _ | refine blk_drew ?_ | refine blk_alloc ?_ _)); exact BK156.out⟩
                                            have n3_ : Aside0 (Below w.heap.size w (w45.setCell ⟨gb156, 0, none⟩ (.int .i64 t163))) := ⟨by repeat (first | (with_reducible first | exact HB.out | apply below_alloc | apply pw_below_drewN | apply below_drew1 | refine below_set ?_ GE150.out | refine below_set ?_ GE156.out) | exact HB.out)⟩
                                            (try clear HO_7)
                                            (try clear BK150)
                                            (try clear BK156)
                                            (try clear HB)
                                            (try rw [show ∀ (w_ : World) (n_ : Nat) (a_ : Addr) (v_ : Value), (w_.drewN n_).setCell a_ v_ = (w_.setCell a_ v_).drewN n_ from fun _ _ _ _ => rfl])
                                            generalize (w45.setCell ⟨gb156, 0, none⟩ (.int .i64 t163)) = w47 at n0_ n1_ n2_ n3_ ⊢
                                            have HO_7 := n0_
                                            have BK150 := n1_
                                            have BK156 := n2_
                                            have HB := n3_
                                            clear n0_ n1_ n2_ n3_
                                            (try (rw [drewN_self w47]; generalize hq_ : World.drewN w47 _ = w47; have n0_ : Aside0 (Kd.R k73 73 w47 w.heap.size (fun k_ => k_ ≠ gb156) (.slice (some ⟨go9, 0, none⟩) x7_1.length co14) x7_1) := ⟨by rw [← hq_]; exact (by (with_reducible repeat (first | apply Kd.R_alloc | apply Kd.R_drewN | apply Kd.R_drew)); exact HO_7.out)⟩; have n1_ : Aside0 (w47.heap[gb150]? = some (.cells #[.int .i64 a0_0, .slice (some ad155) l0_1.length c0_1] 28 (0, 0))) := ⟨by rw [← hq_]; exact (by (with_reducible repeat (first | refine blk_drewN ?_ _ | refine blk_drew ?_ | refine blk_alloc ?_ _)); exact BK150.out)⟩; have n2_ : Aside0 (w47.heap[gb156]? = some (.cells #[.int .i64 t163, .int .i64 x157001_3] 73 (0, 0))) := ⟨by rw [← hq_]; exact (by (with_reducible repeat (first | refine blk_drewN ?_ _ | refine blk_drew ?_ | refine blk_alloc ?_ _)); exact BK156.out)⟩; have n3_ : Aside0 (Below w.heap.size w w47) := ⟨by rw [← hq_]; exact (by repeat (first | (with_reducible first | exact HB.out | apply below_alloc | apply pw_below_drewN | apply below_drew1 | refine below_set ?_ GE150.out | refine below_set ?_ GE156.out) | exact HB.out))⟩; clear HO_7 BK150 BK156 HB hq_; have HO_7 := n0_; have BK150 := n1_; have BK156 := n2_; have HB := n3_; clear n0_ n1_ n2_ n3_))
                                            have n0_ := Aside0.mk (Kd.R_drew HO_7.out)
                                            have n1_ := Aside0.mk (blk_drew BK150.out)
                                            have n2_ := Aside0.mk (blk_drew BK156.out)
                                            have n3_ := Aside0.mk (below_drew1 HB.out)
                                            clear HO_7
                                            clear BK150
                                            clear BK156
                                            clear HB
                                            have HO_7 := n0_
                                            have BK150 := n1_
                                            have BK156 := n2_
                                            have HB := n3_
                                            clear n0_ n1_ n2_ n3_
                                            have p164 : 0 ≤ (x12_3 : Int) := of_decide_eq_true (by first | (with_reducible assumption) | assumption)
                                            have q164 : x12_3 < (x7_1.length : Int) := of_decide_eq_true (by first | (with_reducible assumption) | assumption)
                                            obtain ⟨ad164, e164, hx164_0, hx164_1⟩ := at_T73 (Kd.R_reads' HO_7.out).2.2 x12_3 p164 q164
                                            obtain rfl : (⟨go9, 0, none⟩ : Addr) = ad164 := (by injection e164)
                                            (first | simp only [add_plain] at hx164_0 | simp only [add_at] at hx164_0 | simp only [Addr.add, Nat.zero_add] at hx164_0 | skip)
                                            (first | simp only [add_plain] at hx164_1 | simp only [add_at] at hx164_1 | simp only [Addr.add, Nat.zero_add] at hx164_1 | skip)
                                            replace p164 := eq_true p164
                                            replace q164 := eq_true q164
                                            refine start_ (n := 10) (S := fun w' => w'.cell? ⟨gb156, 0, none⟩ = some (.int .i64 t163) ∧ w'.cell? ⟨gb156, 1, none⟩ = some (.int .i64 x157001_3) ∧ w'.cell? ⟨go9, (x12_3).toNat * 2, none⟩ = some (.int .i64 ((rd_T73 x7_1 x12_3).f0)) ∧ w'.cell? ⟨go9, (x12_3).toNat * 2 + 1, none⟩ = some (.int .i64 ((rd_T73 x7_1 x12_3).f1))) (ds := [9]) #[false, false, false, false, false, false, false, false, false, false] (by kernel_rfl) rfl rfl ⟨(blk_cell BK156.out 0).trans rfl, (blk_cell BK156.out 1).trans rfl, hx164_0, hx164_1⟩ (fun hHeld => ?_); refine with_tabW spec_grTable.tab18 spec_grTable.bits18 (fun HT_ HW_ => ?_)
                                            generalize w47.drew = w48 at HO_7 BK150 BK156 HB hx164_0 hx164_1 hHeld ⊢
                                            refine pure_ (i := 0) (N := some 86) (v := ?_) (a' := ?_) #[true, false, false, false, false, false, false, false, false, false] rfl rfl (any_of HT_.out (by kernel_rfl)) (fun _ _ _ h => h) (Or.inl ⟨by rfl, ?_⟩) ?_ ?_
                                            rotate_left
                                            · intro w'
                                              go_simp
                                              with_reducible rfl
                                            rotate_left
                                            · simp only [Act.put, List.setIfInBounds_toArray, List.set_cons_zero, List.set_cons_succ, i64_w, i32_w]
                                              rfl
                                            refine pure_ (i := 2) (N := some 88) (v := ?_) (a' := ?_) #[true, false, true, false, false, false, false, false, false, false] rfl rfl (any_of HT_.out (by kernel_rfl)) (fun _ _ _ h => h) (Or.inl ⟨by rfl, ?_⟩) ?_ ?_
                                            rotate_left
                                            · intro w'
                                              go_simp
                                              with_reducible rfl
                                            rotate_left
                                            · simp only [Act.put, List.setIfInBounds_toArray, List.set_cons_zero, List.set_cons_succ, i64_w, i32_w]
                                              rfl
                                            refine pure_ (i := 3) (N := some 89) (v := ?_) (a' := ?_) #[true, false, true, true, false, false, false, false, false, false] rfl rfl (any_of HT_.out (by kernel_rfl)) (fun _ _ _ h => h) (Or.inl ⟨by rfl, ?_⟩) ?_ ?_
                                            rotate_left
                                            · intro w'
                                              go_simp
                                              with_reducible rfl
                                            rotate_left
                                            · simp only [Act.put, List.setIfInBounds_toArray, List.set_cons_zero, List.set_cons_succ, i64_w, i32_w]
                                              rfl
                                            refine pure_ (i := 4) (N := some 90) (v := ?_) (a' := ?_) #[true, false, true, true, true, false, false, false, false, false] rfl rfl (any_of HT_.out (by kernel_rfl)) (fun _ _ _ h => h) (Or.inl ⟨by rfl, ?_⟩) ?_ ?_
                                            rotate_left
                                            · intro w'
                                              go_simp
                                              with_reducible rfl
                                            rotate_left
                                            · simp only [Act.put, List.setIfInBounds_toArray, List.set_cons_zero, List.set_cons_succ, i64_w, i32_w]
                                              rfl
                                            refine pure_ (i := 5) (N := some 91) (v := ?_) (a' := ?_) #[true, false, true, true, true, true, false, false, false, false] rfl rfl (any_of HT_.out (by kernel_rfl)) (fun _ _ _ h => h) (Or.inl ⟨by rfl, ?_⟩) ?_ ?_
                                            rotate_left
                                            · intro w'
                                              go_simp
                                              with_reducible rfl
                                            rotate_left
                                            · simp only [Act.put, List.setIfInBounds_toArray, List.set_cons_zero, List.set_cons_succ, i64_w, i32_w]
                                              rfl
                                            refine take_ (i := 1) (N := some 87) (v := ?_) (a' := ?_) #[true, true, true, true, true, true, false, false, false, false] rfl rfl (take_ofW HT_.out HW_.out (by kernel_rfl)) (fun _ _ _ h => h) (Or.inl ⟨by rfl, ?_⟩) hHeld ?_ ?_
                                            rotate_left
                                            · rintro w' ⟨s0, s1, s2, s3⟩
                                              go_simp
                                              with_reducible rfl
                                            rotate_left
                                            · simp only [Act.put, List.setIfInBounds_toArray, List.set_cons_zero, List.set_cons_succ, i64_w, i32_w]
                                              rfl
                                            refine take_ (i := 6) (N := some 92) (v := ?_) (a' := ?_) #[true, true, true, true, true, true, true, false, false, false] rfl rfl (take_ofW HT_.out HW_.out (by kernel_rfl)) (fun _ _ _ h => h) (Or.inl ⟨by rfl, ?_⟩) hHeld ?_ ?_
                                            rotate_left
                                            · rintro w' ⟨s0, s1, s2, s3⟩
                                              go_simp
                                              with_reducible rfl
                                            rotate_left
                                            · simp only [Act.put, List.setIfInBounds_toArray, List.set_cons_zero, List.set_cons_succ, i64_w, i32_w]
                                              rfl
                                            refine pure_ (i := 7) (N := some 93) (v := ?_) (a' := ?_) #[true, true, true, true, true, true, true, true, false, false] rfl rfl (any_of HT_.out (by kernel_rfl)) (fun _ _ _ h => h) (Or.inl ⟨by rfl, ?_⟩) ?_ ?_
                                            rotate_left
                                            · intro w'
                                              go_simp
                                              with_reducible rfl
                                            rotate_left
                                            · simp only [Act.put, List.setIfInBounds_toArray, List.set_cons_zero, List.set_cons_succ, i64_w, i32_w]
                                              rfl
                                            refine pure_ (i := 8) (N := some 94) (v := ?_) (a' := ?_) #[true, true, true, true, true, true, true, true, true, false] rfl rfl (any_of HT_.out (by kernel_rfl)) (fun _ _ _ h => h) (Or.inl ⟨by rfl, ?_⟩) ?_ ?_
                                            rotate_left
                                            · intro w'
                                              go_simp
                                              with_reducible rfl
                                            rotate_left
                                            · simp only [Act.put, List.setIfInBounds_toArray, List.set_cons_zero, List.set_cons_succ, i64_w, i32_w]
                                              rfl
                                            refine last_ (i := 9) (N := none) #[true, true, true, true, true, true, true, true, true, true] rfl rfl (one_of HT_.out (by kernel_rfl)) (by decide) (fun K hK => ?_)
                                            have hs49 : w48.cell? ⟨gb156, 1, none⟩ = some (.int .i64 x157001_3) := (blk_cell BK156.out 1).trans rfl
                                            have hfs49 := blk_frozen BK156.out 1
                                            have hns49_0 := NB150_156.out
                                            have hms49_0 := NB156_150.out
                                            refine skip_ (w1 := ?_) (by rfl) rfl ?_ ?_
                                            rotate_left
                                            · go_simp
                                              rfl
                                            refine hK.out _ _ ?_
                                            clear hK K
                                            refine done_ (done_of HT_.out (by kernel_rfl)) ?_
                                            try go_wp2
                                            go_roundg kj26
                                            case measure => have := HK1.out; have := HK2.out; have := HK3.out; have := HJ26.out; omega
                                            case rel => exact ⟨(wrap64 (x12_3 + 1)), (t163), (wrap64 (x157001_3 + ((rd_T73 x7_1 x12_3).f1))), (by first | rfl | (simp; done) | (simp [*]; done)), H', ⟨by have := HK1.out; have := HK2.out; have := HK3.out; have := HJ26.out; omega⟩, ⟨by (try simp only [hl7_1]); (with_reducible repeat (first | apply Kd.R_alloc | apply Kd.R_drewN | apply Kd.R_drew)); exact Kd.R_mono (Kd.R_far (p := ⟨gb156, 1, none⟩) (Kd.R_mono HO_7.out (fun k_ hk => (⟨hk, hk⟩ : _ ∧ k_ ≠ gb156))) (fun _ hk => hk.2) (.int .i64 (wrap64 (x157001_3 + ((rd_T73 x7_1 x12_3).f1))))) (fun _ hk => hk.1)⟩, ⟨by (try simp only [hl7_1]); (with_reducible repeat (first | refine blk_drewN ?_ _ | refine blk_drew ?_ | refine blk_alloc ?_ _)); refine blk_far ?_ NB150_156.out _; (with_reducible repeat (first | refine blk_drewN ?_ _ | refine blk_drew ?_ | refine blk_alloc ?_ _)); exact BK150.out⟩, ⟨by (try simp only [hl7_1]); (with_reducible repeat (first | refine blk_drewN ?_ _ | refine blk_drew ?_ | refine blk_alloc ?_ _)); refine blk_put (cs := #[.int .i64 t163, .int .i64 x157001_3]) ?_ 1 _ rfl; (with_reducible repeat (first | refine blk_drewN ?_ _ | refine blk_drew ?_ | refine blk_alloc ?_ _)); exact BK156.out⟩, ⟨by repeat (first | (with_reducible first | exact HB.out | apply below_alloc | apply pw_below_drewN | apply below_drew1 | refine below_set ?_ GE150.out | refine below_set ?_ GE156.out) | exact HB.out)⟩⟩
                                          · rw [if_neg c43] at H
                                            have c43b0 : decide (t160 ≤ a2) = false := decide_eq_false c43
                                            clear c43
                                            have H' := Aside0.mk H
                                            clear H
                                            try go_wp2_with (first | ((with_reducible refine gate_callee (f := 103) rfl ?_); refine goesL_ (some 71) rfl rfl Try.func103 (by kernel_rfl) rfl #[.slice A1 l1.length c1, .int .i64 (rd l0_1 x8_1), .int .i64 x40_2] rfl (by (try simp only [List.map_toArray, List.map_cons, List.map_nil]); first | done | rfl | (simp only [List.length_drop, List.length_take]; rfl)) ?_; (with_reducible refine (spec_grCost.calls kj26 _ _ l1 (rd l0_1 x8_1) x40_2 t160 _ ?side1 ?side2 A38.out).mono ?_); (case side1 => repeat (first | exact (Kd.C_below HR1.out HB.out) | (with_reducible refine Kd.C_alloc ?_ _) | (with_reducible refine Kd.C_drewN ?_ _) | (with_reducible refine Kd.C_drew ?_))); (case side2 => exact HC1.out); rintro e w50 ⟨rfl, hb⟩; refine ⟨_, rfl, ?_⟩; have n0_ := Aside0.mk (Kd.R_below (by (with_reducible repeat (first | apply Kd.R_alloc | apply Kd.R_drewN | apply Kd.R_drew)); exact HO_7.out) hb); have n1_ := Aside0.mk (blk_below (g := gb150) (o := .cells #[.int .i64 a0_0, .slice (some ad155) l0_1.length c0_1] 28 (0, 0)) (by (with_reducible repeat (first | refine blk_drewN ?_ _ | refine blk_drew ?_ | refine blk_alloc ?_ _)); exact BK150.out) hb); have n2_ := Aside0.mk (blk_below (g := gb156) (o := .cells #[.int .i64 x157000_3, .int .i64 x157001_3] 73 (0, 0)) (by (with_reducible repeat (first | refine blk_drewN ?_ _ | refine blk_drew ?_ | refine blk_alloc ?_ _)); exact BK156.out) hb); have n3_ := Aside0.mk (below_step (by repeat (first | (with_reducible first | exact HB.out | apply below_alloc | apply pw_below_drewN | apply below_drew1 | refine below_set ?_ GE150.out | refine below_set ?_ GE156.out) | exact HB.out)) hb); clear HO_7; clear BK150; clear BK156; clear HB; have HO_7 := n0_; have BK150 := n1_; have BK156 := n2_; have HB := n3_; clear n0_ n1_ n2_ n3_; (try clear hb); (try clear hb2); (try clear hk); (try clear hi)))
                                            have n0_ := Aside0.mk (Kd.R_drew HO_7.out)
                                            have n1_ := Aside0.mk (blk_drew BK150.out)
                                            have n2_ := Aside0.mk (blk_drew BK156.out)
                                            have n3_ := Aside0.mk (below_drew1 HB.out)
                                            clear HO_7
                                            clear BK150
                                            clear BK156
                                            clear HB
                                            have HO_7 := n0_
                                            have BK150 := n1_
                                            have BK156 := n2_
                                            have HB := n3_
                                            clear n0_ n1_ n2_ n3_
                                            have p161 : 0 ≤ (x12_3 : Int) := of_decide_eq_true (by first | (with_reducible assumption) | assumption)
                                            have q161 : x12_3 < (x7_1.length : Int) := of_decide_eq_true (by first | (with_reducible assumption) | assumption)
                                            obtain ⟨ad161, e161, hx161_0, hx161_1⟩ := at_T73 (Kd.R_reads' HO_7.out).2.2 x12_3 p161 q161
                                            obtain rfl : (⟨go9, 0, none⟩ : Addr) = ad161 := (by injection e161)
                                            (first | simp only [add_plain] at hx161_0 | simp only [add_at] at hx161_0 | simp only [Addr.add, Nat.zero_add] at hx161_0 | skip)
                                            (first | simp only [add_plain] at hx161_1 | simp only [add_at] at hx161_1 | simp only [Addr.add, Nat.zero_add] at hx161_1 | skip)
                                            replace p161 := eq_true p161
                                            replace q161 := eq_true q161
                                            refine start_ (n := 12) (S := fun w' => w'.cell? ⟨gb156, 0, none⟩ = some (.int .i64 x157000_3) ∧ w'.cell? ⟨gb156, 1, none⟩ = some (.int .i64 x157001_3) ∧ w'.cell? ⟨go9, (x12_3).toNat * 2, none⟩ = some (.int .i64 ((rd_T73 x7_1 x12_3).f0)) ∧ w'.cell? ⟨go9, (x12_3).toNat * 2 + 1, none⟩ = some (.int .i64 ((rd_T73 x7_1 x12_3).f1))) (ds := [11]) #[false, false, false, false, false, false, false, false, false, false, false, false] (by kernel_rfl) rfl rfl ⟨(blk_cell BK156.out 0).trans rfl, (blk_cell BK156.out 1).trans rfl, hx161_0, hx161_1⟩ (fun hHeld => ?_); refine with_tabW spec_grTable.tab16 spec_grTable.bits16 (fun HT_ HW_ => ?_)
                                            generalize w50.drew = w51 at HO_7 BK150 BK156 HB hx161_0 hx161_1 hHeld ⊢
                                            refine pure_ (i := 0) (N := some 72) (v := ?_) (a' := ?_) #[true, false, false, false, false, false, false, false, false, false, false, false] rfl rfl (any_of HT_.out (by kernel_rfl)) (fun _ _ _ h => h) (Or.inl ⟨by rfl, ?_⟩) ?_ ?_
                                            rotate_left
                                            · intro w'
                                              go_simp
                                              with_reducible rfl
                                            rotate_left
                                            · simp only [Act.put, List.setIfInBounds_toArray, List.set_cons_zero, List.set_cons_succ, i64_w, i32_w]
                                              rfl
                                            refine pure_ (i := 2) (N := some 74) (v := ?_) (a' := ?_) #[true, false, true, false, false, false, false, false, false, false, false, false] rfl rfl (any_of HT_.out (by kernel_rfl)) (fun _ _ _ h => h) (Or.inl ⟨by rfl, ?_⟩) ?_ ?_
                                            rotate_left
                                            · intro w'
                                              go_simp
                                              with_reducible rfl
                                            rotate_left
                                            · simp only [Act.put, List.setIfInBounds_toArray, List.set_cons_zero, List.set_cons_succ, i64_w, i32_w]
                                              rfl
                                            refine pure_ (i := 3) (N := some 75) (v := ?_) (a' := ?_) #[true, false, true, true, false, false, false, false, false, false, false, false] rfl rfl (any_of HT_.out (by kernel_rfl)) (fun _ _ _ h => h) (Or.inl ⟨by rfl, ?_⟩) ?_ ?_
                                            rotate_left
                                            · intro w'
                                              go_simp
                                              with_reducible rfl
                                            rotate_left
                                            · simp only [Act.put, List.setIfInBounds_toArray, List.set_cons_zero, List.set_cons_succ, i64_w, i32_w]
                                              rfl
                                            refine pure_ (i := 4) (N := some 76) (v := ?_) (a' := ?_) #[true, false, true, true, true, false, false, false, false, false, false, false] rfl rfl (any_of HT_.out (by kernel_rfl)) (fun _ _ _ h => h) (Or.inl ⟨by rfl, ?_⟩) ?_ ?_
                                            rotate_left
                                            · intro w'
                                              go_simp
                                              with_reducible rfl
                                            rotate_left
                                            · simp only [Act.put, List.setIfInBounds_toArray, List.set_cons_zero, List.set_cons_succ, i64_w, i32_w]
                                              rfl
                                            refine pure_ (i := 5) (N := some 77) (v := ?_) (a' := ?_) #[true, false, true, true, true, true, false, false, false, false, false, false] rfl rfl (any_of HT_.out (by kernel_rfl)) (fun _ _ _ h => h) (Or.inl ⟨by rfl, ?_⟩) ?_ ?_
                                            rotate_left
                                            · intro w'
                                              go_simp
                                              with_reducible rfl
                                            rotate_left
                                            · simp only [Act.put, List.setIfInBounds_toArray, List.set_cons_zero, List.set_cons_succ, i64_w, i32_w]
                                              rfl
                                            refine pure_ (i := 6) (N := some 78) (v := ?_) (a' := ?_) #[true, false, true, true, true, true, true, false, false, false, false, false] rfl rfl (any_of HT_.out (by kernel_rfl)) (fun _ _ _ h => h) (Or.inl ⟨by rfl, ?_⟩) ?_ ?_
                                            rotate_left
                                            · intro w'
                                              go_simp
                                              with_reducible rfl
                                            rotate_left
                                            · simp only [Act.put, List.setIfInBounds_toArray, List.set_cons_zero, List.set_cons_succ, i64_w, i32_w]
                                              rfl
                                            refine take_ (i := 1) (N := some 73) (v := ?_) (a' := ?_) #[true, true, true, true, true, true, true, false, false, false, false, false] rfl rfl (take_ofW HT_.out HW_.out (by kernel_rfl)) (fun _ _ _ h => h) (Or.inl ⟨by rfl, ?_⟩) hHeld ?_ ?_
                                            rotate_left
                                            · rintro w' ⟨s0, s1, s2, s3⟩
                                              go_simp
                                              with_reducible rfl
                                            rotate_left
                                            · simp only [Act.put, List.setIfInBounds_toArray, List.set_cons_zero, List.set_cons_succ, i64_w, i32_w]
                                              rfl
                                            refine take_ (i := 7) (N := some 79) (v := ?_) (a' := ?_) #[true, true, true, true, true, true, true, true, false, false, false, false] rfl rfl (take_ofW HT_.out HW_.out (by kernel_rfl)) (fun _ _ _ h => h) (Or.inl ⟨by rfl, ?_⟩) hHeld ?_ ?_
                                            rotate_left
                                            · rintro w' ⟨s0, s1, s2, s3⟩
                                              go_simp
                                              with_reducible rfl
                                            rotate_left
                                            · simp only [Act.put, List.setIfInBounds_toArray, List.set_cons_zero, List.set_cons_succ, i64_w, i32_w]
                                              rfl
                                            refine one_ (i := 8) (N := some 80) #[true, true, true, true, true, true, true, true, true, false, false, false] rfl rfl (one_of HT_.out (by kernel_rfl)) (by decide) (fun K hK => ?_)
                                            refine goes_ Try.func104 (by kernel_rfl) rfl #[.int .i64 t160, .int .i64 ((rd_T73 x7_1 x12_3).f0)] (by rfl) rfl rfl (by (try simp only [List.map_toArray, List.map_cons, List.map_nil]); first | done | rfl | (simp only [List.length_drop, List.length_take]; rfl)) ?_
                                            with_reducible refine (spec_l1Most.calls t160 ((rd_T73 x7_1 x12_3).f0) t162 _ A41.out).mono ?_
                                            rintro e w' ⟨rfl, ⟨nd, rfl⟩⟩
                                            refine ⟨_, rfl, ?_⟩
                                            refine hK.out _ _ ⟨(blk_cell BK156.out 0).trans rfl, (blk_cell BK156.out 1).trans rfl, hHeld.2.2.1, hHeld.2.2.2⟩ (fun hHeld => ?_)
                                            clear hK K
                                            refine norm_ (a' := ?_) ?_ ?_
                                            rotate_left
                                            · show Act.put _ (some 80) _ = _
                                              simp only [Act.put, List.setIfInBounds_toArray, List.set_cons_zero, List.set_cons_succ, i64_w, i32_w]
                                              rfl
                                            refine one_ (i := 9) (N := some 81) #[true, true, true, true, true, true, true, true, true, true, false, false] rfl rfl (one_of HT_.out (by kernel_rfl)) (by decide) (fun K hK => ?_)
                                            refine goes_ Try.func68 (by kernel_rfl) rfl #[.int .i64 x157000_3, .int .i64 t162] (by rfl) rfl rfl (by (try simp only [List.map_toArray, List.map_cons, List.map_nil]); first | done | rfl | (simp only [List.length_drop, List.length_take]; rfl)) ?_
                                            with_reducible refine (spec_l1Least.calls x157000_3 t162 t163 _ A42.out).mono ?_
                                            rintro e w' ⟨rfl, ⟨nd, rfl⟩⟩
                                            refine ⟨_, rfl, ?_⟩
                                            refine hK.out _ _ ⟨(blk_cell BK156.out 0).trans rfl, (blk_cell BK156.out 1).trans rfl, hHeld.2.2.1, hHeld.2.2.2⟩ (fun hHeld => ?_)
                                            clear hK K
                                            refine norm_ (a' := ?_) ?_ ?_
                                            rotate_left
                                            · show Act.put _ (some 81) _ = _
                                              simp only [Act.put, List.setIfInBounds_toArray, List.set_cons_zero, List.set_cons_succ, i64_w, i32_w]
                                              rfl
                                            refine pure_ (i := 10) (N := some 82) (v := ?_) (a' := ?_) #[true, true, true, true, true, true, true, true, true, true, true, false] rfl rfl (any_of HT_.out (by kernel_rfl)) (fun _ _ _ h => h) (Or.inl ⟨by rfl, ?_⟩) ?_ ?_
                                            rotate_left
                                            · intro w'
                                              go_simp
                                              with_reducible rfl
                                            rotate_left
                                            · simp only [Act.put, List.setIfInBounds_toArray, List.set_cons_zero, List.set_cons_succ, i64_w, i32_w]
                                              rfl
                                            refine last_ (i := 11) (N := none) #[true, true, true, true, true, true, true, true, true, true, true, true] rfl rfl (one_of HT_.out (by kernel_rfl)) (by decide) (fun K hK => ?_)
                                            have hs52 : w51.cell? ⟨gb156, 0, none⟩ = some (.int .i64 x157000_3) := (blk_cell BK156.out 0).trans rfl
                                            have hfs52 := blk_frozen BK156.out 0
                                            have hns52_0 := NB150_156.out
                                            have hms52_0 := NB156_150.out
                                            refine skip_ (w1 := ?_) (by rfl) rfl ?_ ?_
                                            rotate_left
                                            · go_simp
                                              rfl
                                            refine hK.out _ _ ?_
                                            clear hK K
                                            refine done_ (done_of HT_.out (by kernel_rfl)) ?_
                                            try go_wp2
                                            go_roundg kj26
                                            case measure => have := HK1.out; have := HK2.out; have := HK3.out; have := HJ26.out; omega
                                            case rel => exact ⟨(wrap64 (x12_3 + 1)), (t163), (x157001_3), (by first | rfl | (simp; done) | (simp [*]; done)), H', ⟨by have := HK1.out; have := HK2.out; have := HK3.out; have := HJ26.out; omega⟩, ⟨by (try simp only [hl7_1]); (with_reducible repeat (first | apply Kd.R_alloc | apply Kd.R_drewN | apply Kd.R_drew)); exact Kd.R_mono (Kd.R_far (p := ⟨gb156, 0, none⟩) (Kd.R_mono HO_7.out (fun k_ hk => (⟨hk, hk⟩ : _ ∧ k_ ≠ gb156))) (fun _ hk => hk.2) (.int .i64 t163)) (fun _ hk => hk.1)⟩, ⟨by (try simp only [hl7_1]); (with_reducible repeat (first | refine blk_drewN ?_ _ | refine blk_drew ?_ | refine blk_alloc ?_ _)); refine blk_far ?_ NB150_156.out _; (with_reducible repeat (first | refine blk_drewN ?_ _ | refine blk_drew ?_ | refine blk_alloc ?_ _)); exact BK150.out⟩, ⟨by (try simp only [hl7_1]); (with_reducible repeat (first | refine blk_drewN ?_ _ | refine blk_drew ?_ | refine blk_alloc ?_ _)); refine blk_put (cs := #[.int .i64 x157000_3, .int .i64 x157001_3]) ?_ 0 _ rfl; (with_reducible repeat (first | refine blk_drewN ?_ _ | refine blk_drew ?_ | refine blk_alloc ?_ _)); exact BK156.out⟩, ⟨by repeat (first | (with_reducible first | exact HB.out | apply below_alloc | apply pw_below_drewN | apply below_drew1 | refine below_set ?_ GE150.out | refine below_set ?_ GE156.out) | exact HB.out)⟩⟩
                                        · rw [if_neg c40] at H
                                          exact absurd H (by simp)
                                      · rw [if_neg c39] at H
                                        exact absurd H (by simp)
                                    · replace c37 := Bool.eq_false_iff.mpr c37
                                      subst c37
                                      have H1 : (spec_grTable.l2 kj26 l1 a2 x7_1 x8_1 (rd l0_1 x8_1) x40_2 (wrap64 (x12_3 + 1)) (l1.length : Int) x40_2 a0_0 l0_1 x157000_3 x157001_3) = some r := by rw [if_neg (show ¬ (false = true) by decide)] at H; exact H
                                      clear H
                                      have H := H1
                                      clear H1
                                      have H' := Aside0.mk H
                                      clear H
                                      go_wp2
                                      go_roundg kj26
                                      case measure => have := HK1.out; have := HK2.out; have := HK3.out; have := HJ26.out; omega
                                      case rel => exact ⟨(wrap64 (x12_3 + 1)), (x157000_3), (x157001_3), (by first | rfl | (simp; done) | (simp [*]; done)), H', ⟨by have := HK1.out; have := HK2.out; have := HK3.out; have := HJ26.out; omega⟩, ⟨by (try simp only [hl7_1]); (with_reducible repeat (first | apply Kd.R_alloc | apply Kd.R_drewN | apply Kd.R_drew)); exact HO_7.out⟩, ⟨by (try simp only [hl7_1]); (with_reducible repeat (first | refine blk_drewN ?_ _ | refine blk_drew ?_ | refine blk_alloc ?_ _)); exact BK150.out⟩, ⟨by (try simp only [hl7_1]); (with_reducible repeat (first | refine blk_drewN ?_ _ | refine blk_drew ?_ | refine blk_alloc ?_ _)); exact BK156.out⟩, ⟨by repeat (first | (with_reducible first | exact HB.out | apply below_alloc | apply pw_below_drewN | apply below_drew1 | refine below_set ?_ GE150.out | refine below_set ?_ GE156.out) | exact HB.out)⟩⟩
                              · rw [if_neg c26] at H
                                have c26b0 : decide (x12_3 < (l0_1.length : Int)) = false := decide_eq_false c26
                                clear c26
                                have H' := Aside0.mk H
                                clear H
                                have hnb53 := NB150_156.out
                                have hnc53 := NB156_150.out
                                have hcz54_0 : wr.cell? ⟨gb150, 0, none⟩ = some (.int .i64 a0_0) := (blk_cell BK150.out 0).trans rfl
                                have hcz54_1 : wr.cell? ⟨gb150, 1, none⟩ = some (.slice (some ad155) l0_1.length c0_1) := (blk_cell BK150.out 1).trans rfl
                                have hfz54_0 := blk_frozen BK150.out 0
                                have hfz54_1 := blk_frozen BK150.out 1
                                go_wp2
                                go_roundg k3
                                case measure => have := HK1.out; have := HK2.out; have := HK3.out; omega
                                case rel => exact ⟨(wrap64 (x40_2 + 1)), (x157000_3), (x157001_3), (by first | rfl | (simp; done) | (simp [*]; done)), H', ⟨by have := HK1.out; have := HK2.out; have := HK3.out; omega⟩, ⟨by (try simp only [hl7_1]); (with_reducible repeat (first | apply Kd.R_alloc | apply Kd.R_drewN | apply Kd.R_drew)); exact HO_7.out⟩, ⟨by (try simp only [hl7_1]); (with_reducible repeat (first | refine blk_drewN ?_ _ | refine blk_drew ?_ | refine blk_alloc ?_ _)); exact BK150.out⟩, ⟨by (try simp only [hl7_1]); (with_reducible repeat (first | refine blk_drewN ?_ _ | refine blk_drew ?_ | refine blk_alloc ?_ _)); exact BK156.out⟩, ⟨by repeat (first | (with_reducible first | exact HB.out | apply below_alloc | apply pw_below_drewN | apply below_drew1 | refine below_set ?_ GE150.out | refine below_set ?_ GE156.out) | exact HB.out)⟩⟩
                        · rw [if_neg c25] at H
                          have c25b0 : decide (x40_2 < (l1.length : Int)) = false := decide_eq_false c25
                          clear c25
                          by_cases c55 : 0 ≤ x8_1
                          · rw [if_pos c55] at H
                            have c55b0 : decide (0 ≤ x8_1) = true := decide_eq_true c55
                            clear c55
                            by_cases c56 : x8_1 < (x7_1.length : Int)
                            · rw [if_pos c56] at H
                              have c56b0 : decide (x8_1 < (x7_1.length : Int)) = true := decide_eq_true c56
                              clear c56
                              obtain ⟨y157, hy157⟩ : ∃ y_ : List (S73), y_ = (x7_1.set (x8_1 : Int).toNat (⟨x157000_2, x157001_2⟩ : S73)) := ⟨_, rfl⟩
                              replace H : (spec_grTable.l0 k2 l1 a2 y157 (wrap64 (x8_1 - 1)) a0_0 l0_1) = some r := by first | (rw [hy157]; with_reducible exact H) | (have H2_ := (Option.bind_some _ _).symm.trans H; rw [hy157]; with_reducible exact H2_) | (have H2_ := (Option.bind_some _ _).symm.trans H; with_reducible exact H2_) | with_reducible exact H | (rw [hy157]; exact H) | exact H
                              have Ny157 := Aside0.mk hy157
                              clear hy157
                              have H' := Aside0.mk H
                              clear H
                              have hnb58 := NB156_150.out
                              have hnc58 := NB150_156.out
                              have hcz59_0 : wr.cell? ⟨gb156, 0, none⟩ = some (.int .i64 x157000_2) := (blk_cell BK156.out 0).trans rfl
                              have hcz59_1 : wr.cell? ⟨gb156, 1, none⟩ = some (.int .i64 x157001_2) := (blk_cell BK156.out 1).trans rfl
                              have hfz59_0 := blk_frozen BK156.out 0
                              have hfz59_1 := blk_frozen BK156.out 1
                              have p57 : 0 ≤ (x8_1 : Int) := of_decide_eq_true (by first | (with_reducible assumption) | assumption)
                              have q57 : (x8_1 : Int) < ((x7_1.length : Int) : Int) := of_decide_eq_true (by first | (with_reducible assumption) | assumption)
                              obtain ⟨ce57, hcl57, hM57, hcc57, hfr57⟩ := Kd.R_elem HO_7.out z73 (x8_1 : Int) p57 q57
                              obtain rfl := k73_openM hM57
                              have hx57_0 : wr.cell? ⟨go9, (x8_1 : Int).toNat * 2, none⟩ = some (.int .i64 ((rd_T73 x7_1 x8_1).f0)) := hcc57 0 _ rfl
                              have hx57_1 : wr.cell? ⟨go9, (x8_1 : Int).toNat * 2 + 1, none⟩ = some (.int .i64 ((rd_T73 x7_1 x8_1).f1)) := hcc57 1 _ rfl
                              have hf57_0 : wr.frozen? ⟨go9, (x8_1 : Int).toNat * 2, none⟩ = false := hfr57 0
                              have hf57_1 : wr.frozen? ⟨go9, (x8_1 : Int).toNat * 2 + 1, none⟩ = false := hfr57 1
                              clear hcl57 hcc57 hfr57 hM57
                              replace p57 := eq_true p57
                              replace q57 := eq_true q57
                              have HX60 := Aside0.mk (show Kd.R k73 73 wr w.heap.size (fun k_ => k_ ≠ gb156) (.slice (some ⟨go9, 0, none⟩) x7_1.length co14) x7_1 from (by (with_reducible repeat (first | apply Kd.R_alloc | apply Kd.R_drewN | apply Kd.R_drew)); exact HO_7.out))
                              obtain ⟨ce60, hcl60, hM60, hcc60, hfr60⟩ := Kd.R_elem HX60.out z73 (x8_1 : Int) (of_decide_eq_true (by first | (with_reducible assumption) | assumption)) (by have h_ : (x8_1 : Int) < ((x7_1.length : Int) : Int) := of_decide_eq_true (by first | (with_reducible assumption) | assumption); first | exact h_ | (have e_ := (Kd.R_reads' HO_7.out).1; omega) | simpa using h_)
                              obtain rfl := k73_openM hM60
                              have HP60 := Kd.R_seg HX60.out (x8_1 : Int) (of_decide_eq_true (by first | (with_reducible assumption) | assumption)) (by have h_ : (x8_1 : Int) < ((x7_1.length : Int) : Int) := of_decide_eq_true (by first | (with_reducible assumption) | assumption); first | exact h_ | (have e_ := (Kd.R_reads' HO_7.out).1; omega) | simpa using h_) (seg := [.int .i64 x157000_2, .int .i64 x157001_2]) (j := 0) hcl60 hcc60 (show 2 ≤ 2 from by decide) (x' := (⟨x157000_2, x157001_2⟩ : S73)) (k73_mkM _ _ _ (⟨x157000_2, x157001_2⟩ : S73) ) (fun _ hk => hk)
                              have hx60_0 := hcc60 0 _ rfl
                              (try simp only [show (k73).sz = 2 from rfl, Nat.mul_one, Nat.add_zero] at hx60_0)
                              have hf60_0 := hfr60 0
                              (try simp only [show (k73).sz = 2 from rfl, Nat.mul_one, Nat.add_zero] at hf60_0)
                              have hx60_1 := hcc60 1 _ rfl
                              (try simp only [show (k73).sz = 2 from rfl, Nat.mul_one, Nat.add_zero] at hx60_1)
                              have hf60_1 := hfr60 1
                              (try simp only [show (k73).sz = 2 from rfl, Nat.mul_one, Nat.add_zero] at hf60_1)
                              clear hcl60 hcc60 hfr60 hM60
                              go_wp2_with (first | ((with_reducible refine gate_store (t := 73) (p := 99) rfl ?_); refine store_event (t := 73) (p := 99) (v := ?vo_w61) (w1 := ((wr.setCell ⟨go9, (x8_1 : Int).toNat * 2, none⟩ (.int .i64 x157000_2)).setCell ⟨go9, (x8_1 : Int).toNat * 2 + 1, none⟩ (.int .i64 x157001_2))) ?hg ?ho ?hn ?hr ?_; (case ho => rfl); (case hg => rfl); (case hn => rfl); (case hr => first | (go_simp; done) | (go_simp; rfl)); intro w61 hw; have hg : wr.grownBy w61 (some go9) := (by rw [hw]; exact HP60.2); have hp_ : Kd.R k73 73 w61 w.heap.size (fun k_ => k_ ≠ gb156) (.slice (some ⟨go9, 0, none⟩) x7_1.length co14) y157 := (by rw [hw, Ny157.out]; exact HP60.1); clear HP60; have n0_ := Aside0.mk (hp_); have n1_ := Aside0.mk (blk_grown (g := gb150) (o := .cells #[.int .i64 a0_0, .slice (some ad155) l0_1.length c0_1] 28 (0, 0)) (by (with_reducible repeat (first | refine blk_drewN ?_ _ | refine blk_drew ?_ | refine blk_alloc ?_ _)); exact BK150.out) hg (Kd.R_ne HO_7.out BK150.out (by decide))); have n2_ := Aside0.mk (blk_grown (g := gb156) (o := .cells #[.int .i64 x157000_2, .int .i64 x157001_2] 73 (0, 0)) (by (with_reducible repeat (first | refine blk_drewN ?_ _ | refine blk_drew ?_ | refine blk_alloc ?_ _)); exact BK156.out) hg (Kd.R_away HO_7.out (fun _ hk => hk))); have n3_ := Aside0.mk ((by rw [hw]; exact below_set (below_set (HB.out) GB9.out) GB9.out : Below w.heap.size w w61)); clear HO_7; clear BK150; clear BK156; clear HB; have HO_7 := n0_; have BK150 := n1_; have BK156 := n2_; have HB := n3_; clear n0_ n1_ n2_ n3_; clear hg hw hp_))
                              (try simp only [← hl7_1])
                              go_roundg k2
                              case measure => have := HK1.out; have := HK2.out; omega
                              case rel => exact ⟨(y157), (wrap64 (x8_1 - 1)), (by first | rfl | (simp; done) | (simp [*]; done)), H', ⟨by have := HK1.out; have := HK2.out; omega⟩, ⟨by (try simp only [hl7_1]); (with_reducible repeat (first | apply Kd.R_alloc | apply Kd.R_drewN | apply Kd.R_drew)); exact Kd.R_mono HO_7.out (fun _ hk => trivial)⟩, ⟨by (try simp only [hl7_1]); (with_reducible repeat (first | refine blk_drewN ?_ _ | refine blk_drew ?_ | refine blk_alloc ?_ _)); exact BK150.out⟩, ⟨by repeat (first | (with_reducible first | exact HB.out | apply below_alloc | apply pw_below_drewN | apply below_drew1 | refine below_set ?_ GE150.out | refine below_set ?_ GE156.out) | exact HB.out)⟩⟩
                            · rw [if_neg c56] at H
                              exact absurd H (by simp)
                          · rw [if_neg c55] at H
                            exact absurd H (by simp)
                  · rw [if_neg c20] at H
                    exact absurd H (by simp)
                · rw [if_neg c19] at H
                  exact absurd H (by simp)
              · rw [if_neg c18] at H
                have c18b0 : decide (0 ≤ x8_1) = false := decide_eq_false c18
                clear c18
                obtain rfl := Option.some.inj H
                go_wp2
                go_ret
                exact ⟨_, by first | rfl | (simp [errW_none, errW_some] <;> rfl) | (simp only [← hji6]; first | rfl | (simp [errW_none, errW_some] <;> rfl)) | (simp [*, errW_none, errW_some] <;> rfl), by (with_reducible repeat (first | apply Kd.R_alloc | apply Kd.R_drewN | apply Kd.R_drew)); exact HO_7.out, by repeat (first | (with_reducible first | exact HB.out | apply below_alloc | apply pw_below_drewN | apply below_drew1 | refine below_set ?_ GE150.out) | exact HB.out)⟩
        · rw [if_neg c8] at H
          exact absurd H (by simp)
      · rw [if_neg c7] at H
        exact absurd H (by simp)
    · rw [if_neg c5] at H
      exact absurd H (by simp)
  · rw [if_neg c4] at H
    exact absurd H (by simp)

end Go.Proofs.Ytjhjphgdjhahlaa.P
/- The reference's tasks, costs and greedy word. -/
-- by Sp.pick_ok, Sp.outer_mem, Sp.cnt_lt, Sp.n7, Sp.or, Sp.flt, Sp.zero, Sp.lt
namespace Go.Proofs.Ytjhjphgdjhahlaa.P
open Go.RowKit Go.Proofs.YtjhjphgdjhahlaaW.PrintWords Go.Proofs.YtjhjphgdjhahlaaW.PrintLast Go.Proofs.YtjhjphgdjhahlaaW.PrintMore
set_option linter.unusedVariables false

theorem l1In_pure (a lo hi : Int) : spec_l1In.f a lo hi = some (decide (lo ≤ a ∧ a ≤ hi)) := by
  unfold spec_l1In.f
  by_cases h : a ≥ lo
  · rw [if_pos h]; congr 1; rw [decide_eq_decide]; omega
  · rw [if_neg h]; congr 1; rw [eq_comm, decide_eq_false_iff_not]; omega
theorem grTasks_from (l : List S54) (hl : l.length < 1152921504606) : ∀ (j i : Nat), i + j = l.length → Ev (fun k => spec_grTasks.l0 k l (l.length : Int) (i : Int)) (!(l.drop i).any noTask) := by
  intro j
  induction j with
  | zero =>
    intro i hi
    obtain rfl : i = l.length := by omega
    refine Ev.step (fun k => spec_grTasks.l0.eq_2 _ _ _ k) (Ev.neg (by omega) (Ev.one ?_))
    simp
  | succ j ih =>
    intro i hi
    have hil : i < l.length := by omega
    have ew : wrap64 ((i : Int) + 1) = ((i + 1 : Nat) : Int) := by unfold wrap64; omega
    have er : rd_T54 l (i : Int) = l[i] := by unfold rd_T54; simp [hil]
    rw [List.drop_eq_getElem_cons hil, List.any_cons]
    refine Ev.step (fun k => spec_grTasks.l0.eq_2 _ _ _ k) (Ev.pos (by omega) (Ev.pos (by omega) (Ev.pos (by omega) ?_)))
    rw [er, ew, l1In_pure, l1In_pure, l1In_pure]
    simp only [Option.bind_some]
    have hnt : noTask l[i] = (!(decide (1 ≤ l[i].f0 ∧ l[i].f0 ≤ 9)) || !(decide (0 ≤ l[i].f1 ∧ l[i].f1 ≤ 9)) || !(decide (-100 ≤ l[i].f2 ∧ l[i].f2 ≤ 100))) := rfl
    rw [hnt]
    cases h1 : decide (1 ≤ l[i].f0 ∧ l[i].f0 ≤ 9) with
    | false => exact Ev.neg (by simp) (Ev.one (by simp))
    | true =>
      refine Ev.pos rfl ?_
      cases h2 : decide (0 ≤ l[i].f1 ∧ l[i].f1 ≤ 9) with
      | false => exact Ev.neg (by simp) (Ev.one (by simp))
      | true =>
        refine Ev.pos rfl ?_
        cases h3 : decide (-100 ≤ l[i].f2 ∧ l[i].f2 ≤ 100) with
        | false => exact Ev.neg (by simp) (Ev.one (by simp))
        | true =>
          refine Ev.pos rfl ?_
          have := ih (i + 1) (by omega)
          simpa using this
theorem grTasks_pure (l : List S54) (n : Int) : Ev (fun k => spec_grTasks.f k l n) (tasksOk l n) := by
  refine Ev.congr (fun k => spec_grTasks.f.eq_1 k _ _) ?_
  unfold spec_spItems.f tasksOk
  rw [l1In_pure]
  simp only [Option.bind_some]
  cases h1 : decide (1 ≤ n ∧ n ≤ 7) with
  | false => exact Ev.neg (by simp) (Ev.step (fun k => spec_grTasks.j0.eq_2 _ _ k) (Ev.pos rfl (Ev.one (by simp))))
  | true =>
    refine Ev.pos rfl (Ev.step (fun k => spec_grTasks.j0.eq_2 _ _ k) ?_)
    have h17 : 1 ≤ n ∧ n ≤ 7 := by simpa using h1
    by_cases h2 : (l.length : Int) = n
    · refine Ev.neg (by simpa using h2) ?_
      have := grTasks_from l (by omega) l.length 0 (by omega)
      rw [show decide ((l.length : Int) = n) = true by simpa using h2]
      simpa using this
    · refine Ev.pos (by simpa using h2) (Ev.one ?_)
      rw [show decide ((l.length : Int) = n) = false by simpa using h2]; simp
theorem grGiven_pure (a : Int) (l : List Int) (ts : List S54) (hl : l.length < 1152921504606846976) : Ev (fun k => spec_grGiven.f k a l ts) (isSpB a l && tasksOk ts a) := by
  refine Ev.congr (fun k => spec_grGiven.f.eq_1 k _ _ _) (Ev.bind (spGood_pure a l hl) ?_)
  cases h1 : isSpB a l with
  | false => exact Ev.neg (by simp) (Ev.one (by simp))
  | true => exact Ev.pos rfl (Ev.bind (grTasks_pure ts a) (Ev.one (by simp)))
theorem grCost_from (ts : List S54) (set item : Nat) (h : ∀ x ∈ ts, taskB x) (hl : ts.length ≤ 7) (hi : item < ts.length) (hs : set < 128) : ∀ (j i : Nat), i + j = ts.length →
    Ev (fun k => spec_grCost.l0 k ts (set : Int) (item : Int) (timeN ts set i) ts (ts.length : Int) (i : Int)) (costB ts set item) := by
  intro j
  induction j with
  | zero =>
    intro i hij
    obtain rfl : i = ts.length := by omega
    have hb := costB_bd ts set item h hl hi
    refine Ev.step (fun k => spec_grCost.l0.eq_2 _ _ _ _ _ _ _ k) (Ev.neg (by omega) (Ev.pos (by omega) (Ev.pos (by omega) (Ev.one ?_))))
    rw [rd_task]
    have e1 : wrap64 ((ts.getD item z54).f1 * timeN ts set ts.length) = (ts.getD item z54).f1 * timeN ts set ts.length := by unfold wrap64; omega
    rw [e1]
    have e2 : (ts.getD item z54).f1 * timeN ts set ts.length + (ts.getD item z54).f2 = costB ts set item := rfl
    rw [e2]; unfold wrap64; omega
  | succ j ih =>
    intro i hij
    have hil : i < ts.length := by omega
    have ew : wrap64 ((i : Int) + 1) = ((i + 1 : Nat) : Int) := by unfold wrap64; omega
    have hbd2 := timeN_bd ts set h (i + 1) (by omega)
    have h2 := ih (i + 1) (by omega)
    simp only [timeN] at h2 hbd2
    refine Ev.step (fun k => spec_grCost.l0.eq_2 _ _ _ _ _ _ _ k) (Ev.pos (by omega) (Ev.pos (by omega) (Ev.pos (by omega) ?_)))
    rw [spIn_nat set i (by omega), rd_task, ew]
    refine Ev.bind (Ev.now _) ?_
    cases hb : set.testBit i with
    | true =>
      refine Ev.pos rfl ?_
      simpa [hb] using h2
    | false =>
      refine Ev.neg (by simp) ?_
      simp only [hb, Bool.false_eq_true, if_false] at h2 hbd2
      have e3 : wrap64 (timeN ts set i + (ts.getD i z54).f0) = timeN ts set i + (ts.getD i z54).f0 := by unfold wrap64; omega
      rw [e3]; exact h2
theorem grCost_pure (ts : List S54) (set item : Nat) (h : ∀ x ∈ ts, taskB x) (hl : ts.length ≤ 7) (hi : item < ts.length) (hs : set < 128) : Ev (fun k => spec_grCost.f k ts (set : Int) (item : Int)) (costB ts set item) :=
  Ev.congr (fun k => spec_grCost.f.eq_1 k _ _ _) (by simpa [timeN] using grCost_from ts set item h hl hi hs ts.length 0 (by omega))
theorem l1Most_pure (a b : Int) : spec_l1Most.f a b = some (if b > a then b else a) := by
  unfold spec_l1Most.f
  by_cases h : a > b
  · rw [if_pos h, if_neg (by omega)]
  · rw [if_neg h]
    by_cases h2 : b > a
    · rw [if_pos h2]
    · rw [if_neg h2]; congr 1; omega
theorem grOf_from (ts : List S54) (ht : ∀ x ∈ ts, taskB x) (hl : ts.length ≤ 7) (w : List Nat) (hw : ∀ i ∈ w, i < ts.length) (hwl : w.length < 1152921504606) : ∀ (j i s : Nat) (out : Int), i + j = w.length → s < 128 →
    Ev (fun k => spec_grOf.l0 k ts (s : Int) out (ints w) (w.length : Int) (i : Int)) (mxF out (costsL ts s (w.drop i))) := by
  intro j
  induction j with
  | zero =>
    intro i s out hij hs
    refine Ev.step (fun k => spec_grOf.l0.eq_2 _ _ _ _ _ _ k) (Ev.neg (by omega) (Ev.one ?_))
    rw [List.drop_eq_nil_of_le (by omega)]; rfl
  | succ j ih =>
    intro i s out hij hs
    have hil : i < w.length := by omega
    have ew : wrap64 ((i : Int) + 1) = ((i + 1 : Nat) : Int) := by unfold wrap64; omega
    have hx := hw _ (List.getElem_mem hil)
    have er : rd (ints w) (i : Int) = ((w[i] : Nat) : Int) := by rw [rd_ints]; simp [hil]
    have h7 : w[i] < 7 := by omega
    rw [List.drop_eq_getElem_cons hil]
    simp only [costsL, mxF, List.foldl_cons]
    refine Ev.step (fun k => spec_grOf.l0.eq_2 _ _ _ _ _ _ k) (Ev.pos (by omega) (Ev.pos (by omega) (Ev.pos (by rw [ints_len]; omega) ?_)))
    rw [er, ew, shl_one _ (by omega), go_wth _ _ hs h7]
    refine Ev.bind (grCost_pure ts s w[i] ht hl hx hs) ?_
    rw [l1Most_pure]
    exact Ev.bind (Ev.now _) (Ev.pos (by omega) (ih (i + 1) (wth s w[i]) _ (by omega) (wth_lt _ _ hs h7)))
theorem grOf_pure (ts : List S54) (ht : ∀ x ∈ ts, taskB x) (hl : ts.length ≤ 7) (w : List Nat) (hw : ∀ i ∈ w, i < ts.length) (hwl : w.length < 1152921504606) : Ev (fun k => spec_grOf.f k ts (ints w)) (costW ts w) := by
  refine Ev.congr (fun k => spec_grOf.f.eq_1 k _ _) ?_
  rw [ints_len]
  have := grOf_from ts ht hl w hw hwl w.length 0 0 (-10000) (by omega) (by omega)
  simpa [costW] using this
end Go.Proofs.Ytjhjphgdjhahlaa.P
/- The reference's table: for each of the sets the least cost behind it and how many words keep a limit. -/
-- by Sp.n7, Sp.flt, Sp.lt, Sp.zero, Sp.all, Sp.rise, Sp.len128
namespace Go.Proofs.Ytjhjphgdjhahlaa.P
open Go.RowKit Go.Proofs.YtjhjphgdjhahlaaW.PrintWords Go.Proofs.YtjhjphgdjhahlaaW.PrintLast Go.Proofs.YtjhjphgdjhahlaaW.PrintMore
set_option linter.unusedVariables false
variable {n : Nat} {l : List Int}
def lst (a b : Int) : Int := if a < b then a else b
def mst (a b : Int) : Int := if b > a then b else a
/-- one item more -/
def tabS (F : Nat → Bool) (ts : List S54) (limit : Int) (T : Nat → Int × Int) (s : Nat) (p : Int × Int) (i : Nat) : Int × Int :=
  if s.testBit i then p else if F (wth s i) then (lst p.1 (mst (costB ts s i) (T (wth s i)).1), if costB ts s i ≤ limit then p.2 + (T (wth s i)).2 else p.2) else p
def tabR (F : Nat → Bool) (ts : List S54) (limit : Int) (T : Nat → Int × Int) (s i : Nat) : Int × Int := (List.range i).foldl (tabS F ts limit T s) (10000, 0)
def tabV (F : Nat → Bool) (al n : Nat) (ts : List S54) (limit : Int) : Nat → Nat → Int × Int
  | 0, _ => (10000, 0)
  | d + 1, s => if s = al then (-10000, 1) else tabR F ts limit (tabV F al n ts limit d) s n
theorem tabR_succ (F : Nat → Bool) (ts : List S54) (limit : Int) (T : Nat → Int × Int) (s i : Nat) : tabR F ts limit T s (i + 1) = tabS F ts limit T s (tabR F ts limit T s i) i := by
  unfold tabR; rw [List.range_succ, List.foldl_append]; rfl
theorem tabV_bd (F : Nat → Bool) (al n : Nat) (hn : n ≤ 7) (ts : List S54) (limit : Int) : ∀ (d s : Nat), 0 ≤ (tabV F al n ts limit d s).2 ∧ (tabV F al n ts limit d s).2 ≤ ((7 ^ d : Nat) : Int) := by
  intro d
  induction d with
  | zero => intro s; simp [tabV]
  | succ d ih =>
    intro s
    simp only [tabV]
    have hp : 1 ≤ 7 ^ d := Nat.pow_pos (by omega)
    split
    · rw [Nat.pow_succ]; constructor <;> simp only <;> omega
    · have key : ∀ i, 0 ≤ (tabR F ts limit (tabV F al n ts limit d) s i).2 ∧ (tabR F ts limit (tabV F al n ts limit d) s i).2 ≤ i * ((7 ^ d : Nat) : Int) := by
        intro i
        induction i with
        | zero => simp [tabR]
        | succ i ihi =>
          rw [tabR_succ]
          have h2 := ih (wth s i)
          have e : ((i + 1 : Nat) : Int) * ((7 ^ d : Nat) : Int) = i * ((7 ^ d : Nat) : Int) + ((7 ^ d : Nat) : Int) := by rw [show ((i + 1 : Nat) : Int) = (i : Int) + 1 by omega, Int.add_mul, Int.one_mul]
          rw [e]
          unfold tabS
          split
          · omega
          · split
            · simp only; split <;> omega
            · omega
      have h3 := key n
      refine ⟨h3.1, Int.le_trans h3.2 ?_⟩
      rw [Nat.pow_succ, Nat.mul_comm]
      have : (n : Int) * ((7 ^ d : Nat) : Int) ≤ 7 * ((7 ^ d : Nat) : Int) := Int.mul_le_mul_of_nonneg_right (by omega) (by omega)
      simpa using this
theorem wth_gt (s i : Nat) (hs : s < 128) (hi : i < 7) (hb : s.testBit i = false) : s < wth s i := by
  have : ∀ s, s < 128 → ∀ i, i < 7 → s.testBit i = false → s < wth s i := by decide +kernel
  exact this s hs i hi hb
def tb (p : Int × Int) : S73 := ⟨p.1, p.2⟩
theorem l1Least_pure (a b : Int) : spec_l1Least.f a b = some (lst a b) := by
  unfold spec_l1Least.f lst; split <;> rfl
theorem l1Most_mst (a b : Int) : spec_l1Most.f a b = some (mst a b) := by
  unfold spec_l1Most.f mst
  by_cases h : a > b
  · rw [if_pos h, if_neg (by omega)]
  · rw [if_neg h]
    by_cases h2 : b > a
    · rw [if_pos h2]
    · rw [if_neg h2]; congr 1; omega
section
variable (ts : List S54) (limit : Int) (T : Nat → Int × Int) (out : List S73) (k s : Nat) (r : List S73)
theorem Sp.l2_skip (h : Sp n l) (i : Nat) (hi : i < 7) (hs128 : s < 128) (p : Int × Int) (hq : Ev (fun q => spec_grTable.l1 q ts limit out (k : Int) (s : Int) (ts.length : Int) (wrap64 ((i : Int) + 1)) (n : Int) l p.1 p.2) r) :
    ∀ (m j : Nat), j + m = l.length → (s.testBit i = true ∨ ((wth s i : Nat) : Int) ∉ l.drop j) → Ev (fun q => spec_grTable.l2 q ts limit out (k : Int) (s : Int) (i : Int) (j : Int) (ts.length : Int) (i : Int) (n : Int) l p.1 p.2) r := by
  have hlen := h.len128
  intro m
  induction m with
  | zero =>
    intro j hj _
    exact Ev.step (fun q => spec_grTable.l2.eq_2 _ _ _ _ _ _ _ _ _ _ _ _ _ q) (Ev.neg (by omega) hq)
  | succ m ih =>
    intro j hj hn
    have hjl : j < l.length := by omega
    have ew : wrap64 ((j : Int) + 1) = ((j + 1 : Nat) : Int) := by unfold wrap64; omega
    have h2 := ih (j + 1) (by omega) (by
      rcases hn with hn | hn
      · exact .inl hn
      · exact .inr (fun hm => hn (by rw [List.drop_eq_getElem_cons hjl]; exact List.mem_cons_of_mem _ hm)))
    have h3 : Ev (fun q => spec_grTable.j3 q ts limit out (k : Int) (s : Int) (i : Int) (j : Int) (ts.length : Int) (i : Int) false (n : Int) l p.1 p.2) r := by
      refine Ev.step (fun q => spec_grTable.j3.eq_2 _ _ _ _ _ _ _ _ _ _ _ _ _ _ q) (Ev.neg (by simp) ?_)
      rw [ew]; exact h2
    refine Ev.step (fun q => spec_grTable.l2.eq_2 _ _ _ _ _ _ _ _ _ _ _ _ _ q) (Ev.pos (by omega) ?_)
    rw [spIn_nat s i (by omega)]
    refine Ev.bind (Ev.now _) ?_
    cases hb : s.testBit i with
    | true => exact Ev.pos rfl h3
    | false =>
      refine Ev.neg (by simp) (Ev.pos (by omega) (Ev.pos (by omega) ?_))
      rw [shl_one i (by omega), go_wth s i hs128 hi, rd_at l j hjl]
      have hne : (l[j] == ((wth s i : Nat) : Int)) = false := by
        rw [beq_eq_false_iff_ne]
        intro e
        rcases hn with hn | hn
        · rw [hb] at hn; cases hn
        · exact hn (by rw [List.drop_eq_getElem_cons hjl, e]; exact List.mem_cons_self)
      rw [hne]; exact h3
theorem Sp.l2_hit (h : Sp n l) (ht : ∀ x ∈ ts, taskB x) (hl : ts.length = n) (i : Nat) (hi : i < n) (hs128 : s < 128) (hb : s.testBit i = false) (p : Int × Int) (hp : 0 ≤ p.2 ∧ p.2 ≤ 1000000000) (hTb : ∀ x, 0 ≤ (T x).2 ∧ (T x).2 ≤ 1000000000) (hol : out.length = l.length)
    (hout : ∀ j (hj : j < l.length), k + 1 ≤ j → ∀ x : Nat, l[j] = (x : Int) → rd_T73 out (j : Int) = tb (T x))
    (hq : Ev (fun q => spec_grTable.l1 q ts limit out (k : Int) (s : Int) (ts.length : Int) (wrap64 ((i : Int) + 1)) (n : Int) l (lst p.1 (mst (costB ts s i) (T (wth s i)).1)) (if costB ts s i ≤ limit then p.2 + (T (wth s i)).2 else p.2)) r) :
    ∀ (m j : Nat), j + m = l.length → k + 1 ≤ j → ((wth s i : Nat) : Int) ∈ l.drop j → Ev (fun q => spec_grTable.l2 q ts limit out (k : Int) (s : Int) (i : Int) (j : Int) (ts.length : Int) (i : Int) (n : Int) l p.1 p.2) r := by
  have hlen := h.len128
  have h7 := h.n7
  have HTB := Aside0.mk hTb
  have HPP := Aside0.mk hp
  clear hTb hp
  intro m
  induction m with
  | zero =>
    intro j hj _ hm
    rw [List.drop_eq_nil_of_le (by omega)] at hm; cases hm
  | succ m ih =>
    intro j hj hkj hm
    have hjl : j < l.length := by omega
    have EW := Aside0.mk (show wrap64 ((j : Int) + 1) = ((j + 1 : Nat) : Int) by unfold wrap64; omega)
    have hi8 : i < 8 := by omega
    have hi7 : i < 7 := by omega
    have htl : ts.length ≤ 7 := by omega
    have hil : i < ts.length := by omega
    have hjo : (j : Int) < (out.length : Int) := by omega
    have hj1 : (j : Int) < (l.length : Int) := by omega
    have hjm : j + 1 + m = l.length := by omega
    have hkj1 : k + 1 ≤ j + 1 := Nat.le_succ_of_le hkj
    have hi64 : i < 64 := by omega
    refine Ev.step (fun q => spec_grTable.l2.eq_2 _ _ _ _ _ _ _ _ _ _ _ _ _ q) (Ev.pos hj1 ?_)
    rw [spIn_nat s i hi64, hb]
    refine Ev.bind (Ev.now _) ?_
    refine Ev.neg (by simp) ?_
    refine Ev.pos (Int.natCast_nonneg _) (Ev.pos (Int.natCast_nonneg _) ?_)
    rw [shl_one i hi8, go_wth s i hs128 hi7, rd_at l j hjl]
    by_cases e : l[j] = ((wth s i : Nat) : Int)
    · rw [show (l[j] == ((wth s i : Nat) : Int)) = true by simpa using e]
      have hnot : ((wth s i : Nat) : Int) ∉ l.drop (j + 1) := by
        intro hm2
        obtain ⟨q, hq1, hq2⟩ := List.getElem_of_mem hm2
        rw [List.getElem_drop] at hq2
        have := List.pairwise_iff_getElem.1 h.rise j (j + 1 + q) hjl (by rw [List.length_drop] at hq1; omega) (by omega)
        omega
      have hTx := HTB.out (wth s i)
      refine Ev.step (fun q => spec_grTable.j3.eq_2 _ _ _ _ _ _ _ _ _ _ _ _ _ _ q) (Ev.pos rfl ?_)
      refine Ev.bind (grCost_pure ts s i ht htl hil hs128) ?_
      refine Ev.pos (Int.natCast_nonneg _) (Ev.pos hjo ?_)
      rw [hout j hjl hkj (wth s i) e, l1Most_mst]
      simp only [Option.bind_some, tb]
      rw [l1Least_pure]
      simp only [Option.bind_some, EW.out]
      by_cases hc : costB ts s i ≤ limit
      · rw [if_pos hc] at hq
        refine Ev.pos hc ?_
        have e9 : wrap64 (p.2 + (T (wth s i)).2) = p.2 + (T (wth s i)).2 := by have hp := HPP.out; clear hq; unfold wrap64; omega
        rw [e9]
        exact h.l2_skip ts limit out k s r i hi7 hs128 (lst p.1 (mst (costB ts s i) (T (wth s i)).1), p.2 + (T (wth s i)).2) hq m (j + 1) hjm (.inr hnot)
      · rw [if_neg hc] at hq
        refine Ev.neg hc ?_
        exact h.l2_skip ts limit out k s r i hi7 hs128 (lst p.1 (mst (costB ts s i) (T (wth s i)).1), p.2) hq m (j + 1) hjm (.inr hnot)
    · rw [show (l[j] == ((wth s i : Nat) : Int)) = false by simpa using e]
      refine Ev.step (fun q => spec_grTable.j3.eq_2 _ _ _ _ _ _ _ _ _ _ _ _ _ _ q) (Ev.neg Bool.false_ne_true ?_)
      rw [EW.out]
      refine ih (j + 1) hjm hkj1 ?_
      rw [List.drop_eq_getElem_cons hjl] at hm
      rcases List.mem_cons.1 hm with hm | hm
      · exact absurd hm.symm e
      · exact hm
theorem tabR_bd (F : Nat → Bool) (hTb : ∀ x, 0 ≤ (T x).2 ∧ (T x).2 ≤ 100000000) : ∀ i, i ≤ 7 → 0 ≤ (tabR F ts limit T s i).2 ∧ (tabR F ts limit T s i).2 ≤ i * 100000000 := by
  intro i
  induction i with
  | zero => intro _; simp [tabR]
  | succ i ihi =>
    intro hi
    have h1 := ihi (by omega)
    have h2 := hTb (wth s i)
    rw [tabR_succ]
    unfold tabS
    split
    · omega
    · split
      · simp only; split <;> omega
      · omega
theorem Sp.tab_l1 (h : Sp n l) (ht : ∀ x ∈ ts, taskB x) (hl : ts.length = n) (hs128 : s < 128) (hTb : ∀ x, 0 ≤ (T x).2 ∧ (T x).2 ≤ 100000000) (hol : out.length = l.length) (hk : k < l.length) (hsk : l[k] = (s : Int))
    (hout : ∀ j (hj : j < l.length), k + 1 ≤ j → ∀ x : Nat, l[j] = (x : Int) → rd_T73 out (j : Int) = tb (T x))
    (hq : Ev (fun q => spec_grTable.l0 q ts limit (out.set k (tb (tabR (famOf l) ts limit T s n))) (wrap64 ((k : Int) - 1)) (n : Int) l) r) :
    ∀ (m i : Nat), i + m = n → Ev (fun q => spec_grTable.l1 q ts limit out (k : Int) (s : Int) (ts.length : Int) (i : Int) (n : Int) l (tabR (famOf l) ts limit T s i).1 (tabR (famOf l) ts limit T s i).2) r := by
  have hlen := h.len128
  have h7 := h.n7
  have HTB := Aside0.mk hTb
  clear hTb
  have HBD := Aside0.mk (tabR_bd ts limit T s (famOf l) HTB.out)
  intro m
  induction m with
  | zero =>
    intro i hi
    obtain rfl : i = n := by omega
    refine Ev.step (fun q => spec_grTable.l1.eq_2 _ _ _ _ _ _ _ _ _ _ _ q) (Ev.neg (by omega) (Ev.pos (by omega) (Ev.pos (by omega) ?_)))
    rw [Int.toNat_natCast]
    exact hq
  | succ m ih =>
    intro i hi
    have hin : i < n := by omega
    have EW := Aside0.mk (show wrap64 ((i : Int) + 1) = ((i + 1 : Nat) : Int) by unfold wrap64; omega)
    have EK := Aside0.mk (show wrap64 ((k : Int) + 1) = ((k + 1 : Nat) : Int) by unfold wrap64; omega)
    have hi7 : i < 7 := by omega
    have hi64 : i < 64 := by omega
    have hkm : k + 1 + (l.length - (k + 1)) = l.length := by omega
    have hits : (i : Int) < (ts.length : Int) := by omega
    have h2 := ih (i + 1) (by omega)
    rw [tabR_succ] at h2
    have HB1 := Aside0.mk (show 0 ≤ (tabR (famOf l) ts limit T s i).2 ∧ (tabR (famOf l) ts limit T s i).2 ≤ 1000000000 by have := HBD.out i (Nat.le_of_lt hi7); omega)
    obtain ⟨p, hp⟩ : ∃ p, tabR (famOf l) ts limit T s i = p := ⟨_, rfl⟩
    rw [hp] at h2 HB1 ⊢
    clear hp
    unfold tabS at h2
    refine Ev.step (fun q => spec_grTable.l1.eq_2 _ _ _ _ _ _ _ _ _ _ _ q) (Ev.pos hits ?_)
    rw [EK.out]
    cases hb : s.testBit i with
    | true =>
      simp only [hb, if_true] at h2
      exact h.l2_skip ts limit out k s r i hi7 hs128 p (by rw [EW.out]; exact h2) (l.length - (k + 1)) (k + 1) hkm (.inl hb)
    | false =>
      simp only [hb, Bool.false_eq_true, if_false] at h2
      have hmem : famOf l (wth s i) = true ↔ ((wth s i : Nat) : Int) ∈ l.drop (k + 1) := by
        rw [famOf_true]
        constructor
        · intro hm
          obtain ⟨q, hq1, hq2⟩ := List.getElem_of_mem hm
          have hlt : s < wth s i := wth_gt s i hs128 hi7 hb
          have hqk : k < q := by
            rcases Nat.lt_trichotomy q k with hlt2 | heq | hgt
            · have := List.pairwise_iff_getElem.1 h.rise q k hq1 hk hlt2; omega
            · subst heq; omega
            · exact hgt
          rw [List.mem_iff_getElem]
          exact ⟨q - (k + 1), by rw [List.length_drop]; omega, by rw [List.getElem_drop]; rw [← hq2]; congr 1; omega⟩
        · intro hm; exact List.mem_of_mem_drop hm
      cases hf : famOf l (wth s i) with
      | true =>
        simp only [hf, if_true] at h2
        exact h.l2_hit ts limit T out k s r ht hl i hin hs128 hb p HB1.out (fun x => ⟨(HTB.out x).1, Int.le_trans (HTB.out x).2 (by decide)⟩) hol hout (by rw [EW.out]; exact h2) (l.length - (k + 1)) (k + 1) hkm (Nat.le_refl _) (hmem.1 hf)
      | false =>
        simp only [hf, Bool.false_eq_true, if_false] at h2
        exact h.l2_skip ts limit out k s r i hi7 hs128 p (by rw [EW.out]; exact h2) (l.length - (k + 1)) (k + 1) hkm (.inr (fun hm => by rw [hmem.2 hm] at hf; cases hf))
end
/-- the value of each set, with as many rounds as it needs -/
def tabT (F : Nat → Bool) (al n : Nat) (ts : List S54) (limit : Int) (s : Nat) : Int × Int := tabV F al n ts limit (8 - cnt s) s
theorem tabT_all (F : Nat → Bool) (al n : Nat) (ts : List S54) (limit : Int) : tabT F al n ts limit al = (-10000, 1) := by
  unfold tabT
  have := cnt_le al
  obtain ⟨d, hd⟩ : ∃ d, 8 - cnt al = d + 1 := ⟨7 - cnt al, by omega⟩
  rw [hd]; simp [tabV]
theorem tabT_bd (F : Nat → Bool) (al n : Nat) (hn : n ≤ 7) (ts : List S54) (limit : Int) (s : Nat) : 0 ≤ (tabT F al n ts limit s).2 ∧ (tabT F al n ts limit s).2 ≤ 100000000 := by
  have h := tabV_bd F al n hn ts limit (8 - cnt s) s
  have h2 : ((7 ^ (8 - cnt s) : Nat) : Int) ≤ ((7 ^ 8 : Nat) : Int) := by
    have := Nat.pow_le_pow_right (n := 7) (by omega) (show 8 - cnt s ≤ 8 by omega)
    exact_mod_cast this
  refine ⟨h.1, Int.le_trans h.2 (Int.le_trans h2 (by decide))⟩
theorem tabS_congr (F : Nat → Bool) (ts : List S54) (limit : Int) (T T' : Nat → Int × Int) (s : Nat) (p : Int × Int) (i : Nat) (h : s.testBit i = false → T (wth s i) = T' (wth s i)) : tabS F ts limit T s p i = tabS F ts limit T' s p i := by
  unfold tabS
  cases hb : s.testBit i with
  | true => simp
  | false => rw [h hb]
theorem tabT_step (F : Nat → Bool) (al n : Nat) (hn : n ≤ 7) (ts : List S54) (limit : Int) (s : Nat) (hs : s < 128) (hne : s ≠ al) : tabT F al n ts limit s = tabR F ts limit (tabT F al n ts limit) s n := by
  have h7 := cnt_le s
  obtain ⟨d, hd⟩ : ∃ d, 8 - cnt s = d + 1 := ⟨7 - cnt s, by omega⟩
  have e1 : tabT F al n ts limit s = tabR F ts limit (tabV F al n ts limit d) s n := by
    unfold tabT; rw [hd]; simp only [tabV, if_neg hne]
  rw [e1]
  have key : ∀ i, i ≤ 7 → tabR F ts limit (tabV F al n ts limit d) s i = tabR F ts limit (tabT F al n ts limit) s i := by
    intro i
    induction i with
    | zero => intro _; rfl
    | succ i ih =>
      intro hi
      rw [tabR_succ, tabR_succ, ih (by omega)]
      apply tabS_congr
      intro hb
      have hc := cnt_wth s i hs (by omega) hb
      unfold tabT
      rw [show 8 - cnt (wth s i) = d by omega]
  exact key n hn
theorem Sp.tab_l0 (h : Sp n l) (ts : List S54) (limit : Int) (ht : ∀ x ∈ ts, taskB x) (hl : ts.length = n) (T : Nat → Int × Int) (hT : T = tabT (famOf l) (2 ^ n - 1) n ts limit) :
    ∀ (m : Nat) (out : List S73), m + 1 ≤ l.length → out.length = l.length → (∀ j (hj : j < l.length), m ≤ j → ∀ x : Nat, l[j] = (x : Int) → rd_T73 out (j : Int) = tb (T x)) →
    Ev (fun q => spec_grTable.l0 q ts limit out ((m : Int) - 1) (n : Int) l) (l.map fun x => tb (T x.toNat)) := by
  have hlen := h.len128
  intro m
  induction m with
  | zero =>
    intro out _ hol hout
    refine Ev.step (fun q => spec_grTable.l0.eq_2 _ _ _ _ _ _ q) (Ev.neg (by omega) (Ev.one ?_))
    apply List.ext_getElem
    · simp [hol]
    · intro j h1 h2
      have hj : j < l.length := by omega
      have hx := h.lt _ (List.getElem_mem hj)
      have e := hout j hj (Nat.zero_le _) l[j].toNat (by rw [Int.toNat_of_nonneg hx.1])
      unfold rd_T73 at e
      simp only [Int.toNat_natCast, List.getD_eq_getElem?_getD, List.getElem?_eq_getElem h1, Option.getD_some] at e
      rw [e]; simp
  | succ m ih =>
    intro out hm hol hout
    have hml : m < l.length := by omega
    have em : ((m + 1 : Nat) : Int) - 1 = (m : Int) := by omega
    have hx := h.lt128 _ (List.getElem_mem hml)
    obtain ⟨s, hs⟩ := Int.eq_ofNat_of_zero_le hx.1
    have hs128 : s < 128 := by omega
    have hf : famOf l s = true := famOf_true.2 (by rw [← hs]; exact List.getElem_mem hml)
    have hne : s ≠ 2 ^ n - 1 := by
      intro e
      have hm2 : m + 1 < l.length := by omega
      have hgt := List.pairwise_iff_getElem.1 h.rise m (m + 1) hml hm2 (by omega)
      have hup := h.famlt (famOf_true.2 (show (((l[m + 1]).toNat : Nat) : Int) ∈ l by rw [Int.toNat_of_nonneg (h.lt128 _ (List.getElem_mem hm2)).1]; exact List.getElem_mem hm2))
      have hup2 := (h.lt128 _ (List.getElem_mem hm2)).1
      rw [hs] at hgt
      omega
    have HTB := Aside0.mk (tabT_bd (famOf l) (2 ^ n - 1) n h.n7 ts limit)
    have hstep : T s = tabR (famOf l) ts limit T s n := by rw [hT]; exact tabT_step _ _ _ h.n7 _ _ _ hs128 hne
    have ew : wrap64 ((m : Int) - 1) = (m : Int) - 1 := by clear hout; unfold wrap64; omega
    have h2 := ih (out.set m (tb (tabR (famOf l) ts limit T s n))) (by omega) (by simp [hol]) (by
      intro j hj hmj x hxj
      by_cases e : j = m
      · subst e
        have hxs : x = s := by omega
        subst hxs
        unfold rd_T73
        rw [← hstep]
        have hjo : j < out.length := by omega
        simp [hjo]
      · have := hout j hj (by omega) x hxj
        rw [← this]
        unfold rd_T73
        simp only [Int.toNat_natCast, List.getD_eq_getElem?_getD]
        rw [List.getElem?_set_ne (by omega)])
    rw [em]
    have hmi : (m : Int) < (l.length : Int) := by omega
    refine Ev.step (fun q => spec_grTable.l0.eq_2 _ _ _ _ _ _ q) (Ev.pos (Int.natCast_nonneg _) (Ev.pos (Int.natCast_nonneg _) (Ev.pos hmi ?_)))
    rw [rd_at l m hml, hs]
    have h3 := h.tab_l1 ts limit T out m s (l.map fun x => tb (T x.toNat)) ht hl hs128 (by rw [hT]; exact HTB.out) hol hml hs hout (by rw [ew]; exact h2) n 0 (Nat.zero_add n)
    exact h3
theorem Sp.grTable (h : Sp n l) (ts : List S54) (limit : Int) (ht : ∀ x ∈ ts, taskB x) (hl : ts.length = n) : Ev (fun q => spec_grTable.f q (n : Int) l ts limit) (l.map fun x => tb (tabT (famOf l) (2 ^ n - 1) n ts limit x.toNat)) := by
  have hlen := h.len128
  have hpos := List.length_pos_iff.2 h.ne
  have e1 : wrap64 ((l.length : Int) - 1) = ((l.length - 1 : Nat) : Int) := by unfold wrap64; omega
  have e2 : wrap64 ((l.length : Int) - 2) = ((l.length - 1 : Nat) : Int) - 1 := by unfold wrap64; omega
  refine Ev.congr (fun q => spec_grTable.f.eq_1 q _ _ _ _) ?_
  simp only [Int.toNat_natCast, Option.bind_some, List.length_replicate]
  refine Ev.pos (Int.natCast_nonneg _) (Ev.pos (by omega) ?_)
  rw [e1, e2]
  refine Ev.pos (Int.natCast_nonneg _) (Ev.pos (by omega) ?_)
  rw [Int.toNat_natCast]
  refine h.tab_l0 ts limit ht hl _ rfl (l.length - 1) _ (by omega) (by simp) ?_
  intro j hj hmj x hxj
  obtain rfl : j = l.length - 1 := by omega
  have hxa : x = 2 ^ n - 1 := by
    have hall := famOf_true.1 h.all
    obtain ⟨q, hq1, hq2⟩ := List.getElem_of_mem hall
    have hxl := h.famlt (famOf_true.2 (by rw [← hxj]; exact List.getElem_mem hj))
    by_cases e : q = l.length - 1
    · subst e; omega
    · have := List.pairwise_iff_getElem.1 h.rise q (l.length - 1) hq1 hj (by omega)
      omega
  rw [hxa, tabT_all]
  unfold rd_T73
  rw [Int.toNat_natCast, List.getD_eq_getElem?_getD, List.getElem?_set_self (by rw [List.length_replicate]; omega)]
  rfl
end Go.Proofs.Ytjhjphgdjhahlaa.P
/- Plain facts: the table counts the words that keep a limit. -/
-- by Sp.n7, Sp.flt, Sp.outer_mem, Sp.greedy_best, Sp.zero, Sp.lt, Sp.rise
namespace Go.Proofs.Ytjhjphgdjhahlaa.P
open Go.RowKit Go.Proofs.YtjhjphgdjhahlaaW.PrintWords Go.Proofs.YtjhjphgdjhahlaaW.PrintLast Go.Proofs.YtjhjphgdjhahlaaW.PrintMore
set_option linter.unusedVariables false
variable {n : Nat} {l : List Int}
def keeps (ts : List S54) (limit : Int) (s : Nat) (y : List Nat) : Bool := (costsL ts s y).all fun c => decide (c ≤ limit)
theorem keeps_cons (ts : List S54) (limit : Int) (s i : Nat) (y : List Nat) : keeps ts limit s (i :: y) = (decide (costB ts s i ≤ limit) && keeps ts limit (wth s i) y) := by
  simp [keeps, costsL]
theorem Sp.outer_range (h : Sp n l) (s : Nat) (hs : famOf l s = true) : itemsOf (outer (famOf l) s) = (List.range n).filter fun i => !s.testBit i && famOf l (wth s i) := by
  unfold itemsOf
  have e : (List.range 7).filter (fun i => (outer (famOf l) s).testBit i) = (List.range 7).filter (fun i => !s.testBit i && famOf l (wth s i)) := by
    apply List.filter_congr
    intro i hi
    have hi7 : i < 7 := by simpa using hi
    rw [outer_bit]; simp [hi7]
  have h7 := h.n7
  have e2 := filter_range_more (fun i => !s.testBit i && famOf l (wth s i)) n (7 - n) (fun i hi => by
    cases hf : famOf l (wth s i) with
    | false => simp
    | true =>
      exfalso
      have h6 := h.famlt hf
      have h8 : 2 ^ i ≤ wth s i := Nat.right_le_or
      have := (Nat.pow_lt_pow_iff_right (a := 2) (by omega)).1 (Nat.lt_of_le_of_lt h8 h6)
      omega)
  rw [show n + (7 - n) = 7 by omega] at e2
  rw [e, e2]
theorem Sp.tab_count (h : Sp n l) (ts : List S54) (limit : Int) : ∀ (d s : Nat), famOf l s = true → (tabV (famOf l) (2 ^ n - 1) n ts limit d s).2 = (((wordsFrom (famOf l) (2 ^ n - 1) d s).countP (keeps ts limit s) : Nat) : Int) := by
  intro d
  induction d with
  | zero => intro s _; simp [tabV, wordsFrom]
  | succ d ih =>
    intro s hs
    simp only [tabV, wordsFrom]
    by_cases e : s = 2 ^ n - 1
    · rw [if_pos e, if_pos e]; simp [keeps, costsL]
    · rw [if_neg e, if_neg e, h.outer_range s hs]
      have key : ∀ i, (tabR (famOf l) ts limit (tabV (famOf l) (2 ^ n - 1) n ts limit d) s i).2 = ((((((List.range i).filter fun i => !s.testBit i && famOf l (wth s i)).flatMap fun i => (wordsFrom (famOf l) (2 ^ n - 1) d (wth s i)).map (i :: ·)).countP (keeps ts limit s) : Nat)) : Int) := by
        intro i
        induction i with
        | zero => simp [tabR]
        | succ i ihi =>
          rw [tabR_succ, List.range_succ, List.filter_append, List.flatMap_append, List.countP_append]
          unfold tabS
          cases hb : s.testBit i with
          | true => simpa [hb] using ihi
          | false =>
            cases hf : famOf l (wth s i) with
            | false => simpa [hb, hf] using ihi
            | true =>
              have e3 : (fun y => keeps ts limit s (i :: y)) = fun y => (decide (costB ts s i ≤ limit) && keeps ts limit (wth s i) y) := by
                funext y; exact keeps_cons ts limit s i y
              have e4 : ((List.filter (fun i => !s.testBit i && famOf l (wth s i)) [i]).flatMap fun i => (wordsFrom (famOf l) (2 ^ n - 1) d (wth s i)).map (i :: ·)) = (wordsFrom (famOf l) (2 ^ n - 1) d (wth s i)).map (i :: ·) := by
                simp [hb, hf]
              rw [e4, List.countP_map]
              have e5 : (keeps ts limit s ∘ fun x => i :: x) = fun y => (decide (costB ts s i ≤ limit) && keeps ts limit (wth s i) y) := e3
              rw [e5]
              simp only [Bool.false_eq_true, if_false, if_true]
              rw [ih (wth s i) hf, ihi]
              by_cases hc : costB ts s i ≤ limit
              · rw [if_pos hc]
                simp [hc]
              · rw [if_neg hc]
                simp [hc]
      exact key n
theorem cntW_count (ts : List S54) (best : Int) (h : List (List Nat)) (hl : h.length ≤ 1000000000) : cntW ts best h = ((h.countP (fun y => decide (costW ts y = best)) : Nat) : Int) := by
  have key : ∀ (h : List (List Nat)) (c : Nat), c + h.length ≤ 1000000000 → h.foldl (fun c x => if costW ts x = best then wrap64 (c + 1) else c) (c : Int) = ((c + h.countP (fun y => decide (costW ts y = best)) : Nat) : Int) := by
    intro h
    induction h with
    | nil => intro c _; simp
    | cons a h ih =>
      intro c hc
      simp only [List.length_cons] at hc
      simp only [List.foldl_cons, List.countP_cons]
      by_cases e : costW ts a = best
      · have ew : wrap64 ((c : Int) + 1) = ((c + 1 : Nat) : Int) := by unfold wrap64; omega
        rw [if_pos e, ew, ih (c + 1) (by omega)]
        simp [e]; omega
      · rw [if_neg e, ih c (by omega)]
        simp [e]
  have := key h 0 (by omega)
  simpa [cntW] using this
theorem Sp.count_eq (h : Sp n l) (ts : List S54) (ht : ∀ x ∈ ts, taskB x) (hl : ts.length = n) : (tabT (famOf l) (2 ^ n - 1) n ts (bestW l n ts) 0).2 = countB l n ts := by
  unfold countB
  rw [cntW_count ts _ _ (Nat.le_trans (words_len _ _ _ _) (by decide))]
  have e0 : tabT (famOf l) (2 ^ n - 1) n ts (bestW l n ts) 0 = tabV (famOf l) (2 ^ n - 1) n ts (bestW l n ts) 8 0 := by
    unfold tabT; rw [show cnt 0 = 0 by decide]
  rw [e0, h.tab_count ts _ 8 0 h.zero]
  congr 1
  apply List.countP_congr
  intro y hy
  have hw := ((mem_words _ _ _).1 hy).2
  have hb := h.greedy_best ts ht hl y hw
  have hbest : -10000 ≤ bestW l n ts := ((mxF_le (costsL ts 0 (greedyW (famOf l) (2 ^ n - 1) (costB ts) 8 0)) (-10000) (bestW l n ts)).1 (Int.le_refl _)).1
  have h1 := mxF_le (costsL ts 0 y) (-10000) (bestW l n ts)
  unfold keeps
  rw [List.all_eq_true, decide_eq_true_eq]
  constructor
  · intro hk
    have hle : costW ts y ≤ bestW l n ts := h1.2 ⟨hbest, fun x hx => by simpa using hk x hx⟩
    exact Int.le_antisymm hle hb
  · intro he x hx
    have := (h1.1 (Int.le_of_eq he)).2 x hx
    simpa using this
theorem Sp.first (h : Sp n l) : 0 < l.length ∧ l[0]?.getD 0 = 0 := by
  have hpos := List.length_pos_iff.2 h.ne
  refine ⟨hpos, ?_⟩
  obtain ⟨q, hq1, hq2⟩ := List.getElem_of_mem (famOf_true.1 h.zero)
  have h0 := (h.lt _ (List.getElem_mem hpos)).1
  rw [List.getElem?_eq_getElem hpos, Option.getD_some]
  by_cases e : q = 0
  · subst e; exact hq2
  · have := List.pairwise_iff_getElem.1 h.rise 0 q hpos hq1 (by omega)
    omega
end Go.Proofs.Ytjhjphgdjhahlaa.P
/- The reference's outer fringe. -/
-- by Sp.n7, Sp.flt, Sp.lt, Sp.outer_mem
namespace Go.Proofs.Ytjhjphgdjhahlaa.P
open Go.RowKit Go.Proofs.YtjhjphgdjhahlaaW.PrintWords Go.Proofs.YtjhjphgdjhahlaaW.PrintLast Go.Proofs.YtjhjphgdjhahlaaW.PrintMore
set_option linter.unusedVariables false
variable {n : Nat} {l : List Int}
theorem Sp.spHas (h : Sp n l) (x : Nat) : Ev (fun k => spec_spHas.f k l (x : Int)) (famOf l x) := by
  have := spHas_pure l (x : Int) h.rise (by have := h.len128; omega)
  exact this
theorem Sp.spOuter_from (h : Sp n l) (x : Nat) (hx : x < 2 ^ n) : ∀ (j i : Nat), i + j = n → Ev (fun k => spec_spOuter.l0 k (x : Int) ((outerF (famOf l) x (List.range i) : Nat) : Int) (i : Int) (n : Int) l) ((outer (famOf l) x : Nat) : Int) := by
  have h7 := h.n7
  have hx128 : x < 128 := Nat.lt_of_lt_of_le hx h.pow
  intro j
  induction j with
  | zero =>
    intro i hi
    obtain rfl : i = n := by omega
    refine Ev.step (fun k => spec_spOuter.l0.eq_2 _ _ _ _ _ k) (Ev.neg (by omega) (Ev.one ?_))
    have e : ∀ m, i + m ≤ 7 → outerF (famOf l) x (List.range (i + m)) = outerF (famOf l) x (List.range i) := by
      intro m
      induction m with
      | zero => intro _; rfl
      | succ m ihm =>
        intro hm
        rw [← Nat.add_assoc, outerF_succ, ihm (by omega)]
        have hf : famOf l (wth x (i + m)) = false := by
          cases hc : famOf l (wth x (i + m)) with
          | false => rfl
          | true =>
            exfalso
            have h6 := h.famlt hc
            have h8 : 2 ^ (i + m) ≤ wth x (i + m) := Nat.right_le_or
            have := (Nat.pow_lt_pow_iff_right (a := 2) (by omega)).1 (Nat.lt_of_le_of_lt h8 h6)
            omega
        rw [hf]; simp
    have := e (7 - i) (by omega)
    rw [show i + (7 - i) = 7 by omega] at this
    rw [outer, this]
  | succ j ih =>
    intro i hi
    have ew : wrap64 ((i : Int) + 1) = ((i + 1 : Nat) : Int) := by unfold wrap64; omega
    have hil : i < 7 := by omega
    have hol := outerF_lt (famOf l) x i (by omega)
    have h2 := ih (i + 1) (by omega)
    rw [outerF_succ] at h2
    refine Ev.step (fun k => spec_spOuter.l0.eq_2 _ _ _ _ _ k) (Ev.pos (by omega) ?_)
    rw [spIn_nat x i (by omega), ew]
    refine Ev.bind (Ev.now _) ?_
    cases hb : x.testBit i with
    | true =>
      refine Ev.pos rfl ?_
      simpa [hb] using h2
    | false =>
      refine Ev.neg (by simp) (Ev.pos (by omega) ?_)
      rw [shl_one i (by omega), go_wth x i hx128 hil, go_wth _ i hol hil]
      refine Ev.bind (h.spHas (wth x i)) ?_
      cases hf : famOf l (wth x i) with
      | true =>
        refine Ev.pos rfl ?_
        simpa [hb, hf] using h2
      | false =>
        refine Ev.neg (by simp) ?_
        simpa [hb, hf] using h2
theorem Sp.spOuter (h : Sp n l) (x : Nat) (hx : x < 2 ^ n) : Ev (fun k => spec_spOuter.f k (n : Int) l (x : Int)) ((outer (famOf l) x : Nat) : Int) :=
  Ev.congr (fun k => spec_spOuter.f.eq_1 k _ _ _) (by have := h.spOuter_from x hx n 0 (by omega); simpa [outerF] using this)
end Go.Proofs.Ytjhjphgdjhahlaa.P
/- The reference's greedy word. -/
-- by Sp.pick_ok, Sp.outer_mem, Sp.cnt_lt, Sp.n7, Sp.flt, Sp.spOuter, Sp.zero
namespace Go.Proofs.Ytjhjphgdjhahlaa.P
open Go.RowKit Go.Proofs.YtjhjphgdjhahlaaW.PrintWords Go.Proofs.YtjhjphgdjhahlaaW.PrintLast Go.Proofs.YtjhjphgdjhahlaaW.PrintMore
set_option linter.unusedVariables false
variable {n : Nat} {l : List Int}
/-- what has been picked among the first of the items -/
def pickR (F : Nat → Bool) (v : Nat → Int) (s i : Nat) : Int × Int := pickS v ((List.range i).filter fun j => (outer F s).testBit j)
theorem pickR_succ (F : Nat → Bool) (v : Nat → Int) (s i : Nat) : pickR F v s (i + 1) = if (outer F s).testBit i then (if (pickR F v s i).1 < 0 ∨ v i < (pickR F v s i).2 then ((i : Int), v i) else pickR F v s i) else pickR F v s i := by
  unfold pickR
  rw [List.range_succ, List.filter_append]
  cases h : (outer F s).testBit i
  · simp [h]
  · simp only [h, List.filter_cons, List.filter_nil, if_true]; rw [pickS_snoc]
theorem pickS_cases (v : Nat → Int) (it : List Nat) : pickS v it = (-1, 0) ∧ it = [] ∨ ∃ b ∈ it, pickS v it = ((b : Int), v b) := by
  by_cases h : it = []
  · left; rw [h]; exact ⟨rfl, rfl⟩
  · right; obtain ⟨b, h1, h2, _⟩ := pick_mem v it h; exact ⟨b, h1, h2⟩
theorem Sp.pickR_all (h : Sp n l) (v : Nat → Int) {s : Nat} (hs : famOf l s = true) : pickR (famOf l) v s n = pickS v (itemsOf (outer (famOf l) s)) := by
  unfold pickR itemsOf
  have h7 := h.n7
  have := filter_range_more (fun j => (outer (famOf l) s).testBit j) n (7 - n) (fun i hi => by
    cases hc : (outer (famOf l) s).testBit i with
    | false => rfl
    | true =>
      exfalso
      rw [outer_bit] at hc
      simp only [Bool.and_eq_true, decide_eq_true_eq] at hc
      have := (h.outer_mem hs (mem_outer.2 ⟨hc.1, by simpa using hc.2.1, hc.2.2⟩)).1
      omega)
  rw [show n + (7 - n) = 7 by omega] at this
  rw [this]
theorem Sp.grGreedy_l1 (h : Sp n l) (ts : List S54) (ht : ∀ x ∈ ts, taskB x) (hl : ts.length = n) (o : List Int) (s : Nat) (hs : famOf l s = true) (r : List Int)
    (hq : ∀ b : Nat, (b : Int) = (pickR (famOf l) (costB ts s) s n).1 → Ev (fun k => spec_grGreedy.l0 k ts (o ++ [(b : Int)]) (Go.bits .or .i64 (s : Int) (shl .i64 1 (b : Int))) (n : Int) l) r) (hne : 0 ≤ (pickR (famOf l) (costB ts s) s n).1) (ho : o.length < 100) :
    ∀ (j i : Nat), i + j = n → Ev (fun k => spec_grGreedy.l1 k ts o (s : Int) (pickR (famOf l) (costB ts s) s i).1 ((outer (famOf l) s : Nat) : Int) (ts.length : Int) (i : Int) (n : Int) l) r := by
  have h7 := h.n7
  have hs128 := h.flt hs
  intro j
  induction j with
  | zero =>
    intro i hi
    obtain rfl : i = n := by omega
    refine Ev.step (fun k => spec_grGreedy.l1.eq_2 _ _ _ _ _ _ _ _ _ k) (Ev.neg (by omega) (Ev.pos (by omega) (Ev.pos hne ?_)))
    obtain ⟨b, hb⟩ := Int.eq_ofNat_of_zero_le hne
    have := hq b hb.symm
    rw [hb]; exact this
  | succ j ih =>
    intro i hi
    have ew : wrap64 ((i : Int) + 1) = ((i + 1 : Nat) : Int) := by unfold wrap64; omega
    have h2 := ih (i + 1) (by omega)
    rw [pickR_succ] at h2
    refine Ev.step (fun k => spec_grGreedy.l1.eq_2 _ _ _ _ _ _ _ _ _ k) (Ev.pos (by omega) ?_)
    rw [spIn_nat _ i (by omega), ew]
    refine Ev.bind (Ev.now _) ?_
    cases hb : (outer (famOf l) s).testBit i with
    | false =>
      refine Ev.neg (by simp) ?_
      simpa [hb] using h2
    | true =>
      refine Ev.pos rfl ?_
      simp only [hb, if_true] at h2
      rcases pickS_cases (costB ts s) ((List.range i).filter fun j => (outer (famOf l) s).testBit j) with ⟨he, _⟩ | ⟨b, hbm, he⟩
      · have he' : pickR (famOf l) (costB ts s) s i = (-1, 0) := he
        rw [he'] at h2 ⊢
        refine Ev.pos (by simp) ?_
        simpa using h2
      · have he' : pickR (famOf l) (costB ts s) s i = ((b : Int), costB ts s b) := he
        have hbi : b < i := by have := (List.mem_filter.1 hbm).1; simpa using this
        rw [he'] at h2 ⊢
        refine Ev.neg (by simp) (Ev.bind (grCost_pure ts s i ht (by omega) (by omega) hs128) (Ev.bind (grCost_pure ts s b ht (by omega) (by omega) hs128) ?_))
        by_cases hc : costB ts s i < costB ts s b
        · refine Ev.pos hc ?_
          rw [if_pos (.inr hc)] at h2; exact h2
        · refine Ev.neg hc ?_
          rw [if_neg (by simp; omega)] at h2; exact h2
theorem Sp.grGreedy_l0 (h : Sp n l) (ts : List S54) (ht : ∀ x ∈ ts, taskB x) (hl : ts.length = n) : ∀ (d s : Nat) (o : List Nat), famOf l s = true → d + cnt s = 8 → o.length = cnt s →
    Ev (fun k => spec_grGreedy.l0 k ts (ints o) (s : Int) (n : Int) l) (ints (o ++ greedyW (famOf l) (2 ^ n - 1) (costB ts) d s)) := by
  have h7 := h.n7
  intro d
  induction d with
  | zero => intro s o _ hd; have := cnt_le s; omega
  | succ d ih =>
    intro s o hs hd ho
    have hlt := h.famlt hs
    have hs128 := h.flt hs
    simp only [greedyW]
    by_cases e : s = 2 ^ n - 1
    · have hc : cnt s = n := by rw [e]; exact cnt_all n h7
      rw [if_pos e, List.append_nil]
      refine Ev.step (fun k => spec_grGreedy.l0.eq_2 _ _ _ _ _ k) (Ev.neg (by rw [ints_len]; omega) (Ev.now _))
    · have hc := h.cnt_lt hs e
      rw [if_neg e]
      obtain ⟨hpm, hpe, -⟩ := h.pick_ok (costB ts) hs e
      obtain ⟨hp1, hp2, hp3⟩ := h.outer_mem hs hpm
      have hpr := h.pickR_all (costB ts s) hs
      rw [hpe] at hpr
      refine Ev.step (fun k => spec_grGreedy.l0.eq_2 _ _ _ _ _ k) (Ev.pos (by rw [ints_len]; omega) (Ev.bind (h.spOuter s hlt) ?_))
      have hl1 := h.grGreedy_l1 ts ht hl (ints o) s hs (ints (o ++ pick (famOf l) (costB ts) s :: greedyW (famOf l) (2 ^ n - 1) (costB ts) d (wth s (pick (famOf l) (costB ts) s)))) (fun b hb => by
        rw [hpr] at hb
        have hb2 : (b : Int) = ((pick (famOf l) (costB ts) s : Nat) : Int) := hb
        have hb' : b = pick (famOf l) (costB ts) s := by omega
        subst hb'
        have h8 := ih (wth s (pick (famOf l) (costB ts) s)) (o ++ [pick (famOf l) (costB ts) s]) hp3 (by rw [cnt_wth s _ hs128 (by omega) hp2]; omega) (by rw [cnt_wth s _ hs128 (by omega) hp2]; simp [ho])
        rw [shl_one _ (by omega), go_wth s _ hs128 (by omega)]
        rw [ints_snoc, List.append_assoc] at h8
        exact h8) (by rw [hpr]; exact Int.natCast_nonneg _) (by rw [ints_len]; omega) n 0 (by omega)
      have e0 : (pickR (famOf l) (costB ts s) s 0).1 = -1 := rfl
      rw [e0] at hl1
      exact hl1
theorem Sp.grGreedy (h : Sp n l) (ts : List S54) (ht : ∀ x ∈ ts, taskB x) (hl : ts.length = n) : Ev (fun k => spec_grGreedy.f k (n : Int) l ts) (ints (greedyW (famOf l) (2 ^ n - 1) (costB ts) 8 0)) := by
  refine Ev.congr (fun k => spec_grGreedy.f.eq_1 k _ _ _) ?_
  have := h.grGreedy_l0 ts ht hl 8 0 [] h.zero (by decide) (by decide)
  exact this
end Go.Proofs.Ytjhjphgdjhahlaa.P
/- The reference's 'CountBest'. -/
-- by Sp.of, Sp.grGreedy, Sp.grTable, Sp.count_eq, Sp.first, Sp.words_ok, Sp.greedy_word, Sp.n1
namespace Go.Proofs.Ytjhjphgdjhahlaa.P
open Go.RowKit Go.Proofs.YtjhjphgdjhahlaaW.PrintWords Go.Proofs.YtjhjphgdjhahlaaW.PrintLast Go.Proofs.YtjhjphgdjhahlaaW.PrintMore
set_option linter.unusedVariables false
set_option maxHeartbeats 1600000
set_option maxRecDepth 100000

def spec_CountBest.f (a0_0 : Int) (l0_1 : List Int) (l1 : List S54) : Option (Int × Bool) := if l0_1.length < 1152921504606846976 then (if isSpB a0_0 l0_1 = true ∧ tasksOk l1 a0_0 = true then some (countB l0_1 a0_0.toNat l1, true) else some (0, false)) else none
theorem specCount_no (a0 : Int) (l : List Int) (ts : List S54) (A : Option Addr) (c : Nat) (A1 : Option Addr) (c1 : Nat) (w : World) (hlen : l.length < 1152921504606846976) (hno : ¬ (isSpB a0 l = true ∧ tasksOk ts a0 = true)) (hr : Kd.C (Kd.int .i64) w A l.length l) (hc : l.length ≤ c) (hr1 : Kd.C k54 w A1 ts.length ts) (hc1 : ts.length ≤ c1) :
    Calls Try.prog 22 #[.agg #[.int .i64 a0, .slice A l.length c], .slice A1 ts.length c1] w fun e w' => e = .returned (.tuple #[.int .i64 0, .bool false]) ∧ Below w.heap.size w w' := by
  have hg : (isSpB a0 l && tasksOk ts a0) = false := by
    cases h1 : isSpB a0 l <;> cases h2 : tasksOk ts a0 <;> simp_all
  obtain ⟨k, hk⟩ := Ev.rounds (grGiven_pure a0 l ts hlen)
  rw [hg] at hk
  have hu := Try.underlying28
  have HK := Aside0.mk hk
  have HR := Aside0.mk hr
  have HC := Aside0.mk hc
  have HR1 := Aside0.mk hr1
  have HC1 := Aside0.mk hc1
  clear hno hg hk hr hc hr1 hc1 hlen
  go_enter Try.func22, Try.ntmps22
  go_wp2_with fail
  refine (spec_grGiven.calls k a0 A c l A1 c1 ts false _ (Kd.C_alloc HR.out _) HC.out (Kd.C_alloc HR1.out _) HC1.out HK.out).mono ?_
  rintro e w1 ⟨rfl, hb⟩
  have HB := Aside0.mk (below_step (below_alloc (Below.refl _ w) _) hb)
  clear hb
  go_wp2_with fail
  go_ret2
  exact ⟨rfl, HB.out⟩
theorem specCount_yes (n : Nat) (l : List Int) (hsp : Sp n l) (hs : isSpB (n : Int) l = true) (ts : List S54) (hts : tasksOk ts (n : Int) = true) (A : Option Addr) (c : Nat) (A1 : Option Addr) (c1 : Nat) (w : World) (hr : Kd.C (Kd.int .i64) w A l.length l) (hc : l.length ≤ c) (hr1 : Kd.C k54 w A1 ts.length ts) (hc1 : ts.length ≤ c1) :
    Calls Try.prog 22 #[.agg #[.int .i64 (n : Int), .slice A l.length c], .slice A1 ts.length c1] w fun e w' => e = .returned (.tuple #[.int .i64 (countB l n ts), .bool true]) ∧ Below w.heap.size w w' := by
  obtain ⟨h17, hln, ht⟩ := taskB_of hts
  have hln' : ts.length = n := by omega
  have hl7 : ts.length ≤ 7 := by omega
  obtain ⟨k, hk⟩ := Ev.rounds (grGiven_pure (n : Int) l ts (by have := hsp.len128; omega))
  rw [hs, hts] at hk
  obtain ⟨k1, hk1⟩ := Ev.rounds (hsp.grGreedy ts ht hln')
  obtain ⟨hw1, hw2⟩ := hsp.words_ok _ (hsp.greedy_word (costB ts))
  obtain ⟨k2, hk2⟩ := Ev.rounds (grOf_pure ts ht hl7 _ (fun i hi => by rw [hln']; exact hw2 i hi) (by omega))
  change _ = some (bestW l n ts) at hk2
  obtain ⟨k3, hk3⟩ := Ev.rounds (hsp.grTable ts (bestW l n ts) ht hln')
  have hcount := hsp.count_eq ts ht hln'
  obtain ⟨hpos, hfst⟩ := hsp.first
  have hu := Try.underlying28
  obtain ⟨gw, hgw⟩ : ∃ gw, greedyW (famOf l) (2 ^ n - 1) (costB ts) 8 0 = gw := ⟨_, rfl⟩
  rw [hgw] at hk1 hk2
  obtain ⟨bw, hbw⟩ : ∃ bw, bestW l n ts = bw := ⟨_, rfl⟩
  rw [hbw] at hk2 hk3 hcount
  obtain ⟨tt, htt⟩ : ∃ tt, (l.map fun x => tb (tabT (famOf l) (2 ^ n - 1) n ts bw x.toNat)) = tt := ⟨_, rfl⟩
  rw [htt] at hk3
  have htl : tt.length = l.length := by rw [← htt]; simp
  have ht0 : (rd_T73 tt 0).f1 = countB l n ts := by
    rw [← hcount, ← htt]
    unfold rd_T73
    have e0 : (0 : Int).toNat = 0 := rfl
    rw [e0, List.getD_eq_getElem?_getD, List.getElem?_map]
    rw [List.getElem?_eq_getElem hpos] at hfst ⊢
    simp only [Option.getD_some] at hfst
    simp only [Option.map_some, Option.getD_some, hfst]
    rfl
  have HK := Aside0.mk hk
  have HK1 := Aside0.mk hk1
  have HK2 := Aside0.mk hk2
  have HK3 := Aside0.mk hk3
  have HT0 := Aside0.mk ht0
  have HR := Aside0.mk hr
  have HC := Aside0.mk hc
  have HR1 := Aside0.mk hr1
  have HC1 := Aside0.mk hc1
  have hpos2 : 0 < tt.length := by omega
  obtain ⟨cb, hcb⟩ : ∃ cb, countB l n ts = cb := ⟨_, rfl⟩
  rw [hcb] at HT0 ⊢
  clear hk hk1 hk2 hk3 ht0 hr hc hr1 hc1 hsp hs hts ht hln hln' hl7 h17 hw1 hw2 hcount hpos hfst hgw hbw htt htl hcb
  go_enter Try.func22, Try.ntmps22
  go_wp2_with fail
  refine (spec_grGiven.calls k (n : Int) A c l A1 c1 ts true _ (Kd.C_alloc HR.out _) HC.out (Kd.C_alloc HR1.out _) HC1.out HK.out).mono ?_
  rintro e w1 ⟨rfl, hb⟩
  have HB := Aside0.mk (below_step (below_alloc (Below.refl _ w) _) hb)
  have HS := Aside0.mk (blk_below (blk_new w _) hb)
  have hc0 : w1.cell? ⟨w.heap.size, 0, none⟩ = some (.int .i64 (n : Int)) := (blk_cell HS.out 0).trans rfl
  have hc1' : w1.cell? ⟨w.heap.size, 1, none⟩ = some (.slice A l.length c) := (blk_cell HS.out 1).trans rfl
  have hz0 : w.heap.size < w1.heap.size := blk_lt HS.out
  clear hb
  go_wp2_with fail
  have HC0 := Aside0.mk hc0
  go_region_with (first
    | (go_at_call 60; refine (spec_grGreedy.calls k1 (n : Int) A c l A1 c1 ts _ _ (Kd.C_drew (Kd.C_below HR.out HB.out)) HC.out (Kd.C_drew (Kd.C_below HR1.out HB.out)) HC1.out HK1.out).mono ?_; rintro e w2 ⟨v1, rfl, ho, hb⟩; obtain ⟨A2, c2, rfl⟩ := Kd.R_slice ho; have HGW := Aside0.mk (Kd.R_reads' ho).2; have HB2 := Aside0.mk (below_then (below_drew1 (Below.refl w1.heap.size w1)) (Nat.le_refl _) hb); have hs0 : w2.cell? ⟨w.heap.size, 0, none⟩ = some (.int .i64 (n : Int)) := pw_cell_below HB2.out hc0; have hs1 : w2.cell? ⟨w.heap.size, 1, none⟩ = some (.slice A l.length c) := pw_cell_below HB2.out hc1'; clear ho hb)
    | (go_at_call 59; refine (spec_grOf.calls k2 A1 c1 ts A2 c2 (ints gw) _ _ (Kd.C_below (Kd.C_below HR1.out HB.out) HB2.out) HC1.out HGW.out.2 HGW.out.1 HK2.out).mono ?_; rintro e w3 ⟨rfl, hb⟩; have HB3 := Aside0.mk (below_step HB2.out hb); have hs0' : w3.cell? ⟨w.heap.size, 0, none⟩ = some (.int .i64 (n : Int)) := pw_cell_below HB3.out hc0; have hs1' : w3.cell? ⟨w.heap.size, 1, none⟩ = some (.slice A l.length c) := pw_cell_below HB3.out hc1'; clear hb)
    | (go_at_call 58; refine (spec_grTable.calls k3 (n : Int) A c l A1 c1 ts bw _ _ (Kd.C_below (Kd.C_below HR.out HB.out) HB3.out) HC.out (Kd.C_below (Kd.C_below HR1.out HB.out) HB3.out) HC1.out HK3.out).mono ?_; rintro e w4 ⟨v3, rfl, ho, hb⟩; obtain ⟨A4, c4, rfl⟩ := Kd.R_slice ho; obtain ⟨ad, e4, hx0, hx1⟩ := at_T73 (Kd.R_reads' ho).2.2 0 (by omega) (by omega); cases e4; rw [HT0.out] at hx1; (try rw [show ((0 : Int)).toNat = 0 from rfl] at hx1); (try rw [show 0 * 2 = 0 from rfl] at hx1); (try rw [Addr.add_zero'] at hx1); have HB4 := Aside0.mk (below_step HB3.out hb); clear ho hb hx0))
  all_goals
    go_wp2_with fail
    go_ret2
    exact ⟨rfl, below_step HB.out HB4.out⟩
theorem spec_CountBest.calls (a0_0 : Int) (A0_1 : Option Addr) (c0_1 : Nat) (l0_1 : List Int) (A1 : Option Addr) (c1 : Nat) (l1 : List S54) (r1 : Int) (r2 : Bool) (w : World) (hr0_1 : Kd.C (Kd.int .i64) w A0_1 l0_1.length l0_1) (hc0_1 : l0_1.length ≤ c0_1) (hr1 : Kd.C k54 w A1 l1.length l1) (hc1 : l1.length ≤ c1) (h : spec_CountBest.f a0_0 l0_1 l1 = some (r1, r2)) :
    Calls Try.prog 22 #[.agg #[.int .i64 a0_0, .slice A0_1 l0_1.length c0_1], .slice A1 l1.length c1] w fun e w' => e = .returned (.tuple #[.int .i64 r1, .bool r2]) ∧ Below w.heap.size w w' := by
  unfold spec_CountBest.f at h
  split at h
  · rename_i hlen
    split at h
    · rename_i hc
      obtain ⟨n, rfl, hs⟩ := Sp.of hc.1
      simp only [Option.some.injEq, Prod.mk.injEq, Int.toNat_natCast] at h
      obtain ⟨rfl, rfl⟩ := h
      exact specCount_yes n l0_1 hs hc.1 l1 hc.2 A0_1 c0_1 A1 c1 w hr0_1 hc0_1 hr1 hc1
    · rename_i hc
      simp only [Option.some.injEq, Prod.mk.injEq] at h
      obtain ⟨rfl, rfl⟩ := h
      exact specCount_no a0_0 l0_1 l1 A0_1 c0_1 A1 c1 w hlen hc hr0_1 hc0_1 hr1 hc1
  · cases h
end Go.Proofs.Ytjhjphgdjhahlaa.P
