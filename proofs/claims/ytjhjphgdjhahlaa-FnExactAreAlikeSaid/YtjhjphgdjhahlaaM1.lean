/- Texts of this claim, put together: Q4, Q5, XCore, XCmp, XGood, XAlBefore, XFam, XKb, XCore2, XThose, XFringe, XIsSpace. -/
import Derived.Test.YtjhjphgdjhahlaaM0
import Derived.Laws.BitsLemmas
import Derived.Test.YtjhjphgdjhahlaaWWords
import Derived.Test.YtjhjphgdjhahlaaWMore
import Derived.Sort.Grow
import Derived.Test.YtjhjphgdjhahlaaWKept
-- PRINTED by print.py (a twelfth state) out of the translation. Not trusted: Lean checks it.
namespace Go.Proofs.Ytjhjphgdjhahlaa.P
open Go.RowKit Go.Proofs.YtjhjphgdjhahlaaW.PrintWords Go.Proofs.YtjhjphgdjhahlaaW.PrintLast Go.Proofs.YtjhjphgdjhahlaaW.PrintMore
attribute [local go_sem] max2_int min2_int max_two min_two max_three min_three max_four min_four   -- for this text's walks alone
set_option linter.unusedVariables false
set_option linter.unusedSimpArgs false

/-! ### spec_alNamed: function 93 -/
mutual
def spec_alNamed.l0 : Nat → List Int → List Int → List Int → Int → Int → Option (List Int)
  | 0, _, _, _, _, _ => none
  | k + 1, x1, x5, x12, x13, x14 => if x14 < x13 then (if 0 ≤ x14 then (if x14 < (x12.length : Int) then (spec_alNamed.l1 k x1 x5 (rd x12 x14) 0 x12 x13 x14 x1 (x1.length : Int) 0) else (none)) else (none)) else (some x5)
def spec_alNamed.l1 : Nat → List Int → List Int → Int → Int → List Int → Int → Int → List Int → Int → Int → Option (List Int)
  | 0, _, _, _, _, _, _, _, _, _, _ => none
  | k + 1, x1, x5, x7, x8, x12, x13, x14, x18, x19, x20 => if x20 < x19 then (if 0 ≤ x20 then (if x20 < (x18.length : Int) then ((spec_spIn.f x7 x20).bind fun t198 => (if t198 = true then (if 0 ≤ (rd x18 x20) then (spec_alNamed.l1 k x1 x5 x7 (Go.bits .or .i64 x8 (shl .i64 1 (rd x18 x20))) x12 x13 x14 x18 x19 (wrap64 (x20 + 1))) else (none)) else (spec_alNamed.l1 k x1 x5 x7 x8 x12 x13 x14 x18 x19 (wrap64 (x20 + 1))))) else (none)) else (none)) else ((spec_spPut.f k x5 x8).bind fun t199 => (spec_alNamed.l0 k x1 t199 x12 x13 (wrap64 (x14 + 1))))
end
def spec_alNamed.f (k : Nat) (a0_0 : Int) (l0_1 : List Int) (l1 : List Int) : Option (List Int) := spec_alNamed.l0 k l1 ([] : List Int) l0_1 (l0_1.length : Int) 0
theorem spec_alNamed.mono_l : ∀ k, (∀ y0 y1 y2 y3 y4, LeO (spec_alNamed.l0 k y0 y1 y2 y3 y4) (spec_alNamed.l0 (k + 1) y0 y1 y2 y3 y4)) ∧ (∀ y0 y1 y2 y3 y4 y5 y6 y7 y8 y9, LeO (spec_alNamed.l1 k y0 y1 y2 y3 y4 y5 y6 y7 y8 y9) (spec_alNamed.l1 (k + 1) y0 y1 y2 y3 y4 y5 y6 y7 y8 y9))
  | 0 => ⟨fun _ _ _ _ _ r h => by simp [spec_alNamed.l0] at h, fun _ _ _ _ _ _ _ _ _ _ r h => by simp [spec_alNamed.l1] at h⟩
  | k + 1 => by
    obtain ⟨ih0, ih1⟩ := spec_alNamed.mono_l k
    refine ⟨?_, ?_⟩
    · intro y0 y1 y2 y3 y4
      unfold spec_alNamed.l0
      repeat' first
      | (with_reducible exact ih0 _ _ _ _ _)
      | (with_reducible exact ih1 _ _ _ _ _ _ _ _ _ _)
      | (with_reducible exact spec_spPut.mono _ _ _)
      | (with_reducible exact LeO.refl _)
      | (with_reducible exact LeO.none _)
      | (with_reducible refine LeO.ite ?_ ?_)
      | (with_reducible refine LeO.bind ?_ (fun _ => ?_))
      | exact ih0 _ _ _ _ _
      | exact ih1 _ _ _ _ _ _ _ _ _ _
      | exact spec_spPut.mono _ _ _
      | exact LeO.none _
      | refine LeO.ite ?_ ?_
      | refine LeO.bind ?_ (fun _ => ?_)
    · intro y0 y1 y2 y3 y4 y5 y6 y7 y8 y9
      unfold spec_alNamed.l1
      repeat' first
      | (with_reducible exact ih0 _ _ _ _ _)
      | (with_reducible exact ih1 _ _ _ _ _ _ _ _ _ _)
      | (with_reducible exact spec_spPut.mono _ _ _)
      | (with_reducible exact LeO.refl _)
      | (with_reducible exact LeO.none _)
      | (with_reducible refine LeO.ite ?_ ?_)
      | (with_reducible refine LeO.bind ?_ (fun _ => ?_))
      | exact ih0 _ _ _ _ _
      | exact ih1 _ _ _ _ _ _ _ _ _ _
      | exact spec_spPut.mono _ _ _
      | exact LeO.none _
      | refine LeO.ite ?_ ?_
      | refine LeO.bind ?_ (fun _ => ?_)
theorem spec_alNamed.mono : ∀ a0 a1 a2 k, LeO (spec_alNamed.f k a0 a1 a2) (spec_alNamed.f (k + 1) a0 a1 a2) := by
  intro a0 a1 a2 k
  obtain ⟨ih0, ih1⟩ := spec_alNamed.mono_l k
  unfold spec_alNamed.f
  repeat' first
      | (with_reducible exact ih0 _ _ _ _ _)
      | (with_reducible exact ih1 _ _ _ _ _ _ _ _ _ _)
      | (with_reducible exact spec_spPut.mono _ _ _)
      | (with_reducible exact LeO.refl _)
      | (with_reducible exact LeO.none _)
      | (with_reducible refine LeO.ite ?_ ?_)
      | (with_reducible refine LeO.bind ?_ (fun _ => ?_))
      | exact ih0 _ _ _ _ _
      | exact ih1 _ _ _ _ _ _ _ _ _ _
      | exact spec_spPut.mono _ _ _
      | exact LeO.none _
      | refine LeO.ite ?_ ?_
      | refine LeO.bind ?_ (fun _ => ?_)
set_option maxHeartbeats 8000000 in
set_option maxRecDepth 100000 in
theorem spec_alNamed.calls (k : Nat) (a0_0 : Int) (A0_1 : Option Addr) (c0_1 : Nat) (l0_1 : List Int) (A1 : Option Addr) (c1 : Nat) (l1 : List Int) (r : List Int) (w : World) (hr0_1 : Kd.C (Kd.int .i64) w A0_1 l0_1.length l0_1) (hc0_1 : l0_1.length ≤ c0_1) (hr1 : Kd.C (Kd.int .i64) w A1 l1.length l1) (hc1 : l1.length ≤ c1) (h : spec_alNamed.f k a0_0 l0_1 l1 = some r) :
    Calls Try.prog 93 #[.agg #[.int .i64 a0_0, .slice A0_1 l0_1.length c0_1], .slice A1 l1.length c1] w fun e w' => ∃ v0_ : Value, e = .returned (v0_) ∧ Kd.R (Kd.int .i64) 3 w' w.heap.size (fun _ => True) v0_ r ∧ Below w.heap.size w w' := by
  have hu28 := Try.underlying28
  have HR0_1 := Aside0.mk hr0_1
  have HC0_1 := Aside0.mk hc0_1
  clear hr0_1 hc0_1
  have HR1 := Aside0.mk hr1
  have HC1 := Aside0.mk hc1
  clear hr1 hc1
  have HB := Aside0.mk (Below.refl w.heap.size w)
  have H : (spec_alNamed.l0 k l1 ([] : List Int) l0_1 (l0_1.length : Int) 0) = some r := h
  clear h
  have H' := Aside0.mk H
  clear H
  go_enter Try.func93, Try.ntmps93
  go_wp2_with (first | ((with_reducible refine gate_dst (N := 2) rfl ?_); refine box_event ?hg (N := 2) ?hd (cs := #[.int .i64 a0_0, .slice A0_1 l0_1.length c0_1]) (t := 28) ?hr ?_; (case hd => rfl); (case hg => rfl); (case hr => first | (go_simp; done) | (go_simp; rfl)); intro gb195 hg w3 hbox hb; have n0_ := Aside0.mk (below_step (by repeat (first | (with_reducible first | exact HB.out | apply below_alloc | apply pw_below_drewN | apply below_drew1) | exact HB.out)) hb); have n1_ := Aside0.mk (hbox); have n2_ := Aside0.mk ((by rw [hg]; exact (below_size (by repeat (first | (with_reducible first | exact HB.out | apply below_alloc | apply pw_below_drewN | apply below_drew1) | exact HB.out))) : w.heap.size ≤ gb195)); have n3_ := Aside0.mk ((by rw [hg]; exact (below_size (by repeat (first | (with_reducible first | exact HB.out | apply below_alloc | apply pw_below_drewN | apply below_drew1) | exact HB.out))) : w.heap.size ≤ gb195)); clear HB; have HB := n0_; have BK195 := n1_; have GW195 := n2_; have GE195 := n3_; clear n0_ n1_ n2_ n3_; clear hb hbox hg; have hcz4_0 : w3.cell? ⟨gb195, 0, none⟩ = some (.int .i64 a0_0) := (blk_cell BK195.out 0).trans rfl; have hcz4_1 : w3.cell? ⟨gb195, 1, none⟩ = some (.slice A0_1 l0_1.length c0_1) := (blk_cell BK195.out 1).trans rfl; have hfz4_0 := blk_frozen BK195.out 0; have hfz4_1 := blk_frozen BK195.out 1))
  go_loopg [5, 14] k (fun kq v5 v14 w' => ∃ (x5_1 : List Int) (x14_1 : Int), v14 = .int .i64 x14_1 ∧ Aside0 (spec_alNamed.l0 kq l1 x5_1 l0_1 (l0_1.length : Int) x14_1 = some r) ∧ Aside0 (kq ≤ k) ∧ Aside0 (Kd.R (Kd.int .i64) 3 w' w.heap.size (fun _ => True) v5 x5_1) ∧ Aside0 (w'.heap[gb195]? = some (.cells #[.int .i64 a0_0, (.slice A0_1 l0_1.length c0_1)] 28 (0, 0))) ∧ Aside0 (Below w.heap.size w w'))
  case atStart => exact ⟨(([] : List Int)), (0), (by first | rfl | (simp; done) | (simp [*]; done)), H', ⟨Nat.le_refl _⟩, ⟨by first | exact Kd.R_nil _ _ _ _ _ | exact Kd.N_nil _ _ _ _ _ | exact Kd.V_nil _ _ _ _ _ | exact Kd.Q_nil _ _ _ _ _ | exact Kd.S_nil _ _ _ _ _⟩, ⟨by (with_reducible repeat (first | refine blk_drewN ?_ _ | refine blk_drew ?_ | refine blk_alloc ?_ _)); exact BK195.out⟩, ⟨by repeat (first | (with_reducible first | exact HB.out | apply below_alloc | apply pw_below_drewN | apply below_drew1 | refine below_set ?_ GE195.out) | exact HB.out)⟩⟩
  case round =>
    clear H'
    try clear c1
    try clear p2
    try clear hcz4_0
    try clear hcz4_1
    try clear hfz4_0
    try clear hfz4_1
    obtain ⟨x5_1, x14_1, rfl, HA, HK1, HO_5, BK195, HB⟩ := hrel
    cases gk with
    | zero => exact absurd HA.out (by simp [spec_alNamed.l0])
    | succ k1 =>
      have H := HA.out
      clear HA
      simp only [spec_alNamed.l0] at H
      by_cases c5 : x14_1 < (l0_1.length : Int)
      · rw [if_pos c5] at H
        have c5b0 : decide (x14_1 < (l0_1.length : Int)) = true := decide_eq_true c5
        clear c5
        by_cases c6 : 0 ≤ x14_1
        · rw [if_pos c6] at H
          have c6b0 : decide (0 ≤ x14_1) = true := decide_eq_true c6
          clear c6
          by_cases c7 : x14_1 < (l0_1.length : Int)
          · rw [if_pos c7] at H
            have c7b0 : decide (x14_1 < (l0_1.length : Int)) = true := decide_eq_true c7
            clear c7
            have H' := Aside0.mk H
            clear H
            have p196 : 0 ≤ (x14_1 : Int) := of_decide_eq_true (by first | (with_reducible assumption) | assumption)
            have q196 : x14_1 < (l0_1.length : Int) := of_decide_eq_true (by first | (with_reducible assumption) | assumption)
            obtain ⟨ad196, e196, hx196_0⟩ := Kd.at_int HR0_1.out x14_1 p196 q196
            cases e196
            replace hx196_0 := (HB.out.cell (World.block_lt_of_cell? w _ hx196_0)).trans hx196_0
            replace p196 := eq_true p196
            replace q196 := eq_true q196
            go_wp2
            go_loopg [8, 20] k1 (fun kq v8 v20 w' => ∃ (x8_2 : Int) (x20_2 : Int), v8 = .int .i64 x8_2 ∧ v20 = .int .i64 x20_2 ∧ Aside0 (spec_alNamed.l1 kq l1 x5_1 (rd l0_1 x14_1) x8_2 l0_1 (l0_1.length : Int) x14_1 l1 (l1.length : Int) x20_2 = some r) ∧ Aside0 (kq ≤ k1) ∧ Aside0 (Kd.R (Kd.int .i64) 3 w' w.heap.size (fun _ => True) u5 x5_1) ∧ Aside0 (w'.heap[gb195]? = some (.cells #[.int .i64 a0_0, (.slice (some ad196) l0_1.length c0_1)] 28 (0, 0))) ∧ Aside0 (Below w.heap.size w w'))
            case atStart => exact ⟨(0), (0), (by first | rfl | (simp; done) | (simp [*]; done)), (by first | rfl | (simp; done) | (simp [*]; done)), H', ⟨Nat.le_refl _⟩, ⟨by (with_reducible repeat (first | apply Kd.R_alloc | apply Kd.R_drewN | apply Kd.R_drew)); exact HO_5.out⟩, ⟨by (with_reducible repeat (first | refine blk_drewN ?_ _ | refine blk_drew ?_ | refine blk_alloc ?_ _)); exact BK195.out⟩, ⟨by repeat (first | (with_reducible first | exact HB.out | apply below_alloc | apply pw_below_drewN | apply below_drew1 | refine below_set ?_ GE195.out) | exact HB.out)⟩⟩
            case round =>
              clear H'
              try clear c1
              try clear p1
              try clear q1
              try clear hx1
              try clear p2
              try clear c5
              try clear c5b0
              try clear c6
              try clear c6b0
              try clear c7
              try clear c7b0
              try clear hcz4_0
              try clear hcz4_1
              try clear hfz4_0
              try clear hfz4_1
              try clear hx196_0
              try clear p196
              try clear p2
              try clear q196
              obtain ⟨x8_2, x20_2, rfl, rfl, HA, HK2, HO_5, BK195, HB⟩ := hrel
              cases gk with
              | zero => exact absurd HA.out (by simp [spec_alNamed.l1])
              | succ k2 =>
                have H := HA.out
                clear HA
                simp only [spec_alNamed.l1] at H
                by_cases c8 : x20_2 < (l1.length : Int)
                · rw [if_pos c8] at H
                  have c8b0 : decide (x20_2 < (l1.length : Int)) = true := decide_eq_true c8
                  clear c8
                  by_cases c9 : 0 ≤ x20_2
                  · rw [if_pos c9] at H
                    have c9b0 : decide (0 ≤ x20_2) = true := decide_eq_true c9
                    clear c9
                    by_cases c10 : x20_2 < (l1.length : Int)
                    · rw [if_pos c10] at H
                      have c10b0 : decide (x20_2 < (l1.length : Int)) = true := decide_eq_true c10
                      clear c10
                      replace H := Option.bind_eq_some_iff.mp H
                      obtain ⟨t198, A110, H⟩ := H
                      replace H : (if t198 = true then (if 0 ≤ (rd l1 x20_2) then (spec_alNamed.l1 k2 l1 x5_1 (rd l0_1 x14_1) (Go.bits .or .i64 x8_2 (shl .i64 1 (rd l1 x20_2))) l0_1 (l0_1.length : Int) x14_1 l1 (l1.length : Int) (wrap64 (x20_2 + 1))) else (none)) else (spec_alNamed.l1 k2 l1 x5_1 (rd l0_1 x14_1) x8_2 l0_1 (l0_1.length : Int) x14_1 l1 (l1.length : Int) (wrap64 (x20_2 + 1)))) = some r := H
                      have A11 := Aside0.mk A110
                      clear A110
                      by_cases c12 : t198 = true
                      · subst c12
                        have H1 : (if 0 ≤ (rd l1 x20_2) then (spec_alNamed.l1 k2 l1 x5_1 (rd l0_1 x14_1) (Go.bits .or .i64 x8_2 (shl .i64 1 (rd l1 x20_2))) l0_1 (l0_1.length : Int) x14_1 l1 (l1.length : Int) (wrap64 (x20_2 + 1))) else (none)) = some r := by rw [if_pos rfl] at H; exact H
                        clear H
                        have H := H1
                        clear H1
                        by_cases c13 : 0 ≤ (rd l1 x20_2)
                        · rw [if_pos c13] at H
                          have c13b0 := eq_true c13
                          have c13b1 : decide (0 ≤ (rd l1 x20_2)) = true := decide_eq_true c13
                          clear c13
                          obtain ⟨ji14, hji14⟩ : ∃ j_ : Int, (shl .i64 1 (rd l1 x20_2)) = j_ := ⟨_, rfl⟩
                          replace H : (spec_alNamed.l1 k2 l1 x5_1 (rd l0_1 x14_1) (Go.bits .or .i64 x8_2 (ji14)) l0_1 (l0_1.length : Int) x14_1 l1 (l1.length : Int) (wrap64 (x20_2 + 1))) = some r := by first | (rw [hji14] at H; exact H) | (simp only [hji14] at H ⊢; exact H)
                          (try rw [hji14] at A11)
                          have hji14_ : (IntKind.i64.wrap (1 * 2 ^ min (rd l1 x20_2).toNat 64)) = ji14 := hji14
                          have hji14z : (rd l1 x20_2) ≤ 64 → (IntKind.i64.wrap (1 * 2 ^ (rd l1 x20_2).toNat)) = ji14 := shl_small hji14
                          have hji14u : (IntKind.i64.wrap (2 ^ min (rd l1 x20_2).toNat 64)) = ji14 := by have h_ := hji14_; rw [Int.one_mul] at h_; exact h_
                          have hji14v : (rd l1 x20_2) ≤ 64 → (IntKind.i64.wrap (2 ^ (rd l1 x20_2).toNat)) = ji14 := fun hle_ => by have h_ := hji14z hle_; rw [Int.one_mul] at h_; exact h_
                          have hji14y : (wrap64 (1 * 2 ^ min (rd l1 x20_2).toNat 64)) = ji14 := (i64_w _).symm.trans hji14_
                          have hji14x : (rd l1 x20_2) ≤ 64 → (wrap64 (1 * 2 ^ (rd l1 x20_2).toNat)) = ji14 := fun h_ => (i64_w _).symm.trans (hji14z h_)
                          have H' := Aside0.mk H
                          clear H
                          have p197 : 0 ≤ (x20_2 : Int) := of_decide_eq_true (by first | (with_reducible assumption) | assumption)
                          have q197 : x20_2 < (l1.length : Int) := of_decide_eq_true (by first | (with_reducible assumption) | assumption)
                          obtain ⟨ad197, e197, hx197_0⟩ := Kd.at_int HR1.out x20_2 p197 q197
                          cases e197
                          replace hx197_0 := (HB.out.cell (World.block_lt_of_cell? w _ hx197_0)).trans hx197_0
                          replace p197 := eq_true p197
                          replace q197 := eq_true q197
                          go_wp2_with (first | ((with_reducible refine gate_callee (f := 102) rfl ?_); refine goesL_ (some 27) rfl rfl Try.func102 (by kernel_rfl) rfl #[.int .i64 (rd l0_1 x14_1), .int .i64 x20_2] rfl (by (try simp only [List.map_toArray, List.map_cons, List.map_nil]); first | done | rfl | (simp only [List.length_drop, List.length_take]; rfl)) ?_; (with_reducible refine (spec_spIn.calls (rd l0_1 x14_1) x20_2 true _ A11.out).mono ?_); rintro e w' ⟨rfl, ⟨nd, rfl⟩⟩; refine ⟨_, rfl, ?_⟩))
                          go_roundg k2
                          case measure => have := HK1.out; have := HK2.out; omega
                          case rel => exact ⟨(Go.bits .or .i64 x8_2 (ji14)), (wrap64 (x20_2 + 1)), (by first | rfl | (simp; done) | (simp only [← hji14] <;> (first | rfl | simp)) | (simp [*]; done)), (by first | rfl | (simp; done) | (simp [*]; done)), H', ⟨by have := HK1.out; have := HK2.out; omega⟩, ⟨by (with_reducible repeat (first | apply Kd.R_alloc | apply Kd.R_drewN | apply Kd.R_drew)); exact HO_5.out⟩, ⟨by (with_reducible repeat (first | refine blk_drewN ?_ _ | refine blk_drew ?_ | refine blk_alloc ?_ _)); exact BK195.out⟩, ⟨by repeat (first | (with_reducible first | exact HB.out | apply below_alloc | apply pw_below_drewN | apply below_drew1 | refine below_set ?_ GE195.out) | exact HB.out)⟩⟩
                        · rw [if_neg c13] at H
                          exact absurd H (by simp)
                      · replace c12 := Bool.eq_false_iff.mpr c12
                        subst c12
                        have H1 : (spec_alNamed.l1 k2 l1 x5_1 (rd l0_1 x14_1) x8_2 l0_1 (l0_1.length : Int) x14_1 l1 (l1.length : Int) (wrap64 (x20_2 + 1))) = some r := by rw [if_neg (show ¬ (false = true) by decide)] at H; exact H
                        clear H
                        have H := H1
                        clear H1
                        have H' := Aside0.mk H
                        clear H
                        have p197 : 0 ≤ (x20_2 : Int) := of_decide_eq_true (by first | (with_reducible assumption) | assumption)
                        have q197 : x20_2 < (l1.length : Int) := of_decide_eq_true (by first | (with_reducible assumption) | assumption)
                        obtain ⟨ad197, e197, hx197_0⟩ := Kd.at_int HR1.out x20_2 p197 q197
                        cases e197
                        replace hx197_0 := (HB.out.cell (World.block_lt_of_cell? w _ hx197_0)).trans hx197_0
                        replace p197 := eq_true p197
                        replace q197 := eq_true q197
                        go_wp2_with (first | ((with_reducible refine gate_callee (f := 102) rfl ?_); refine goesL_ (some 27) rfl rfl Try.func102 (by kernel_rfl) rfl #[.int .i64 (rd l0_1 x14_1), .int .i64 x20_2] rfl (by (try simp only [List.map_toArray, List.map_cons, List.map_nil]); first | done | rfl | (simp only [List.length_drop, List.length_take]; rfl)) ?_; (with_reducible refine (spec_spIn.calls (rd l0_1 x14_1) x20_2 false _ A11.out).mono ?_); rintro e w' ⟨rfl, ⟨nd, rfl⟩⟩; refine ⟨_, rfl, ?_⟩))
                        go_roundg k2
                        case measure => have := HK1.out; have := HK2.out; omega
                        case rel => exact ⟨(x8_2), (wrap64 (x20_2 + 1)), (by first | rfl | (simp; done) | (simp [*]; done)), (by first | rfl | (simp; done) | (simp [*]; done)), H', ⟨by have := HK1.out; have := HK2.out; omega⟩, ⟨by (with_reducible repeat (first | apply Kd.R_alloc | apply Kd.R_drewN | apply Kd.R_drew)); exact HO_5.out⟩, ⟨by (with_reducible repeat (first | refine blk_drewN ?_ _ | refine blk_drew ?_ | refine blk_alloc ?_ _)); exact BK195.out⟩, ⟨by repeat (first | (with_reducible first | exact HB.out | apply below_alloc | apply pw_below_drewN | apply below_drew1 | refine below_set ?_ GE195.out) | exact HB.out)⟩⟩
                    · rw [if_neg c10] at H
                      exact absurd H (by simp)
                  · rw [if_neg c9] at H
                    exact absurd H (by simp)
                · rw [if_neg c8] at H
                  have c8b0 : decide (x20_2 < (l1.length : Int)) = false := decide_eq_false c8
                  clear c8
                  replace H := Option.bind_eq_some_iff.mp H
                  obtain ⟨t199, A150, H⟩ := H
                  replace H : (spec_alNamed.l0 k2 l1 t199 l0_1 (l0_1.length : Int) (wrap64 (x14_1 + 1))) = some r := H
                  have A15 := Aside0.mk A150
                  clear A150
                  have H' := Aside0.mk H
                  clear H
                  obtain ⟨Ao16, co16, eo16⟩ := Kd.R_slice HO_5.out
                  subst eo16
                  go_wp2_with (first | ((with_reducible refine gate_callee (f := 132) rfl ?_); refine goesL_ (some 35) rfl rfl Try.func132 (by kernel_rfl) rfl #[.slice Ao16 x5_1.length co16, .int .i64 x8_2] rfl (by (try simp only [List.map_toArray, List.map_cons, List.map_nil]); first | done | rfl | (simp only [List.length_drop, List.length_take]; rfl)) ?_; (with_reducible refine (spec_spPut.calls k2 (fun k_ => some k_ = (.slice Ao16 x5_1.length co16 : Value).ownBlock) (.slice Ao16 x5_1.length co16) x5_1 x8_2 t199 w _ ?side1 ?side2 A15.out).mono ?_); (case side1 => repeat (first | (with_reducible first | exact HB.out | apply below_alloc | apply pw_below_drewN | apply below_drew1 | refine below_set ?_ GE195.out) | exact HB.out)); (case side2 => exact Kd.R_tight rfl HO_5.out); rintro e w17 ⟨v200, rfl, ho0, hb, hkp⟩; refine ⟨_, rfl, ?_⟩; have n0_ := Aside0.mk (blk_kept (by (with_reducible repeat (first | refine blk_drewN ?_ _ | refine blk_drew ?_ | refine blk_alloc ?_ _)); exact BK195.out) hkp (fun hs_ => (fun e_ => (Kd.R_ne HO_5.out BK195.out (by decide)) e_) hs_)); have n1_ := Aside0.mk (Kd.R_mono (ok' := fun k_ => True) ho0 (fun k_ hk_ => trivial)); have n2_ := Aside0.mk (hb); clear BK195; clear HB; clear HO_5; have BK195 := n0_; have HO201 := n1_; have HB := n2_; clear n0_ n1_ n2_; (try clear hb); (try clear hkp); (try clear ho0)))
                  go_roundg k2
                  case measure => have := HK1.out; have := HK2.out; omega
                  case rel => exact ⟨(t199), (wrap64 (x14_1 + 1)), (by first | rfl | (simp; done) | (simp [*]; done)), H', ⟨by have := HK1.out; have := HK2.out; omega⟩, ⟨by (with_reducible repeat (first | apply Kd.R_alloc | apply Kd.R_drewN | apply Kd.R_drew)); exact HO201.out⟩, ⟨by (with_reducible repeat (first | refine blk_drewN ?_ _ | refine blk_drew ?_ | refine blk_alloc ?_ _)); exact BK195.out⟩, ⟨by repeat (first | (with_reducible first | exact HB.out | apply below_alloc | apply pw_below_drewN | apply below_drew1 | refine below_set ?_ GE195.out) | exact HB.out)⟩⟩
          · rw [if_neg c7] at H
            exact absurd H (by simp)
        · rw [if_neg c6] at H
          exact absurd H (by simp)
      · rw [if_neg c5] at H
        have c5b0 : decide (x14_1 < (l0_1.length : Int)) = false := decide_eq_false c5
        clear c5
        obtain rfl := Option.some.inj H
        go_wp2
        go_ret
        exact ⟨_, by first | rfl | (simp [errW_none, errW_some] <;> rfl) | (simp [*, errW_none, errW_some] <;> rfl), by (with_reducible repeat (first | apply Kd.R_alloc | apply Kd.R_drewN | apply Kd.R_drew)); exact HO_5.out, by repeat (first | (with_reducible first | exact HB.out | apply below_alloc | apply pw_below_drewN | apply below_drew1 | refine below_set ?_ GE195.out) | exact HB.out)⟩

/-! ### spec_alBefore: function 94 -/
mutual
def spec_alBefore.l0 : Nat → List Int → List Int → Int → Option (Bool)
  | 0, _, _, _ => none
  | k + 1, x0, x1, x5 => if x5 < (x0.length : Int) then (spec_alBefore.j1 k x0 x1 x5 (decide (x5 < (x1.length : Int)))) else (spec_alBefore.j1 k x0 x1 x5 false)
def spec_alBefore.j1 : Nat → List Int → List Int → Int → Bool → Option (Bool)
  | 0, _, _, _, _ => none
  | k + 1, x0, x1, x5, x15 => if x15 = true then (if 0 ≤ x5 then (if x5 < (x0.length : Int) then (if x5 < (x1.length : Int) then (if (rd x0 x5) = (rd x1 x5) then (spec_alBefore.l0 k x0 x1 (wrap64 (x5 + 1))) else (some (decide ((rd x0 x5) < (rd x1 x5))))) else (none)) else (none)) else (none)) else (some (decide ((x0.length : Int) < (x1.length : Int))))
end
def spec_alBefore.f (k : Nat) (l0 : List Int) (l1 : List Int) : Option (Bool) := spec_alBefore.l0 k l0 l1 0
theorem spec_alBefore.mono_l : ∀ k, (∀ y0 y1 y2, LeO (spec_alBefore.l0 k y0 y1 y2) (spec_alBefore.l0 (k + 1) y0 y1 y2)) ∧ (∀ y0 y1 y2 y3, LeO (spec_alBefore.j1 k y0 y1 y2 y3) (spec_alBefore.j1 (k + 1) y0 y1 y2 y3))
  | 0 => ⟨fun _ _ _ r h => by simp [spec_alBefore.l0] at h, fun _ _ _ _ r h => by simp [spec_alBefore.j1] at h⟩
  | k + 1 => by
    obtain ⟨ih0, ih1⟩ := spec_alBefore.mono_l k
    refine ⟨?_, ?_⟩
    · intro y0 y1 y2
      unfold spec_alBefore.l0
      repeat' first
      | (with_reducible exact ih0 _ _ _)
      | (with_reducible exact ih1 _ _ _ _)
      | (with_reducible exact LeO.refl _)
      | (with_reducible exact LeO.none _)
      | (with_reducible refine LeO.ite ?_ ?_)
      | (with_reducible refine LeO.bind ?_ (fun _ => ?_))
      | exact ih0 _ _ _
      | exact ih1 _ _ _ _
      | exact LeO.none _
      | refine LeO.ite ?_ ?_
      | refine LeO.bind ?_ (fun _ => ?_)
    · intro y0 y1 y2 y3
      unfold spec_alBefore.j1
      repeat' first
      | (with_reducible exact ih0 _ _ _)
      | (with_reducible exact ih1 _ _ _ _)
      | (with_reducible exact LeO.refl _)
      | (with_reducible exact LeO.none _)
      | (with_reducible refine LeO.ite ?_ ?_)
      | (with_reducible refine LeO.bind ?_ (fun _ => ?_))
      | exact ih0 _ _ _
      | exact ih1 _ _ _ _
      | exact LeO.none _
      | refine LeO.ite ?_ ?_
      | refine LeO.bind ?_ (fun _ => ?_)
theorem spec_alBefore.mono : ∀ a0 a1 k, LeO (spec_alBefore.f k a0 a1) (spec_alBefore.f (k + 1) a0 a1) := by
  intro a0 a1 k
  obtain ⟨ih0, ih1⟩ := spec_alBefore.mono_l k
  unfold spec_alBefore.f
  repeat' first
      | (with_reducible exact ih0 _ _ _)
      | (with_reducible exact ih1 _ _ _ _)
      | (with_reducible exact LeO.refl _)
      | (with_reducible exact LeO.none _)
      | (with_reducible refine LeO.ite ?_ ?_)
      | (with_reducible refine LeO.bind ?_ (fun _ => ?_))
      | exact ih0 _ _ _
      | exact ih1 _ _ _ _
      | exact LeO.none _
      | refine LeO.ite ?_ ?_
      | refine LeO.bind ?_ (fun _ => ?_)
set_option maxHeartbeats 8000000 in
set_option maxRecDepth 100000 in
theorem spec_alBefore.calls (k : Nat) (A0 : Option Addr) (c0 : Nat) (l0 : List Int) (A1 : Option Addr) (c1 : Nat) (l1 : List Int) (r : Bool) (w : World) (hr0 : Kd.C (Kd.int .i64) w A0 l0.length l0) (hc0 : l0.length ≤ c0) (hr1 : Kd.C (Kd.int .i64) w A1 l1.length l1) (hc1 : l1.length ≤ c1) (h : spec_alBefore.f k l0 l1 = some r) :
    Calls Try.prog 94 #[.slice A0 l0.length c0, .slice A1 l1.length c1] w fun e w' => e = .returned (.bool r) ∧ Drawn0 w w' := by
  have HR0 := Aside0.mk hr0
  have HC0 := Aside0.mk hc0
  clear hr0 hc0
  have HR1 := Aside0.mk hr1
  have HC1 := Aside0.mk hc1
  clear hr1 hc1
  have H : (spec_alBefore.l0 k l0 l1 0) = some r := h
  clear h
  have H' := Aside0.mk H
  clear H
  go_enter Try.func94, Try.ntmps94
  go_wp2
  repeat (go_quiet (fail); try go_wp2)
  go_loopg [5] k (fun kq v5 w' => ∃ (x5_1 : Int), v5 = .int .i64 x5_1 ∧ Aside0 (spec_alBefore.l0 kq l0 l1 x5_1 = some r) ∧ Aside0 (kq ≤ k) ∧ Drawn0 w w')
  case atStart => exact ⟨(0), (by first | rfl | (simp; done) | (simp [*]; done)), H', ⟨Nat.le_refl _⟩, by repeat (first | exact Drawn0.refl _ | apply Drawn0.step)⟩
  case round =>
    clear H'
    try clear c1
    try clear p2
    obtain ⟨x5_1, rfl, HA, HK1, ⟨m1, rfl⟩⟩ := hrel
    cases gk with
    | zero => exact absurd HA.out (by simp [spec_alBefore.l0])
    | succ k1 =>
      have H := HA.out
      clear HA
      simp only [spec_alBefore.l0] at H
      have HC3 := Aside0.mk H
      clear H
      go_upto_region 2 with (fail)
      repeat (go_quiet (fail); go_upto_region 2 with (fail))
      go_cut [15] (fun v15 wc => ∃ (kq : Nat) (x15_2 : Bool), v15 = .bool x15_2 ∧ Aside0 (spec_alBefore.j1 kq l0 l1 x5_1 x15_2 = some r) ∧ Aside0 (kq ≤ k1) ∧ Drawn0 w wc)
      case first =>
        have H := HC3.out
        clear HC3
        by_cases c4 : x5_1 < (l0.length : Int)
        · rw [if_pos c4] at H
          have c4b0 : decide (x5_1 < (l0.length : Int)) = true := decide_eq_true c4
          clear c4
          (first | rw [c4b0] | (simp only [i64_w, i32_w]; rw [c4b0]) | skip)
          have H' := Aside0.mk H
          clear H
          go_wp2
          repeat (go_quiet (fail); try go_wp2)
          go_meet
          case rel => exact ⟨_, (decide (x5_1 < (l1.length : Int))), (by first | rfl | (simp; done) | (simp [*]; done)), H', ⟨by have := HK1.out; first | omega | exact Nat.le_refl _⟩, by repeat (first | exact Drawn0.refl _ | apply Drawn0.step)⟩
        · rw [if_neg c4] at H
          have c4b0 : decide (x5_1 < (l0.length : Int)) = false := decide_eq_false c4
          clear c4
          (first | rw [c4b0] | (simp only [i64_w, i32_w]; rw [c4b0]) | skip)
          have H' := Aside0.mk H
          clear H
          go_wp2
          repeat (go_quiet (fail); try go_wp2)
          go_meet
          case rel => exact ⟨_, (false), (by first | rfl | (simp; done) | (simp [*]; done)), H', ⟨by have := HK1.out; first | omega | exact Nat.le_refl _⟩, by repeat (first | exact Drawn0.refl _ | apply Drawn0.step)⟩
      case rest =>
        clear HC3
        try clear c1
        try clear p2
        try clear c4
        try clear c4b0
        try clear p2
        obtain ⟨kq, x15_2, rfl, HA, HJ2, ⟨mc2, rfl⟩⟩ := hcut
        cases kq with
        | zero => exact absurd HA.out (by simp [spec_alBefore.j1])
        | succ kj2 =>
          have H := HA.out
          clear HA
          simp only [spec_alBefore.j1] at H
          by_cases c5 : x15_2 = true
          · subst c5
            have H1 : (if 0 ≤ x5_1 then (if x5_1 < (l0.length : Int) then (if x5_1 < (l1.length : Int) then (if (rd l0 x5_1) = (rd l1 x5_1) then (spec_alBefore.l0 kj2 l0 l1 (wrap64 (x5_1 + 1))) else (some (decide ((rd l0 x5_1) < (rd l1 x5_1))))) else (none)) else (none)) else (none)) = some r := by rw [if_pos rfl] at H; exact H
            clear H
            have H := H1
            clear H1
            by_cases c6 : 0 ≤ x5_1
            · rw [if_pos c6] at H
              have c6b0 : decide (0 ≤ x5_1) = true := decide_eq_true c6
              clear c6
              by_cases c7 : x5_1 < (l0.length : Int)
              · rw [if_pos c7] at H
                have c7b0 : decide (x5_1 < (l0.length : Int)) = true := decide_eq_true c7
                clear c7
                by_cases c8 : x5_1 < (l1.length : Int)
                · rw [if_pos c8] at H
                  have c8b0 : decide (x5_1 < (l1.length : Int)) = true := decide_eq_true c8
                  clear c8
                  by_cases c9 : (rd l0 x5_1) = (rd l1 x5_1)
                  · rw [if_pos c9] at H
                    have c9b0 : ((rd l0 x5_1) == (rd l1 x5_1)) = true := beq_iff_eq.mpr c9
                    have c9b1 : ((rd l0 x5_1) != (rd l1 x5_1)) = false := bne_eq_false_iff_eq.mpr c9
                    clear c9
                    have H' := Aside0.mk H
                    clear H
                    have p202 : 0 ≤ (x5_1 : Int) := of_decide_eq_true (by first | (with_reducible assumption) | assumption)
                    have q202 : x5_1 < (l0.length : Int) := of_decide_eq_true (by first | (with_reducible assumption) | assumption)
                    obtain ⟨ad202, e202, hx202_0⟩ := Kd.at_int HR0.out x5_1 p202 q202
                    cases e202
                    replace p202 := eq_true p202
                    replace q202 := eq_true q202
                    have p203 : 0 ≤ (x5_1 : Int) := of_decide_eq_true (by first | (with_reducible assumption) | assumption)
                    have q203 : x5_1 < (l1.length : Int) := of_decide_eq_true (by first | (with_reducible assumption) | assumption)
                    obtain ⟨ad203, e203, hx203_0⟩ := Kd.at_int HR1.out x5_1 p203 q203
                    cases e203
                    replace p203 := eq_true p203
                    replace q203 := eq_true q203
                    go_wp2
                    repeat (go_quiet (fail); try go_wp2)
                    go_roundg kj2
                    case measure => have := HK1.out; have := HJ2.out; omega
                    case rel => exact ⟨(wrap64 (x5_1 + 1)), (by first | rfl | (simp; done) | (simp [*]; done)), H', ⟨by have := HK1.out; have := HJ2.out; omega⟩, by repeat (first | exact Drawn0.refl _ | apply Drawn0.step)⟩
                  · rw [if_neg c9] at H
                    have c9b0 : ((rd l0 x5_1) == (rd l1 x5_1)) = false := beq_eq_false_iff_ne.mpr c9
                    have c9b1 : ((rd l0 x5_1) != (rd l1 x5_1)) = true := bne_iff_ne.mpr c9
                    obtain rfl := Option.some.inj H
                    have p202 : 0 ≤ (x5_1 : Int) := of_decide_eq_true (by first | (with_reducible assumption) | assumption)
                    have q202 : x5_1 < (l0.length : Int) := of_decide_eq_true (by first | (with_reducible assumption) | assumption)
                    obtain ⟨ad202, e202, hx202_0⟩ := Kd.at_int HR0.out x5_1 p202 q202
                    cases e202
                    replace p202 := eq_true p202
                    replace q202 := eq_true q202
                    have p203 : 0 ≤ (x5_1 : Int) := of_decide_eq_true (by first | (with_reducible assumption) | assumption)
                    have q203 : x5_1 < (l1.length : Int) := of_decide_eq_true (by first | (with_reducible assumption) | assumption)
                    obtain ⟨ad203, e203, hx203_0⟩ := Kd.at_int HR1.out x5_1 p203 q203
                    cases e203
                    replace p203 := eq_true p203
                    replace q203 := eq_true q203
                    have p204 : 0 ≤ (x5_1 : Int) := of_decide_eq_true (by first | (with_reducible assumption) | assumption)
                    have q204 : x5_1 < (l0.length : Int) := of_decide_eq_true (by first | (with_reducible assumption) | assumption)
                    obtain ⟨ad204, e204, hx204_0⟩ := Kd.at_int HR0.out x5_1 p204 q204
                    obtain rfl : ad202 = ad204 := (by injection e204)
                    replace p204 := eq_true p204
                    replace q204 := eq_true q204
                    have p205 : 0 ≤ (x5_1 : Int) := of_decide_eq_true (by first | (with_reducible assumption) | assumption)
                    have q205 : x5_1 < (l1.length : Int) := of_decide_eq_true (by first | (with_reducible assumption) | assumption)
                    obtain ⟨ad205, e205, hx205_0⟩ := Kd.at_int HR1.out x5_1 p205 q205
                    obtain rfl : ad203 = ad205 := (by injection e205)
                    replace p205 := eq_true p205
                    replace q205 := eq_true q205
                    go_wp2
                    repeat (go_quiet (fail); try go_wp2)
                    go_ret
                    exact ⟨by first | rfl | (simp; done) | (simp [*]; done), by repeat (first | exact Drawn0.refl _ | apply Drawn0.step)⟩
                · rw [if_neg c8] at H
                  exact absurd H (by simp)
              · rw [if_neg c7] at H
                exact absurd H (by simp)
            · rw [if_neg c6] at H
              exact absurd H (by simp)
          · replace c5 := Bool.eq_false_iff.mpr c5
            subst c5
            have H1 : (some (decide ((l0.length : Int) < (l1.length : Int)))) = some r := by rw [if_neg (show ¬ (false = true) by decide)] at H; exact H
            clear H
            have H := H1
            clear H1
            obtain rfl := Option.some.inj H
            go_wp2
            repeat (go_quiet (fail); try go_wp2)
            go_ret
            exact ⟨by first | rfl | (simp; done) | (simp [*]; done), by repeat (first | exact Drawn0.refl _ | apply Drawn0.step)⟩

/-! ### laws_toIntS: function 50 -/
def laws_toIntS.l0 : Nat → List Int → List Int → Int → Option (List Int)
  | 0, _, _, _ => none
  | k + 1, x0, x3, x4 => if x4 < (x0.length : Int) then (if 0 ≤ x4 then (if x4 < (x3.length : Int) then (laws_toIntS.l0 k x0 (x3.set (x4 : Int).toNat (rd x0 x4)) (wrap64 (x4 + 1))) else (none)) else (none)) else (some x3)
def laws_toIntS.f (k : Nat) (l0 : List Int) : Option (List Int) := if 0 ≤ (l0.length : Int) then (if ((l0.length : Int) : Int).toNat ≤ 35184372088832 then (laws_toIntS.l0 k l0 (List.replicate ((l0.length : Int) : Int).toNat 0) 0) else (none)) else (none)
theorem laws_toIntS.mono_l : ∀ k, (∀ y0 y1 y2, LeO (laws_toIntS.l0 k y0 y1 y2) (laws_toIntS.l0 (k + 1) y0 y1 y2))
  | 0 => fun _ _ _ r h => by simp [laws_toIntS.l0] at h
  | k + 1 => by
    have ih0 := laws_toIntS.mono_l k
    · intro y0 y1 y2
      unfold laws_toIntS.l0
      repeat' first
      | (with_reducible exact ih0 _ _ _)
      | (with_reducible exact LeO.refl _)
      | (with_reducible exact LeO.none _)
      | (with_reducible refine LeO.ite ?_ ?_)
      | (with_reducible refine LeO.bind ?_ (fun _ => ?_))
      | exact ih0 _ _ _
      | exact LeO.none _
      | refine LeO.ite ?_ ?_
      | refine LeO.bind ?_ (fun _ => ?_)
theorem laws_toIntS.mono : ∀ a0 k, LeO (laws_toIntS.f k a0) (laws_toIntS.f (k + 1) a0) := by
  intro a0 k
  have ih0 := laws_toIntS.mono_l k
  unfold laws_toIntS.f
  repeat' first
      | (with_reducible exact ih0 _ _ _)
      | (with_reducible exact LeO.refl _)
      | (with_reducible exact LeO.none _)
      | (with_reducible refine LeO.ite ?_ ?_)
      | (with_reducible refine LeO.bind ?_ (fun _ => ?_))
      | exact ih0 _ _ _
      | exact LeO.none _
      | refine LeO.ite ?_ ?_
      | refine LeO.bind ?_ (fun _ => ?_)
set_option maxHeartbeats 8000000 in
set_option maxRecDepth 100000 in
theorem laws_toIntS.calls (k : Nat) (A0 : Option Addr) (c0 : Nat) (l0 : List Int) (r : List Int) (w : World) (hr0 : Kd.C (Kd.int .i64) w A0 l0.length l0) (hc0 : l0.length ≤ c0) (h : laws_toIntS.f k l0 = some r) :
    Calls Try.prog 50 #[.slice A0 l0.length c0] w fun e w' => ∃ v0_ : Value, e = .returned (v0_) ∧ Kd.R (Kd.int .i64) 3 w' w.heap.size (fun _ => True) v0_ r ∧ Below w.heap.size w w' := by
  have HR0 := Aside0.mk hr0
  have HC0 := Aside0.mk hc0
  clear hr0 hc0
  have HB := Aside0.mk (Below.refl w.heap.size w)
  have H : (if 0 ≤ (l0.length : Int) then (if ((l0.length : Int) : Int).toNat ≤ 35184372088832 then (laws_toIntS.l0 k l0 (List.replicate ((l0.length : Int) : Int).toNat 0) 0) else (none)) else (none)) = some r := h
  clear h
  by_cases c2 : 0 ≤ (l0.length : Int)
  · rw [if_pos c2] at H
    have c2b0 := eq_true c2
    have c2b1 : decide (0 ≤ (l0.length : Int)) = true := decide_eq_true c2
    clear c2
    by_cases c3 : ((l0.length : Int) : Int).toNat ≤ 35184372088832
    · rw [if_pos c3] at H
      have c3b0 := eq_true c3
      have c3b1 : decide (((l0.length : Int) : Int).toNat ≤ 35184372088832) = true := decide_eq_true c3
      clear c3
      obtain ⟨y206, hy206⟩ : ∃ y_ : List Int, y_ = (List.replicate ((l0.length : Int) : Int).toNat 0) := ⟨_, rfl⟩
      replace H : (laws_toIntS.l0 k l0 y206 0) = some r := by first | (rw [hy206]; with_reducible exact H) | (have H2_ := (Option.bind_some _ _).symm.trans H; rw [hy206]; with_reducible exact H2_) | (have H2_ := (Option.bind_some _ _).symm.trans H; with_reducible exact H2_) | with_reducible exact H | (rw [hy206]; exact H) | exact H
      have Ny206 := Aside0.mk hy206
      clear hy206
      have H' := Aside0.mk H
      clear H
      go_enter Try.func50, Try.ntmps50
      go_wp2_with (first | ((with_reducible refine gate_dst (N := 7) rfl ?_); refine Kd.R_make (Kd.int .i64) _ 3 rfl (N := 7) rfl 22 _ _ rfl (l0.length : Int) rfl rfl Try.underlying22 (.int .i64 0) 8 info3 rfl (by decide) (by omega) 0 (ok := fun _ => True) (okp := fun _ => True) rfl (fun _ hk => hk) trivial (of_decide_eq_true (by first | (with_reducible assumption) | assumption)) (Nat.le_trans (Nat.mul_le_mul_right _ (of_decide_eq_true (by first | (with_reducible assumption) | assumption) : (l0.length : Int).toNat ≤ 35184372088832)) (by omega)) (Below.refl _ _) (Nat.le_refl _) ?_; intro v207 w4 ho5 hb hg_ hnew_; clear hg_ hnew_; (first | rw [← Ny206.out] at ho5 | (simp only [Int.reduceToNat] at ho5; rw [← Ny206.out] at ho5)); have n0_ := Aside0.mk (Kd.R_lower ho5 (below_size (by repeat (first | (with_reducible first | exact HB.out | apply below_alloc | apply pw_below_drewN | apply below_drew1) | exact HB.out)))); have n1_ := Aside0.mk (below_step (by repeat (first | (with_reducible first | exact HB.out | apply below_alloc | apply pw_below_drewN | apply below_drew1) | exact HB.out)) hb); clear HB; have HO208 := n0_; have HB := n1_; clear n0_ n1_; clear hb ho5))
      go_loopg [4] k (fun kq v4 w' => ∃ (x3_1 : List Int) (x4_1 : Int), v4 = .int .i64 x4_1 ∧ Aside0 (laws_toIntS.l0 kq l0 x3_1 x4_1 = some r) ∧ Aside0 (kq ≤ k) ∧ Aside0 (Kd.R (Kd.int .i64) 3 w' w.heap.size (fun _ => True) v207 x3_1) ∧ Aside0 (Below w.heap.size w w'))
      case atStart => exact ⟨(y206), (0), (by first | rfl | (simp; done) | (simp [*]; done)), H', ⟨Nat.le_refl _⟩, ⟨by (with_reducible repeat (first | apply Kd.R_alloc | apply Kd.R_drewN | apply Kd.R_drew)); exact HO208.out⟩, ⟨by repeat (first | (with_reducible first | exact HB.out | apply below_alloc | apply pw_below_drewN | apply below_drew1) | exact HB.out)⟩⟩
      case round =>
        clear H'
        try clear c2
        try clear c2b0
        try clear c2b1
        try clear p2
        try clear c3
        try clear c3b0
        try clear c3b1
        try clear c5
        obtain ⟨x3_1, x4_1, rfl, HA, HK1, HO_3, HB⟩ := hrel
        cases gk with
        | zero => exact absurd HA.out (by simp [laws_toIntS.l0])
        | succ k1 =>
          have H := HA.out
          clear HA
          simp only [laws_toIntS.l0] at H
          by_cases c6 : x4_1 < (l0.length : Int)
          · rw [if_pos c6] at H
            have c6b0 : decide (x4_1 < (l0.length : Int)) = true := decide_eq_true c6
            clear c6
            by_cases c7 : 0 ≤ x4_1
            · rw [if_pos c7] at H
              have c7b0 : decide (0 ≤ x4_1) = true := decide_eq_true c7
              clear c7
              by_cases c8 : x4_1 < (x3_1.length : Int)
              · rw [if_pos c8] at H
                have c8b0 : decide (x4_1 < (x3_1.length : Int)) = true := decide_eq_true c8
                clear c8
                obtain ⟨y210, hy210⟩ : ∃ y_ : List Int, y_ = (x3_1.set (x4_1 : Int).toNat (rd l0 x4_1)) := ⟨_, rfl⟩
                replace H : (laws_toIntS.l0 k1 l0 y210 (wrap64 (x4_1 + 1))) = some r := by first | (rw [hy210]; with_reducible exact H) | (have H2_ := (Option.bind_some _ _).symm.trans H; rw [hy210]; with_reducible exact H2_) | (have H2_ := (Option.bind_some _ _).symm.trans H; with_reducible exact H2_) | with_reducible exact H | (rw [hy210]; exact H) | exact H
                have Ny210 := Aside0.mk hy210
                clear hy210
                have H' := Aside0.mk H
                clear H
                have p209 : 0 ≤ (x4_1 : Int) := of_decide_eq_true (by first | (with_reducible assumption) | assumption)
                have q209 : x4_1 < (l0.length : Int) := of_decide_eq_true (by first | (with_reducible assumption) | assumption)
                obtain ⟨ad209, e209, hx209_0⟩ := Kd.at_int HR0.out x4_1 p209 q209
                cases e209
                replace hx209_0 := (HB.out.cell (World.block_lt_of_cell? w _ hx209_0)).trans hx209_0
                replace p209 := eq_true p209
                replace q209 := eq_true q209
                have p9 : 0 ≤ (x4_1 : Int) := of_decide_eq_true (by first | (with_reducible assumption) | assumption)
                have q9 : (x4_1 : Int) < ((x3_1.length : Int) : Int) := of_decide_eq_true (by first | (with_reducible assumption) | assumption)
                obtain ⟨go9, co9, eo9, gb9, gl9, cl9, HG9⟩ := Kd.R_form HO_3.out (by omega)
                (first | cases eo9 | (injection eo9 with ea_ en_ ec_; (first | subst ea_ | (injection ea_ with ea_; subst ea_)); subst ec_; clear en_))
                have GB9 := Aside0.mk gb9
                have GG9 := Aside0.mk HG9
                clear gb9 gl9 HG9
                obtain ⟨hx9_0, hf9_0⟩ := Kd.R_celln 0 HO_3.out (x4_1 : Int) p9 q9
                replace p9 := eq_true p9
                replace q9 := eq_true q9
                have HP10 := Kd.R_putg HO_3.out (x4_1 : Int) (rd l0 x4_1)
                go_wp2_with (first | ((with_reducible refine gate_store (t := 3) (p := 20) rfl ?_); refine store_event (t := 3) (p := 20) (v := ?vo_w11) (w1 := (wr.setCell ⟨go9, (x4_1 : Int).toNat, none⟩ (.int .i64 (rd l0 x4_1)))) ?hg ?ho ?hn ?hr ?_; (case ho => rfl); (case hg => rfl); (case hn => rfl); (case hr => first | (go_simp; done) | (go_simp; rfl)); intro w11 hw; have hg : wr.grownBy w11 (some go9) := (by rw [hw]; exact HP10.2); have hp_ : Kd.R (Kd.int .i64) 3 w11 w.heap.size (fun _ => True) (.slice (some ⟨go9, 0, none⟩) x3_1.length co9) y210 := (by rw [hw, Ny210.out]; exact HP10.1); clear HP10; have n0_ := Aside0.mk (hp_); have n1_ := Aside0.mk ((by rw [hw]; exact below_set (HB.out) GB9.out : Below w.heap.size w w11)); clear HO_3; clear HB; have HO_3 := n0_; have HB := n1_; clear n0_ n1_; clear hg hw hp_))
                go_roundg k1
                case measure => have := HK1.out; omega
                case rel => exact ⟨(y210), (wrap64 (x4_1 + 1)), (by first | rfl | (simp; done) | (simp [*]; done)), H', ⟨by have := HK1.out; omega⟩, ⟨by (with_reducible repeat (first | apply Kd.R_alloc | apply Kd.R_drewN | apply Kd.R_drew)); exact HO_3.out⟩, ⟨by repeat (first | (with_reducible first | exact HB.out | apply below_alloc | apply pw_below_drewN | apply below_drew1) | exact HB.out)⟩⟩
              · rw [if_neg c8] at H
                exact absurd H (by simp)
            · rw [if_neg c7] at H
              exact absurd H (by simp)
          · rw [if_neg c6] at H
            have c6b0 : decide (x4_1 < (l0.length : Int)) = false := decide_eq_false c6
            clear c6
            obtain rfl := Option.some.inj H
            go_wp2
            go_ret
            exact ⟨_, by first | rfl | (simp [errW_none, errW_some] <;> rfl) | (simp [*, errW_none, errW_some] <;> rfl), by (with_reducible repeat (first | apply Kd.R_alloc | apply Kd.R_drewN | apply Kd.R_drew)); exact HO_3.out, by repeat (first | (with_reducible first | exact HB.out | apply below_alloc | apply pw_below_drewN | apply below_drew1) | exact HB.out)⟩
    · rw [if_neg c3] at H
      exact absurd H (by simp)
  · rw [if_neg c2] at H
    exact absurd H (by simp)

/-! ### laws_toSpace: function 14 -/
def laws_toSpace.f (k : Nat) (a0_0 : Int) (l0_1 : List Int) : Option (Int × List Int) := (laws_toIntS.f k l0_1).bind fun t214 => (some (a0_0, t214))
theorem laws_toSpace.mono : ∀ a0 a1 k, LeO (laws_toSpace.f k a0 a1) (laws_toSpace.f (k + 1) a0 a1) := by
  intro a0 a1 k
  unfold laws_toSpace.f
  repeat' first
      | (with_reducible exact laws_toIntS.mono _ _)
      | (with_reducible exact LeO.refl _)
      | (with_reducible exact LeO.none _)
      | (with_reducible refine LeO.ite ?_ ?_)
      | (with_reducible refine LeO.bind ?_ (fun _ => ?_))
      | exact laws_toIntS.mono _ _
      | exact LeO.none _
      | refine LeO.ite ?_ ?_
      | refine LeO.bind ?_ (fun _ => ?_)
set_option maxHeartbeats 8000000 in
set_option maxRecDepth 100000 in
theorem laws_toSpace.calls (k : Nat) (a0_0 : Int) (A0_1 : Option Addr) (c0_1 : Nat) (l0_1 : List Int) (r1 : Int) (r2 : List Int) (w : World) (hr0_1 : Kd.C (Kd.int .i64) w A0_1 l0_1.length l0_1) (hc0_1 : l0_1.length ≤ c0_1) (h : laws_toSpace.f k a0_0 l0_1 = some (r1, r2)) :
    Calls Try.prog 14 #[.agg #[.int .i64 a0_0, .slice A0_1 l0_1.length c0_1]] w fun e w' => ∃ v1_ : Value, e = .returned (.agg #[.int .i64 r1, v1_]) ∧ Kd.R (Kd.int .i64) 3 w' w.heap.size (fun _ => True) v1_ r2 ∧ Below w.heap.size w w' := by
  have hu24 := Try.underlying24
  have hu28 := Try.underlying28
  have HR0_1 := Aside0.mk hr0_1
  have HC0_1 := Aside0.mk hc0_1
  clear hr0_1 hc0_1
  have HB := Aside0.mk (Below.refl w.heap.size w)
  have H : ((laws_toIntS.f k l0_1).bind fun t214 => (some (a0_0, t214))) = some (r1, r2) := h
  clear h
  replace H := Option.bind_eq_some_iff.mp H
  obtain ⟨t214, A20, H⟩ := H
  replace H : (some (a0_0, t214)) = some (r1, r2) := H
  have A2 := Aside0.mk A20
  clear A20
  simp only [Option.some.injEq, Prod.mk.injEq] at H
  obtain ⟨rfl, rfl⟩ := H
  go_enter Try.func14, Try.ntmps14
  go_wp2_with (first | ((with_reducible refine gate_dst (N := 1) rfl ?_); refine box_event ?hg (N := 1) ?hd (cs := #[.int .i64 a0_0, .slice A0_1 l0_1.length c0_1]) (t := 24) ?hr ?_; (case hd => rfl); (case hg => rfl); (case hr => first | (go_simp; done) | (go_simp; rfl)); intro gb211 hg w3 hbox hb; have n0_ := Aside0.mk (below_step (by repeat (first | (with_reducible first | exact HB.out | apply below_alloc | apply pw_below_drewN | apply below_drew1) | exact HB.out)) hb); have n1_ := Aside0.mk (hbox); have n2_ := Aside0.mk ((by rw [hg]; exact (below_size (by repeat (first | (with_reducible first | exact HB.out | apply below_alloc | apply pw_below_drewN | apply below_drew1) | exact HB.out))) : w.heap.size ≤ gb211)); have n3_ := Aside0.mk ((by rw [hg]; exact (below_size (by repeat (first | (with_reducible first | exact HB.out | apply below_alloc | apply pw_below_drewN | apply below_drew1) | exact HB.out))) : w.heap.size ≤ gb211)); clear HB; have HB := n0_; have BK211 := n1_; have GW211 := n2_; have GE211 := n3_; clear n0_ n1_ n2_ n3_; clear hb hbox hg) | ((with_reducible refine gate_dst (N := 2) rfl ?_); refine box_event ?hg (N := 2) ?hd (cs := #[.int .i64 0, .slice none 0 0]) (t := 28) ?hr ?_; (case hd => rfl); (case hg => rfl); (case hr => first | (go_simp; done) | (go_simp; rfl)); intro gb212 hg w4 hbox hb; have n0_ := Aside0.mk (blk_below (g := gb211) (o := .cells #[.int .i64 a0_0, .slice A0_1 l0_1.length c0_1] 24 (0, 0)) (by (with_reducible repeat (first | refine blk_drewN ?_ _ | refine blk_drew ?_ | refine blk_alloc ?_ _)); exact BK211.out) hb); have n1_ := Aside0.mk (below_step (by repeat (first | (with_reducible first | exact HB.out | apply below_alloc | apply pw_below_drewN | apply below_drew1 | refine below_set ?_ GE211.out) | exact HB.out)) hb); have n2_ := Aside0.mk (hbox); have n3_ := Aside0.mk ((by rw [hg]; exact (below_size (by repeat (first | (with_reducible first | exact HB.out | apply below_alloc | apply pw_below_drewN | apply below_drew1 | refine below_set ?_ GE211.out) | exact HB.out))) : w.heap.size ≤ gb212)); have n4_ := Aside0.mk ((by rw [hg]; exact (below_size (by repeat (first | (with_reducible first | exact HB.out | apply below_alloc | apply pw_below_drewN | apply below_drew1 | refine below_set ?_ GE211.out) | exact HB.out))) : w.heap.size ≤ gb212)); have n5_ := Aside0.mk ((by rw [hg]; exact Nat.ne_of_lt (blk_lt (g := gb211) (o := .cells #[.int .i64 a0_0, .slice A0_1 l0_1.length c0_1] 24 (0, 0)) (by (with_reducible repeat (first | refine blk_drewN ?_ _ | refine blk_drew ?_ | refine blk_alloc ?_ _)); exact BK211.out)) : gb211 ≠ gb212)); have n6_ := Aside0.mk ((by rw [hg]; exact Nat.ne_of_gt (blk_lt (g := gb211) (o := .cells #[.int .i64 a0_0, .slice A0_1 l0_1.length c0_1] 24 (0, 0)) (by (with_reducible repeat (first | refine blk_drewN ?_ _ | refine blk_drew ?_ | refine blk_alloc ?_ _)); exact BK211.out)) : gb212 ≠ gb211)); clear BK211; clear HB; have BK211 := n0_; have HB := n1_; have BK212 := n2_; have GW212 := n3_; have GE212 := n4_; have NB211_212 := n5_; have NB212_211 := n6_; clear n0_ n1_ n2_ n3_ n4_ n5_ n6_; clear hb hbox hg) | ((with_reducible refine gate_dst (N := 3) rfl ?_); refine box_event ?hg (N := 3) ?hd (cs := #[.int .i64 0, .slice none 0 0]) (t := 28) ?hr ?_; (case hd => rfl); (case hg => rfl); (case hr => first | (go_simp; done) | (go_simp; rfl)); intro gb213 hg w5 hbox hb; have n0_ := Aside0.mk (blk_below (g := gb211) (o := .cells #[.int .i64 a0_0, .slice A0_1 l0_1.length c0_1] 24 (0, 0)) (by (with_reducible repeat (first | refine blk_drewN ?_ _ | refine blk_drew ?_ | refine blk_alloc ?_ _)); exact BK211.out) hb); have n1_ := Aside0.mk (blk_below (g := gb212) (o := .cells #[.int .i64 0, .slice none 0 0] 28 (0, 0)) (by (with_reducible repeat (first | refine blk_drewN ?_ _ | refine blk_drew ?_ | refine blk_alloc ?_ _)); exact BK212.out) hb); have n2_ := Aside0.mk (below_step (by repeat (first | (with_reducible first | exact HB.out | apply below_alloc | apply pw_below_drewN | apply below_drew1 | refine below_set ?_ GE211.out | refine below_set ?_ GE212.out) | exact HB.out)) hb); have n3_ := Aside0.mk (hbox); have n4_ := Aside0.mk ((by rw [hg]; exact (below_size (by repeat (first | (with_reducible first | exact HB.out | apply below_alloc | apply pw_below_drewN | apply below_drew1 | refine below_set ?_ GE211.out | refine below_set ?_ GE212.out) | exact HB.out))) : w.heap.size ≤ gb213)); have n5_ := Aside0.mk ((by rw [hg]; exact (below_size (by repeat (first | (with_reducible first | exact HB.out | apply below_alloc | apply pw_below_drewN | apply below_drew1 | refine below_set ?_ GE211.out | refine below_set ?_ GE212.out) | exact HB.out))) : w.heap.size ≤ gb213)); have n6_ := Aside0.mk ((by rw [hg]; exact Nat.ne_of_lt (blk_lt (g := gb211) (o := .cells #[.int .i64 a0_0, .slice A0_1 l0_1.length c0_1] 24 (0, 0)) (by (with_reducible repeat (first | refine blk_drewN ?_ _ | refine blk_drew ?_ | refine blk_alloc ?_ _)); exact BK211.out)) : gb211 ≠ gb213)); have n7_ := Aside0.mk ((by rw [hg]; exact Nat.ne_of_gt (blk_lt (g := gb211) (o := .cells #[.int .i64 a0_0, .slice A0_1 l0_1.length c0_1] 24 (0, 0)) (by (with_reducible repeat (first | refine blk_drewN ?_ _ | refine blk_drew ?_ | refine blk_alloc ?_ _)); exact BK211.out)) : gb213 ≠ gb211)); have n8_ := Aside0.mk ((by rw [hg]; exact Nat.ne_of_lt (blk_lt (g := gb212) (o := .cells #[.int .i64 0, .slice none 0 0] 28 (0, 0)) (by (with_reducible repeat (first | refine blk_drewN ?_ _ | refine blk_drew ?_ | refine blk_alloc ?_ _)); exact BK212.out)) : gb212 ≠ gb213)); have n9_ := Aside0.mk ((by rw [hg]; exact Nat.ne_of_gt (blk_lt (g := gb212) (o := .cells #[.int .i64 0, .slice none 0 0] 28 (0, 0)) (by (with_reducible repeat (first | refine blk_drewN ?_ _ | refine blk_drew ?_ | refine blk_alloc ?_ _)); exact BK212.out)) : gb213 ≠ gb212)); clear BK211; clear BK212; clear HB; have BK211 := n0_; have BK212 := n1_; have HB := n2_; have BK213 := n3_; have GW213 := n4_; have GE213 := n5_; have NB211_213 := n6_; have NB213_211 := n7_; have NB212_213 := n8_; have NB213_212 := n9_; clear n0_ n1_ n2_ n3_ n4_ n5_ n6_ n7_ n8_ n9_; clear hb hbox hg; have hnb6 := NB211_212.out; have hnc6 := NB212_211.out; have hnb7 := NB211_213.out; have hnc7 := NB213_211.out; have hcz8_0 : w5.cell? ⟨gb211, 0, none⟩ = some (.int .i64 a0_0) := (blk_cell BK211.out 0).trans rfl; have hcz8_1 : w5.cell? ⟨gb211, 1, none⟩ = some (.slice A0_1 l0_1.length c0_1) := (blk_cell BK211.out 1).trans rfl; have hfz8_0 := blk_frozen BK211.out 0; have hfz8_1 := blk_frozen BK211.out 1; have hnb9 := NB213_212.out; have hnc9 := NB212_213.out; have hcz10_0 : w5.cell? ⟨gb213, 0, none⟩ = some (.int .i64 0) := (blk_cell BK213.out 0).trans rfl; have hcz10_1 : w5.cell? ⟨gb213, 1, none⟩ = some (.slice none 0 0) := (blk_cell BK213.out 1).trans rfl; have hfz10_0 := blk_frozen BK213.out 0; have hfz10_1 := blk_frozen BK213.out 1) | ((with_reducible refine gate_callee (f := 50) rfl ?_); refine goesL_ (some 9) rfl rfl Try.func50 (by kernel_rfl) rfl #[.slice A0_1 l0_1.length c0_1] rfl (by (try simp only [List.map_toArray, List.map_cons, List.map_nil]); first | done | rfl | (simp only [List.length_drop, List.length_take]; rfl)) ?_; (with_reducible refine (laws_toIntS.calls k _ _ l0_1 t214 _ ?side1 ?side2 A2.out).mono ?_); (case side1 => exact Kd.C_below HR0_1.out (by repeat (first | (with_reducible first | exact HB.out | apply below_alloc | apply pw_below_drewN | apply below_drew1 | refine below_set ?_ GE211.out | refine below_set ?_ GE212.out | refine below_set ?_ GE213.out) | exact HB.out))); (case side2 => exact HC0_1.out); rintro e w11 ⟨v215, rfl, ho0, hb⟩; refine ⟨_, rfl, ?_⟩; have n0_ := Aside0.mk (Kd.R_lower ho0 (below_size (by repeat (first | (with_reducible first | exact HB.out | apply below_alloc | apply pw_below_drewN | apply below_drew1 | refine below_set ?_ GE211.out | refine below_set ?_ GE212.out | refine below_set ?_ GE213.out) | exact HB.out)))); have n1_ := Aside0.mk (blk_below (g := gb211) (o := .cells #[.int .i64 a0_0, .slice A0_1 l0_1.length c0_1] 24 (0, 0)) (by (with_reducible repeat (first | refine blk_drewN ?_ _ | refine blk_drew ?_ | refine blk_alloc ?_ _)); refine blk_far ?_ NB211_213.out _; (with_reducible repeat (first | refine blk_drewN ?_ _ | refine blk_drew ?_ | refine blk_alloc ?_ _)); exact BK211.out) hb); have n2_ := Aside0.mk (blk_below (g := gb212) (o := .cells #[.int .i64 0, .slice none 0 0] 28 (0, 0)) (by (with_reducible repeat (first | refine blk_drewN ?_ _ | refine blk_drew ?_ | refine blk_alloc ?_ _)); refine blk_far ?_ NB212_213.out _; (with_reducible repeat (first | refine blk_drewN ?_ _ | refine blk_drew ?_ | refine blk_alloc ?_ _)); exact BK212.out) hb); have n3_ := Aside0.mk (blk_below (g := gb213) (o := .cells #[.int .i64 a0_0, .slice none 0 0] 28 (0, 0)) (by (with_reducible repeat (first | refine blk_drewN ?_ _ | refine blk_drew ?_ | refine blk_alloc ?_ _)); refine blk_put (cs := #[.int .i64 0, .slice none 0 0]) ?_ 0 _ rfl; (with_reducible repeat (first | refine blk_drewN ?_ _ | refine blk_drew ?_ | refine blk_alloc ?_ _)); exact BK213.out) hb); have n4_ := Aside0.mk (below_step (by repeat (first | (with_reducible first | exact HB.out | apply below_alloc | apply pw_below_drewN | apply below_drew1 | refine below_set ?_ GE211.out | refine below_set ?_ GE212.out | refine below_set ?_ GE213.out) | exact HB.out)) hb); clear BK211; clear BK212; clear BK213; clear HB; have HO216 := n0_; have BK211 := n1_; have BK212 := n2_; have BK213 := n3_; have HB := n4_; clear n0_ n1_ n2_ n3_ n4_; (try clear hb); (try clear hb2); (try clear hk); (try clear hi); (try clear ho0); obtain ⟨Ao12, co12, eo12⟩ := Kd.R_slice HO216.out; subst eo12; have hcz13_0 : w11.cell? ⟨gb213, 0, none⟩ = some (.int .i64 a0_0) := (blk_cell BK213.out 0).trans rfl; have hcz13_1 : w11.cell? ⟨gb213, 1, none⟩ = some (.slice none 0 0) := (blk_cell BK213.out 1).trans rfl; have hfz13_0 := blk_frozen BK213.out 0; have hfz13_1 := blk_frozen BK213.out 1; have hcz14_0 : w11.cell? ⟨gb212, 0, none⟩ = some (.int .i64 0) := (blk_cell BK212.out 0).trans rfl; have hcz14_1 : w11.cell? ⟨gb212, 1, none⟩ = some (.slice none 0 0) := (blk_cell BK212.out 1).trans rfl; have hfz14_0 := blk_frozen BK212.out 0; have hfz14_1 := blk_frozen BK212.out 1))
  refine bodyPost_ret (results_cell_row rfl _ _ gb212 28 #[.int .i64 a0_0, .slice Ao12 t214.length co12] (0, 0) _ rfl (by (with_reducible repeat (first | refine blk_drewN ?_ _ | refine blk_drew ?_ | refine blk_alloc ?_ _)); refine blk_put (cs := #[.int .i64 a0_0, .slice none 0 0]) ?_ 1 _ rfl; (with_reducible repeat (first | refine blk_drewN ?_ _ | refine blk_drew ?_ | refine blk_alloc ?_ _)); refine blk_put (cs := #[.int .i64 0, .slice none 0 0]) ?_ 0 _ rfl; (with_reducible repeat (first | refine blk_drewN ?_ _ | refine blk_drew ?_ | refine blk_alloc ?_ _)); refine blk_far ?_ NB212_213.out _; (with_reducible repeat (first | refine blk_drewN ?_ _ | refine blk_drew ?_ | refine blk_alloc ?_ _)); exact BK212.out) Try.underlying28 rfl (by kernel_rfl)) rfl ?_
  exact ⟨_, by first | rfl | (simp [errW_none, errW_some] <;> rfl) | (simp [*, errW_none, errW_some] <;> rfl), by (with_reducible repeat (first | apply Kd.R_alloc | apply Kd.R_drewN | apply Kd.R_drew)); exact Kd.R_mono (Kd.R_far (p := ⟨gb212, 1, none⟩) (Kd.R_far (p := ⟨gb212, 0, none⟩) (Kd.R_far (p := ⟨gb213, 1, none⟩) (Kd.R_types (Kd.R_types HO216.out BK213.out (by decide)) BK212.out (by decide)) (fun _ hk => hk.1.2) (.slice Ao12 t214.length co12)) (fun _ hk => hk.2) (.int .i64 a0_0)) (fun _ hk => hk.2) (.slice Ao12 t214.length co12)) (fun _ hk => trivial), by repeat (first | (with_reducible first | exact HB.out | apply below_alloc | apply pw_below_drewN | apply below_drew1 | refine below_set ?_ GE211.out | refine below_set ?_ GE212.out | refine below_set ?_ GE213.out) | exact HB.out)⟩

/-! ### impl_within: function 74 -/
def impl_within.f (a0 : Int) (a1 : Int) (a2 : Int) : Option (Bool) := if a1 ≤ a0 then (some (decide (a0 ≤ a2))) else (some false)
set_option maxHeartbeats 8000000 in
set_option maxRecDepth 100000 in
theorem impl_within.calls (a0 : Int) (a1 : Int) (a2 : Int) (r : Bool) (w : World) (h : impl_within.f a0 a1 a2 = some r) :
    Calls Try.prog 74 #[.int .i64 a0, .int .i64 a1, .int .i64 a2] w fun e w' => e = .returned (.bool r) ∧ Drawn0 w w' := by
  have H : (if a1 ≤ a0 then (some (decide (a0 ≤ a2))) else (some false)) = some r := h
  clear h
  by_cases c4 : a1 ≤ a0
  · rw [if_pos c4] at H
    have c4b0 : decide (a1 ≤ a0) = true := decide_eq_true c4
    clear c4
    obtain rfl := Option.some.inj H
    go_enter Try.func74, Try.ntmps74
    go_wp2
    go_ret
    exact ⟨by first | rfl | (simp; done) | (simp [*]; done), by repeat (first | exact Drawn0.refl _ | apply Drawn0.step)⟩
  · rw [if_neg c4] at H
    have c4b0 : decide (a1 ≤ a0) = false := decide_eq_false c4
    clear c4
    obtain rfl := Option.some.inj H
    go_enter Try.func74, Try.ntmps74
    go_wp2
    go_ret
    exact ⟨by first | rfl | (simp; done) | (simp [*]; done), by repeat (first | exact Drawn0.refl _ | apply Drawn0.step)⟩

/-! ### impl_isSize: function 72 -/
def impl_isSize.f (a0 : Int) : Option (Bool) := (impl_within.f a0 1 7).bind fun t217 => (some t217)
set_option maxHeartbeats 8000000 in
set_option maxRecDepth 100000 in
theorem impl_isSize.calls (a0 : Int) (r : Bool) (w : World) (h : impl_isSize.f a0 = some r) :
    Calls Try.prog 72 #[.int .i64 a0] w fun e w' => e = .returned (.bool r) ∧ Drawn0 w w' := by
  have H : ((impl_within.f a0 1 7).bind fun t217 => (some t217)) = some r := h
  clear h
  replace H := Option.bind_eq_some_iff.mp H
  obtain ⟨t217, A20, H⟩ := H
  replace H : (some t217) = some r := H
  have A2 := Aside0.mk A20
  clear A20
  obtain rfl := Option.some.inj H
  go_enter Try.func72, Try.ntmps72
  go_wp2_with (first | ((with_reducible refine gate_callee (f := 74) rfl ?_); refine goesL_ (some 4) rfl rfl Try.func74 (by kernel_rfl) rfl #[.int .i64 a0, .int .i64 1, .int .i64 7] rfl (by (try simp only [List.map_toArray, List.map_cons, List.map_nil]); first | done | rfl | (simp only [List.length_drop, List.length_take]; rfl)) ?_; (with_reducible refine (impl_within.calls a0 1 7 t217 _ A2.out).mono ?_); rintro e w' ⟨rfl, ⟨nd, rfl⟩⟩; refine ⟨_, rfl, ?_⟩))
  go_ret
  exact ⟨by first | rfl | (simp; done) | (simp [*]; done), by repeat (first | exact Drawn0.refl _ | apply Drawn0.step)⟩

-- NOT PRINTED: function 106 (impl_Space_family)

/-! ### impl_Space_all: function 109 -/
def impl_Space_all.f (a0_0 : Int) (l0_1 : List Int) : Option (Int) := if 0 ≤ a0_0 then (some (wrap64 ((shl .i64 1 a0_0) - 1))) else (none)
set_option maxHeartbeats 8000000 in
set_option maxRecDepth 100000 in
theorem impl_Space_all.calls (a0_0 : Int) (A0_1 : Option Addr) (c0_1 : Nat) (l0_1 : List Int) (r : Int) (w : World) (hr0_1 : Kd.C (Kd.int .i64) w A0_1 l0_1.length l0_1) (hc0_1 : l0_1.length ≤ c0_1) (h : impl_Space_all.f a0_0 l0_1 = some r) :
    Calls Try.prog 109 #[.agg #[.int .i64 a0_0, .slice A0_1 l0_1.length c0_1]] w fun e w' => e = .returned (.int .i64 r) ∧ Below w.heap.size w w' := by
  have hu28 := Try.underlying28
  have HR0_1 := Aside0.mk hr0_1
  have HC0_1 := Aside0.mk hc0_1
  clear hr0_1 hc0_1
  have HB := Aside0.mk (Below.refl w.heap.size w)
  have H : (if 0 ≤ a0_0 then (some (wrap64 ((shl .i64 1 a0_0) - 1))) else (none)) = some r := h
  clear h
  by_cases c2 : 0 ≤ a0_0
  · rw [if_pos c2] at H
    have c2b0 := eq_true c2
    have c2b1 : decide (0 ≤ a0_0) = true := decide_eq_true c2
    clear c2
    obtain ⟨ji3, hji3⟩ : ∃ j_ : Int, (shl .i64 1 a0_0) = j_ := ⟨_, rfl⟩
    replace H : (some (wrap64 ((ji3) - 1))) = some r := by first | (rw [hji3] at H; exact H) | (simp only [hji3] at H ⊢; exact H)
    have hji3_ : (IntKind.i64.wrap (1 * 2 ^ min a0_0.toNat 64)) = ji3 := hji3
    have hji3z : a0_0 ≤ 64 → (IntKind.i64.wrap (1 * 2 ^ a0_0.toNat)) = ji3 := shl_small hji3
    have hji3u : (IntKind.i64.wrap (2 ^ min a0_0.toNat 64)) = ji3 := by have h_ := hji3_; rw [Int.one_mul] at h_; exact h_
    have hji3v : a0_0 ≤ 64 → (IntKind.i64.wrap (2 ^ a0_0.toNat)) = ji3 := fun hle_ => by have h_ := hji3z hle_; rw [Int.one_mul] at h_; exact h_
    have hji3y : (wrap64 (1 * 2 ^ min a0_0.toNat 64)) = ji3 := (i64_w _).symm.trans hji3_
    have hji3x : a0_0 ≤ 64 → (wrap64 (1 * 2 ^ a0_0.toNat)) = ji3 := fun h_ => (i64_w _).symm.trans (hji3z h_)
    obtain rfl := Option.some.inj H
    go_enter Try.func109, Try.ntmps109
    go_wp2_with (first | ((with_reducible refine gate_dst (N := 1) rfl ?_); refine box_event ?hg (N := 1) ?hd (cs := #[.int .i64 a0_0, .slice A0_1 l0_1.length c0_1]) (t := 28) ?hr ?_; (case hd => rfl); (case hg => rfl); (case hr => first | (go_simp; done) | (go_simp; rfl)); intro gb218 hg w4 hbox hb; have n0_ := Aside0.mk (below_step (by repeat (first | (with_reducible first | exact HB.out | apply below_alloc | apply pw_below_drewN | apply below_drew1) | exact HB.out)) hb); have n1_ := Aside0.mk (hbox); have n2_ := Aside0.mk ((by rw [hg]; exact (below_size (by repeat (first | (with_reducible first | exact HB.out | apply below_alloc | apply pw_below_drewN | apply below_drew1) | exact HB.out))) : w.heap.size ≤ gb218)); have n3_ := Aside0.mk ((by rw [hg]; exact (below_size (by repeat (first | (with_reducible first | exact HB.out | apply below_alloc | apply pw_below_drewN | apply below_drew1) | exact HB.out))) : w.heap.size ≤ gb218)); clear HB; have HB := n0_; have BK218 := n1_; have GW218 := n2_; have GE218 := n3_; clear n0_ n1_ n2_ n3_; clear hb hbox hg; have hcz5_0 : w4.cell? ⟨gb218, 0, none⟩ = some (.int .i64 a0_0) := (blk_cell BK218.out 0).trans rfl; have hcz5_1 : w4.cell? ⟨gb218, 1, none⟩ = some (.slice A0_1 l0_1.length c0_1) := (blk_cell BK218.out 1).trans rfl; have hfz5_0 := blk_frozen BK218.out 0; have hfz5_1 := blk_frozen BK218.out 1))
    go_ret
    exact ⟨by first | rfl | (simp [errW_none, errW_some] <;> rfl) | (simp only [← hji3]; first | rfl | (simp [errW_none, errW_some] <;> rfl)) | (simp [*, errW_none, errW_some] <;> rfl), by repeat (first | (with_reducible first | exact HB.out | apply below_alloc | apply pw_below_drewN | apply below_drew1 | refine below_set ?_ GE218.out) | exact HB.out)⟩
  · rw [if_neg c2] at H
    exact absurd H (by simp)

/-! ### impl_isSet: function 129 -/
def impl_isSet.f (a0 : Int) (a1 : Int) : Option (Bool) := if 0 ≤ a0 then ((impl_within.f a1 0 (wrap64 ((shl .i64 1 a0) - 1))).bind fun t219 => (some t219)) else (none)
set_option maxHeartbeats 8000000 in
set_option maxRecDepth 100000 in
theorem impl_isSet.calls (a0 : Int) (a1 : Int) (r : Bool) (w : World) (h : impl_isSet.f a0 a1 = some r) :
    Calls Try.prog 129 #[.int .i64 a0, .int .i64 a1] w fun e w' => e = .returned (.bool r) ∧ Drawn0 w w' := by
  have H : (if 0 ≤ a0 then ((impl_within.f a1 0 (wrap64 ((shl .i64 1 a0) - 1))).bind fun t219 => (some t219)) else (none)) = some r := h
  clear h
  by_cases c3 : 0 ≤ a0
  · rw [if_pos c3] at H
    have c3b0 := eq_true c3
    have c3b1 : decide (0 ≤ a0) = true := decide_eq_true c3
    clear c3
    obtain ⟨ji4, hji4⟩ : ∃ j_ : Int, (shl .i64 1 a0) = j_ := ⟨_, rfl⟩
    replace H : ((impl_within.f a1 0 (wrap64 ((ji4) - 1))).bind fun t219 => (some t219)) = some r := by first | (rw [hji4] at H; exact H) | (simp only [hji4] at H ⊢; exact H)
    have hji4_ : (IntKind.i64.wrap (1 * 2 ^ min a0.toNat 64)) = ji4 := hji4
    have hji4z : a0 ≤ 64 → (IntKind.i64.wrap (1 * 2 ^ a0.toNat)) = ji4 := shl_small hji4
    have hji4u : (IntKind.i64.wrap (2 ^ min a0.toNat 64)) = ji4 := by have h_ := hji4_; rw [Int.one_mul] at h_; exact h_
    have hji4v : a0 ≤ 64 → (IntKind.i64.wrap (2 ^ a0.toNat)) = ji4 := fun hle_ => by have h_ := hji4z hle_; rw [Int.one_mul] at h_; exact h_
    have hji4y : (wrap64 (1 * 2 ^ min a0.toNat 64)) = ji4 := (i64_w _).symm.trans hji4_
    have hji4x : a0 ≤ 64 → (wrap64 (1 * 2 ^ a0.toNat)) = ji4 := fun h_ => (i64_w _).symm.trans (hji4z h_)
    replace H := Option.bind_eq_some_iff.mp H
    obtain ⟨t219, A50, H⟩ := H
    replace H : (some t219) = some r := H
    have A5 := Aside0.mk A50
    clear A50
    obtain rfl := Option.some.inj H
    go_enter Try.func129, Try.ntmps129
    go_wp2_with (first | ((with_reducible refine gate_callee (f := 74) rfl ?_); refine goesL_ (some 9) rfl rfl Try.func74 (by kernel_rfl) rfl #[.int .i64 a1, .int .i64 0, .int .i64 (wrap64 ((ji4) - 1))] rfl (by (try simp only [List.map_toArray, List.map_cons, List.map_nil]); first | done | (simp only [hji4]; rfl) | rfl | (simp only [List.length_drop, List.length_take]; rfl)) ?_; (with_reducible refine (impl_within.calls a1 0 (wrap64 ((ji4) - 1)) t219 _ A5.out).mono ?_); rintro e w' ⟨rfl, ⟨nd, rfl⟩⟩; refine ⟨_, rfl, ?_⟩))
    go_ret
    exact ⟨by first | rfl | (simp; done) | (simp only [← hji4] <;> (first | rfl | simp)) | (simp [*]; done), by repeat (first | exact Drawn0.refl _ | apply Drawn0.step)⟩
  · rw [if_neg c3] at H
    exact absurd H (by simp)

/-! ### impl_items: function 110 -/
def impl_items.l0 : Nat → Int → List Int → Int → Option (List Int)
  | 0, _, _, _ => none
  | k + 1, x0, x3, x6 => if x6 < 7 then (if 0 ≤ x6 then (if (Go.bits .and .i64 (shr .i64 x0 x6) 1) = 1 then (if x3.length < 17592186044416 then (impl_items.l0 k x0 (x3 ++ [x6]) (wrap64 (x6 + 1))) else (none)) else (impl_items.l0 k x0 x3 (wrap64 (x6 + 1)))) else (none)) else (some x3)
def impl_items.f (k : Nat) (a0 : Int) : Option (List Int) := impl_items.l0 k a0 (([] : List Int)) 0
theorem impl_items.mono_l : ∀ k, (∀ y0 y1 y2, LeO (impl_items.l0 k y0 y1 y2) (impl_items.l0 (k + 1) y0 y1 y2))
  | 0 => fun _ _ _ r h => by simp [impl_items.l0] at h
  | k + 1 => by
    have ih0 := impl_items.mono_l k
    · intro y0 y1 y2
      unfold impl_items.l0
      repeat' first
      | (with_reducible exact ih0 _ _ _)
      | (with_reducible exact LeO.refl _)
      | (with_reducible exact LeO.none _)
      | (with_reducible refine LeO.ite ?_ ?_)
      | (with_reducible refine LeO.bind ?_ (fun _ => ?_))
      | exact ih0 _ _ _
      | exact LeO.none _
      | refine LeO.ite ?_ ?_
      | refine LeO.bind ?_ (fun _ => ?_)
theorem impl_items.mono : ∀ a0 k, LeO (impl_items.f k a0) (impl_items.f (k + 1) a0) := by
  intro a0 k
  have ih0 := impl_items.mono_l k
  unfold impl_items.f
  repeat' first
      | (with_reducible exact ih0 _ _ _)
      | (with_reducible exact LeO.refl _)
      | (with_reducible exact LeO.none _)
      | (with_reducible refine LeO.ite ?_ ?_)
      | (with_reducible refine LeO.bind ?_ (fun _ => ?_))
      | exact ih0 _ _ _
      | exact LeO.none _
      | refine LeO.ite ?_ ?_
      | refine LeO.bind ?_ (fun _ => ?_)
set_option maxHeartbeats 8000000 in
set_option maxRecDepth 100000 in
theorem impl_items.calls (k : Nat) (a0 : Int) (r : List Int) (w : World) (h : impl_items.f k a0 = some r) :
    Calls Try.prog 110 #[.int .i64 a0] w fun e w' => ∃ v0_ : Value, e = .returned (v0_) ∧ Kd.R (Kd.int .i64) 3 w' w.heap.size (fun _ => True) v0_ r ∧ Below w.heap.size w w' := by
  have HB := Aside0.mk (Below.refl w.heap.size w)
  have H : (impl_items.l0 k a0 (([] : List Int)) 0) = some r := h
  clear h
  obtain ⟨y220, hy220⟩ : ∃ y_ : List Int, y_ = (([] : List Int)) := ⟨_, rfl⟩
  replace H : (impl_items.l0 k a0 y220 0) = some r := by first | (rw [hy220]; with_reducible exact H) | (have H2_ := (Option.bind_some _ _).symm.trans H; rw [hy220]; with_reducible exact H2_) | (have H2_ := (Option.bind_some _ _).symm.trans H; with_reducible exact H2_) | with_reducible exact H | (rw [hy220]; exact H) | exact H
  have Ny220 := Aside0.mk hy220
  clear hy220
  have H' := Aside0.mk H
  clear H
  go_enter Try.func110, Try.ntmps110
  go_wp2_with (first | ((with_reducible refine gate_dst (N := 5) rfl ?_); refine Kd.R_lit (Kd.int .i64) _ 3 ?hg (N := 5) ?hd (xs := ([] : List Int)) (inner := []) (ok := fun _ => True) (okp := fun _ => True) ?hr ?hp (fun _ hk => hk) trivial (Below.refl _ _) (Nat.le_refl _) (by simp) ?_; (case hd => rfl); (case hg => rfl); (case hr => first | (go_simp; done) | (go_simp; rfl)); (case hp => exact (Reps.none _ _)); intro v221 w2 ho3 hb hg_ hnew_; clear hg_ hnew_; (first | rw [← Ny220.out] at ho3 | (simp only [Int.reduceToNat] at ho3; rw [← Ny220.out] at ho3)); have n0_ := Aside0.mk (Kd.R_lower ho3 (below_size (by repeat (first | (with_reducible first | exact HB.out | apply below_alloc | apply pw_below_drewN | apply below_drew1) | exact HB.out)))); have n1_ := Aside0.mk (below_step (by repeat (first | (with_reducible first | exact HB.out | apply below_alloc | apply pw_below_drewN | apply below_drew1) | exact HB.out)) hb); clear HB; have HO222 := n0_; have HB := n1_; clear n0_ n1_; clear hb ho3))
  go_loopg [3, 6] k (fun kq v3 v6 w' => ∃ (x3_1 : List Int) (x6_1 : Int), v6 = .int .i64 x6_1 ∧ Aside0 (impl_items.l0 kq a0 x3_1 x6_1 = some r) ∧ Aside0 (kq ≤ k) ∧ Aside0 (Kd.R (Kd.int .i64) 3 w' w.heap.size (fun _ => True) v3 x3_1) ∧ Aside0 (Below w.heap.size w w'))
  case atStart => exact ⟨(y220), (0), (by first | rfl | (simp; done) | (simp [*]; done)), H', ⟨Nat.le_refl _⟩, ⟨by (with_reducible repeat (first | apply Kd.R_alloc | apply Kd.R_drewN | apply Kd.R_drew)); exact HO222.out⟩, ⟨by repeat (first | (with_reducible first | exact HB.out | apply below_alloc | apply pw_below_drewN | apply below_drew1) | exact HB.out)⟩⟩
  case round =>
    clear H'
    try clear c1
    try clear p2
    obtain ⟨x3_1, x6_1, rfl, HA, HK1, HO_3, HB⟩ := hrel
    cases gk with
    | zero => exact absurd HA.out (by simp [impl_items.l0])
    | succ k1 =>
      have H := HA.out
      clear HA
      simp only [impl_items.l0] at H
      by_cases c4 : x6_1 < 7
      · rw [if_pos c4] at H
        have c4b0 : decide (x6_1 < 7) = true := decide_eq_true c4
        clear c4
        by_cases c5 : 0 ≤ x6_1
        · rw [if_pos c5] at H
          have c5b0 := eq_true c5
          have c5b1 : decide (0 ≤ x6_1) = true := decide_eq_true c5
          clear c5
          obtain ⟨ji6, hji6⟩ : ∃ j_ : Int, (shr .i64 a0 x6_1) = j_ := ⟨_, rfl⟩
          replace H : (if (Go.bits .and .i64 (ji6) 1) = 1 then (if x3_1.length < 17592186044416 then (impl_items.l0 k1 a0 (x3_1 ++ [x6_1]) (wrap64 (x6_1 + 1))) else (none)) else (impl_items.l0 k1 a0 x3_1 (wrap64 (x6_1 + 1)))) = some r := by first | (rw [hji6] at H; exact H) | (simp only [hji6] at H ⊢; exact H)
          have hji6_ : (a0 / 2 ^ min x6_1.toNat 64) = ji6 := hji6
          have hji6z : x6_1 ≤ 64 → (a0 / 2 ^ x6_1.toNat) = ji6 := shr_small hji6
          by_cases c7 : (Go.bits .and .i64 (ji6) 1) = 1
          · rw [if_pos c7] at H
            have c7b0 : ((Go.bits .and .i64 (ji6) 1) == 1) = true := beq_iff_eq.mpr c7
            have c7b1 : ((Go.bits .and .i64 (ji6) 1) != 1) = false := bne_eq_false_iff_eq.mpr c7
            clear c7
            by_cases c8 : x3_1.length < 17592186044416
            · rw [if_pos c8] at H
              have LMc8 := Aside0.mk c8
              clear c8
              obtain ⟨y223, hy223⟩ : ∃ y_ : List Int, y_ = (x3_1 ++ [x6_1]) := ⟨_, rfl⟩
              replace H : (impl_items.l0 k1 a0 y223 (wrap64 (x6_1 + 1))) = some r := by first | (rw [hy223]; with_reducible exact H) | (have H2_ := (Option.bind_some _ _).symm.trans H; rw [hy223]; with_reducible exact H2_) | (have H2_ := (Option.bind_some _ _).symm.trans H; with_reducible exact H2_) | with_reducible exact H | (rw [hy223]; exact H) | exact H
              have Ny223 := Aside0.mk hy223
              clear hy223
              have H' := Aside0.mk H
              clear H
              go_wp2_with (first | ((with_reducible refine gate_builtin (b := .append) (xs := #[.tmp 14, .tmp 16]) rfl ?_); at_builtin; refine Kd.R_append (Kd.int .i64) (w0 := w) w.heap.size rfl (.tmp 14) (.tmp 16) 22 3 (.int .i64 0) 8 rfl Try.underlying22 info3 rfl (by decide) (by omega) u3 x3_1 x6_1 [.int .i64 x6_1] (fun _ => True) (fun _ => False) rfl rfl ?aP (fun _ hk => hk.elim) ?aF ?aO ?aB ?aS ?aL ?_; (case aP => exact rfl); (case aB => exact (by repeat (first | (with_reducible first | exact HB.out | apply below_alloc | apply pw_below_drewN | apply below_drew1) | exact HB.out))); (case aF => exact (fun _ _ => trivial)); (case aO => exact (by (with_reducible repeat (first | apply Kd.R_alloc | apply Kd.R_drewN | apply Kd.R_drew)); exact HO_3.out)); (case aS => exact (below_size (by repeat (first | (with_reducible first | exact HB.out | apply below_alloc | apply pw_below_drewN | apply below_drew1) | exact HB.out)))); (case aL => have := LMc8.out; omega); intro v224 w9 ho hb hg hat; rw [← Ny223.out] at ho; have n0_ := Aside0.mk (hb); have n1_ := Aside0.mk (ho); clear HB; clear HO_3; have HB := n0_; have HO225 := n1_; clear n0_ n1_; clear ho hb hg hat))
              go_roundg k1
              case measure => have := HK1.out; omega
              case rel => exact ⟨(y223), (wrap64 (x6_1 + 1)), (by first | rfl | (simp; done) | (simp [*]; done)), H', ⟨by have := HK1.out; omega⟩, ⟨by (with_reducible repeat (first | apply Kd.R_alloc | apply Kd.R_drewN | apply Kd.R_drew)); exact HO225.out⟩, ⟨by repeat (first | (with_reducible first | exact HB.out | apply below_alloc | apply pw_below_drewN | apply below_drew1) | exact HB.out)⟩⟩
            · rw [if_neg c8] at H
              exact absurd H (by simp)
          · rw [if_neg c7] at H
            have c7b0 : ((Go.bits .and .i64 (ji6) 1) == 1) = false := beq_eq_false_iff_ne.mpr c7
            have c7b1 : ((Go.bits .and .i64 (ji6) 1) != 1) = true := bne_iff_ne.mpr c7
            have H' := Aside0.mk H
            clear H
            go_wp2
            go_roundg k1
            case measure => have := HK1.out; omega
            case rel => exact ⟨(x3_1), (wrap64 (x6_1 + 1)), (by first | rfl | (simp; done) | (simp [*]; done)), H', ⟨by have := HK1.out; omega⟩, ⟨by (with_reducible repeat (first | apply Kd.R_alloc | apply Kd.R_drewN | apply Kd.R_drew)); exact HO_3.out⟩, ⟨by repeat (first | (with_reducible first | exact HB.out | apply below_alloc | apply pw_below_drewN | apply below_drew1) | exact HB.out)⟩⟩
        · rw [if_neg c5] at H
          exact absurd H (by simp)
      · rw [if_neg c4] at H
        have c4b0 : decide (x6_1 < 7) = false := decide_eq_false c4
        clear c4
        obtain rfl := Option.some.inj H
        go_wp2
        go_ret
        exact ⟨_, by first | rfl | (simp [errW_none, errW_some] <;> rfl) | (simp [*, errW_none, errW_some] <;> rfl), by (with_reducible repeat (first | apply Kd.R_alloc | apply Kd.R_drewN | apply Kd.R_drew)); exact HO_3.out, by repeat (first | (with_reducible first | exact HB.out | apply below_alloc | apply pw_below_drewN | apply below_drew1) | exact HB.out)⟩

-- NOT PRINTED: function 130 (impl_family_inner)

/-! ### cmp_isNaN_int: function 144 -/
def cmp_isNaN_int.f (a0 : Int) : Option (Bool) := some (a0 != a0)
set_option maxHeartbeats 8000000 in
set_option maxRecDepth 100000 in
theorem cmp_isNaN_int.calls (a0 : Int) (r : Bool) (w : World) (h : cmp_isNaN_int.f a0 = some r) :
    Calls Try.prog 144 #[.int .i64 a0] w fun e w' => e = .returned (.bool r) ∧ Drawn0 w w' := by
  have H : (some (a0 != a0)) = some r := h
  clear h
  obtain rfl := Option.some.inj H
  go_enter Try.func144, Try.ntmps144
  go_wp2
  go_ret
  exact ⟨by first | rfl | (simp; done) | (simp [*]; done), by repeat (first | exact Drawn0.refl _ | apply Drawn0.step)⟩

end Go.Proofs.Ytjhjphgdjhahlaa.P
-- PRINTED by print.py (a twelfth state) out of the translation. Not trusted: Lean checks it.
namespace Go.Proofs.Ytjhjphgdjhahlaa.P
open Go.RowKit Go.Proofs.YtjhjphgdjhahlaaW.PrintWords Go.Proofs.YtjhjphgdjhahlaaW.PrintLast Go.Proofs.YtjhjphgdjhahlaaW.PrintMore
attribute [local go_sem] max2_int min2_int max_two min_two max_three min_three max_four min_four   -- for this text's walks alone
set_option linter.unusedVariables false
set_option linter.unusedSimpArgs false

/-! ### cmp_Compare_int: function 133 -/
def cmp_Compare_int.f (a0 : Int) (a1 : Int) : Option (Int) := (cmp_isNaN_int.f a0).bind fun t226 => ((cmp_isNaN_int.f a1).bind fun t227 => (if t226 = true then (if t227 = true then (some 0) else (some (-1))) else (if t227 = true then (some 1) else (if a0 < a1 then (some (-1)) else (if a0 > a1 then (some 1) else (some 0))))))
set_option maxHeartbeats 8000000 in
set_option maxRecDepth 100000 in
theorem cmp_Compare_int.calls (a0 : Int) (a1 : Int) (r : Int) (w : World) (h : cmp_Compare_int.f a0 a1 = some r) :
    Calls Try.prog 133 #[.int .i64 a0, .int .i64 a1] w fun e w' => e = .returned (.int .i64 r) ∧ Drawn0 w w' := by
  have H : ((cmp_isNaN_int.f a0).bind fun t226 => ((cmp_isNaN_int.f a1).bind fun t227 => (if t226 = true then (if t227 = true then (some 0) else (some (-1))) else (if t227 = true then (some 1) else (if a0 < a1 then (some (-1)) else (if a0 > a1 then (some 1) else (some 0))))))) = some r := h
  clear h
  replace H := Option.bind_eq_some_iff.mp H
  obtain ⟨t226, A30, H⟩ := H
  replace H : ((cmp_isNaN_int.f a1).bind fun t227 => (if t226 = true then (if t227 = true then (some 0) else (some (-1))) else (if t227 = true then (some 1) else (if a0 < a1 then (some (-1)) else (if a0 > a1 then (some 1) else (some 0)))))) = some r := H
  have A3 := Aside0.mk A30
  clear A30
  replace H := Option.bind_eq_some_iff.mp H
  obtain ⟨t227, A40, H⟩ := H
  replace H : (if t226 = true then (if t227 = true then (some 0) else (some (-1))) else (if t227 = true then (some 1) else (if a0 < a1 then (some (-1)) else (if a0 > a1 then (some 1) else (some 0))))) = some r := H
  have A4 := Aside0.mk A40
  clear A40
  by_cases c5 : t226 = true
  · subst c5
    have H1 : (if t227 = true then (some 0) else (some (-1))) = some r := by rw [if_pos rfl] at H; exact H
    clear H
    have H := H1
    clear H1
    by_cases c6 : t227 = true
    · subst c6
      have H1 : (some 0) = some r := by rw [if_pos rfl] at H; exact H
      clear H
      have H := H1
      clear H1
      obtain rfl := Option.some.inj H
      go_enter Try.func133, Try.ntmps133
      go_wp2_with (first | ((with_reducible refine gate_callee (f := 144) rfl ?_); refine goesL_ (some 8) rfl rfl Try.func144 (by kernel_rfl) rfl #[.int .i64 a0] rfl (by (try simp only [List.map_toArray, List.map_cons, List.map_nil]); first | done | rfl | (simp only [List.length_drop, List.length_take]; rfl)) ?_; (with_reducible refine (cmp_isNaN_int.calls a0 true _ A3.out).mono ?_); rintro e w' ⟨rfl, ⟨nd, rfl⟩⟩; refine ⟨_, rfl, ?_⟩) | ((with_reducible refine gate_callee (f := 144) rfl ?_); refine goesL_ (some 10) rfl rfl Try.func144 (by kernel_rfl) rfl #[.int .i64 a1] rfl (by (try simp only [List.map_toArray, List.map_cons, List.map_nil]); first | done | rfl | (simp only [List.length_drop, List.length_take]; rfl)) ?_; (with_reducible refine (cmp_isNaN_int.calls a1 true _ A4.out).mono ?_); rintro e w' ⟨rfl, ⟨nd, rfl⟩⟩; refine ⟨_, rfl, ?_⟩))
      go_ret
      exact ⟨by first | rfl | (simp; done) | (simp [*]; done), by repeat (first | exact Drawn0.refl _ | apply Drawn0.step)⟩
    · replace c6 := Bool.eq_false_iff.mpr c6
      subst c6
      have H1 : (some (-1)) = some r := by rw [if_neg (show ¬ (false = true) by decide)] at H; exact H
      clear H
      have H := H1
      clear H1
      obtain rfl := Option.some.inj H
      go_enter Try.func133, Try.ntmps133
      go_wp2_with (first | ((with_reducible refine gate_callee (f := 144) rfl ?_); refine goesL_ (some 8) rfl rfl Try.func144 (by kernel_rfl) rfl #[.int .i64 a0] rfl (by (try simp only [List.map_toArray, List.map_cons, List.map_nil]); first | done | rfl | (simp only [List.length_drop, List.length_take]; rfl)) ?_; (with_reducible refine (cmp_isNaN_int.calls a0 true _ A3.out).mono ?_); rintro e w' ⟨rfl, ⟨nd, rfl⟩⟩; refine ⟨_, rfl, ?_⟩) | ((with_reducible refine gate_callee (f := 144) rfl ?_); refine goesL_ (some 10) rfl rfl Try.func144 (by kernel_rfl) rfl #[.int .i64 a1] rfl (by (try simp only [List.map_toArray, List.map_cons, List.map_nil]); first | done | rfl | (simp only [List.length_drop, List.length_take]; rfl)) ?_; (with_reducible refine (cmp_isNaN_int.calls a1 false _ A4.out).mono ?_); rintro e w' ⟨rfl, ⟨nd, rfl⟩⟩; refine ⟨_, rfl, ?_⟩))
      go_ret
      exact ⟨by first | rfl | (simp; done) | (simp [*]; done), by repeat (first | exact Drawn0.refl _ | apply Drawn0.step)⟩
  · replace c5 := Bool.eq_false_iff.mpr c5
    subst c5
    have H1 : (if t227 = true then (some 1) else (if a0 < a1 then (some (-1)) else (if a0 > a1 then (some 1) else (some 0)))) = some r := by rw [if_neg (show ¬ (false = true) by decide)] at H; exact H
    clear H
    have H := H1
    clear H1
    by_cases c7 : t227 = true
    · subst c7
      have H1 : (some 1) = some r := by rw [if_pos rfl] at H; exact H
      clear H
      have H := H1
      clear H1
      obtain rfl := Option.some.inj H
      go_enter Try.func133, Try.ntmps133
      go_wp2_with (first | ((with_reducible refine gate_callee (f := 144) rfl ?_); refine goesL_ (some 8) rfl rfl Try.func144 (by kernel_rfl) rfl #[.int .i64 a0] rfl (by (try simp only [List.map_toArray, List.map_cons, List.map_nil]); first | done | rfl | (simp only [List.length_drop, List.length_take]; rfl)) ?_; (with_reducible refine (cmp_isNaN_int.calls a0 false _ A3.out).mono ?_); rintro e w' ⟨rfl, ⟨nd, rfl⟩⟩; refine ⟨_, rfl, ?_⟩) | ((with_reducible refine gate_callee (f := 144) rfl ?_); refine goesL_ (some 10) rfl rfl Try.func144 (by kernel_rfl) rfl #[.int .i64 a1] rfl (by (try simp only [List.map_toArray, List.map_cons, List.map_nil]); first | done | rfl | (simp only [List.length_drop, List.length_take]; rfl)) ?_; (with_reducible refine (cmp_isNaN_int.calls a1 true _ A4.out).mono ?_); rintro e w' ⟨rfl, ⟨nd, rfl⟩⟩; refine ⟨_, rfl, ?_⟩))
      go_ret
      exact ⟨by first | rfl | (simp; done) | (simp [*]; done), by repeat (first | exact Drawn0.refl _ | apply Drawn0.step)⟩
    · replace c7 := Bool.eq_false_iff.mpr c7
      subst c7
      have H1 : (if a0 < a1 then (some (-1)) else (if a0 > a1 then (some 1) else (some 0))) = some r := by rw [if_neg (show ¬ (false = true) by decide)] at H; exact H
      clear H
      have H := H1
      clear H1
      by_cases c8 : a0 < a1
      · rw [if_pos c8] at H
        have c8b0 : decide (a0 < a1) = true := decide_eq_true c8
        clear c8
        obtain rfl := Option.some.inj H
        go_enter Try.func133, Try.ntmps133
        go_wp2_with (first | ((with_reducible refine gate_callee (f := 144) rfl ?_); refine goesL_ (some 8) rfl rfl Try.func144 (by kernel_rfl) rfl #[.int .i64 a0] rfl (by (try simp only [List.map_toArray, List.map_cons, List.map_nil]); first | done | rfl | (simp only [List.length_drop, List.length_take]; rfl)) ?_; (with_reducible refine (cmp_isNaN_int.calls a0 false _ A3.out).mono ?_); rintro e w' ⟨rfl, ⟨nd, rfl⟩⟩; refine ⟨_, rfl, ?_⟩) | ((with_reducible refine gate_callee (f := 144) rfl ?_); refine goesL_ (some 10) rfl rfl Try.func144 (by kernel_rfl) rfl #[.int .i64 a1] rfl (by (try simp only [List.map_toArray, List.map_cons, List.map_nil]); first | done | rfl | (simp only [List.length_drop, List.length_take]; rfl)) ?_; (with_reducible refine (cmp_isNaN_int.calls a1 false _ A4.out).mono ?_); rintro e w' ⟨rfl, ⟨nd, rfl⟩⟩; refine ⟨_, rfl, ?_⟩))
        go_ret
        exact ⟨by first | rfl | (simp; done) | (simp [*]; done), by repeat (first | exact Drawn0.refl _ | apply Drawn0.step)⟩
      · rw [if_neg c8] at H
        have c8b0 : decide (a0 < a1) = false := decide_eq_false c8
        clear c8
        by_cases c9 : a0 > a1
        · rw [if_pos c9] at H
          have c9b0 : decide (a1 < a0) = true := decide_eq_true c9
          clear c9
          obtain rfl := Option.some.inj H
          go_enter Try.func133, Try.ntmps133
          go_wp2_with (first | ((with_reducible refine gate_callee (f := 144) rfl ?_); refine goesL_ (some 8) rfl rfl Try.func144 (by kernel_rfl) rfl #[.int .i64 a0] rfl (by (try simp only [List.map_toArray, List.map_cons, List.map_nil]); first | done | rfl | (simp only [List.length_drop, List.length_take]; rfl)) ?_; (with_reducible refine (cmp_isNaN_int.calls a0 false _ A3.out).mono ?_); rintro e w' ⟨rfl, ⟨nd, rfl⟩⟩; refine ⟨_, rfl, ?_⟩) | ((with_reducible refine gate_callee (f := 144) rfl ?_); refine goesL_ (some 10) rfl rfl Try.func144 (by kernel_rfl) rfl #[.int .i64 a1] rfl (by (try simp only [List.map_toArray, List.map_cons, List.map_nil]); first | done | rfl | (simp only [List.length_drop, List.length_take]; rfl)) ?_; (with_reducible refine (cmp_isNaN_int.calls a1 false _ A4.out).mono ?_); rintro e w' ⟨rfl, ⟨nd, rfl⟩⟩; refine ⟨_, rfl, ?_⟩))
          go_ret
          exact ⟨by first | rfl | (simp; done) | (simp [*]; done), by repeat (first | exact Drawn0.refl _ | apply Drawn0.step)⟩
        · rw [if_neg c9] at H
          have c9b0 : decide (a1 < a0) = false := decide_eq_false c9
          clear c9
          obtain rfl := Option.some.inj H
          go_enter Try.func133, Try.ntmps133
          go_wp2_with (first | ((with_reducible refine gate_callee (f := 144) rfl ?_); refine goesL_ (some 8) rfl rfl Try.func144 (by kernel_rfl) rfl #[.int .i64 a0] rfl (by (try simp only [List.map_toArray, List.map_cons, List.map_nil]); first | done | rfl | (simp only [List.length_drop, List.length_take]; rfl)) ?_; (with_reducible refine (cmp_isNaN_int.calls a0 false _ A3.out).mono ?_); rintro e w' ⟨rfl, ⟨nd, rfl⟩⟩; refine ⟨_, rfl, ?_⟩) | ((with_reducible refine gate_callee (f := 144) rfl ?_); refine goesL_ (some 10) rfl rfl Try.func144 (by kernel_rfl) rfl #[.int .i64 a1] rfl (by (try simp only [List.map_toArray, List.map_cons, List.map_nil]); first | done | rfl | (simp only [List.length_drop, List.length_take]; rfl)) ?_; (with_reducible refine (cmp_isNaN_int.calls a1 false _ A4.out).mono ?_); rintro e w' ⟨rfl, ⟨nd, rfl⟩⟩; refine ⟨_, rfl, ?_⟩))
          go_ret
          exact ⟨by first | rfl | (simp; done) | (simp [*]; done), by repeat (first | exact Drawn0.refl _ | apply Drawn0.step)⟩

/-! ### slices_Compare_int_int: function 96 -/
def slices_Compare_int_int.l0 : Nat → List Int → List Int → List Int → Int → Int → Option (Int)
  | 0, _, _, _, _, _ => none
  | k + 1, x0, x1, x9, x10, x11 => if x11 < x10 then (if 0 ≤ x11 then (if x11 < (x9.length : Int) then (if x11 ≥ (x1.length : Int) then (some 1) else (if x11 < (x1.length : Int) then ((cmp_Compare_int.f (rd x9 x11) (rd x1 x11)).bind fun t230 => (if t230 = 0 then (slices_Compare_int_int.l0 k x0 x1 x9 x10 (wrap64 (x11 + 1))) else (some t230))) else (none))) else (none)) else (none)) else (if (x0.length : Int) < (x1.length : Int) then (some (-1)) else (some 0))
def slices_Compare_int_int.f (k : Nat) (l0 : List Int) (l1 : List Int) : Option (Int) := slices_Compare_int_int.l0 k l0 l1 l0 (l0.length : Int) 0
theorem slices_Compare_int_int.mono_l : ∀ k, (∀ y0 y1 y2 y3 y4, LeO (slices_Compare_int_int.l0 k y0 y1 y2 y3 y4) (slices_Compare_int_int.l0 (k + 1) y0 y1 y2 y3 y4))
  | 0 => fun _ _ _ _ _ r h => by simp [slices_Compare_int_int.l0] at h
  | k + 1 => by
    have ih0 := slices_Compare_int_int.mono_l k
    · intro y0 y1 y2 y3 y4
      unfold slices_Compare_int_int.l0
      repeat' first
      | (with_reducible exact ih0 _ _ _ _ _)
      | (with_reducible exact LeO.refl _)
      | (with_reducible exact LeO.none _)
      | (with_reducible refine LeO.ite ?_ ?_)
      | (with_reducible refine LeO.bind ?_ (fun _ => ?_))
      | exact ih0 _ _ _ _ _
      | exact LeO.none _
      | refine LeO.ite ?_ ?_
      | refine LeO.bind ?_ (fun _ => ?_)
theorem slices_Compare_int_int.mono : ∀ a0 a1 k, LeO (slices_Compare_int_int.f k a0 a1) (slices_Compare_int_int.f (k + 1) a0 a1) := by
  intro a0 a1 k
  have ih0 := slices_Compare_int_int.mono_l k
  unfold slices_Compare_int_int.f
  repeat' first
      | (with_reducible exact ih0 _ _ _ _ _)
      | (with_reducible exact LeO.refl _)
      | (with_reducible exact LeO.none _)
      | (with_reducible refine LeO.ite ?_ ?_)
      | (with_reducible refine LeO.bind ?_ (fun _ => ?_))
      | exact ih0 _ _ _ _ _
      | exact LeO.none _
      | refine LeO.ite ?_ ?_
      | refine LeO.bind ?_ (fun _ => ?_)
set_option maxHeartbeats 8000000 in
set_option maxRecDepth 100000 in
theorem slices_Compare_int_int.calls (k : Nat) (A0 : Option Addr) (c0 : Nat) (l0 : List Int) (A1 : Option Addr) (c1 : Nat) (l1 : List Int) (r : Int) (w : World) (hr0 : Kd.C (Kd.int .i64) w A0 l0.length l0) (hc0 : l0.length ≤ c0) (hr1 : Kd.C (Kd.int .i64) w A1 l1.length l1) (hc1 : l1.length ≤ c1) (h : slices_Compare_int_int.f k l0 l1 = some r) :
    Calls Try.prog 96 #[.slice A0 l0.length c0, .slice A1 l1.length c1] w fun e w' => e = .returned (.int .i64 r) ∧ Drawn0 w w' := by
  have HR0 := Aside0.mk hr0
  have HC0 := Aside0.mk hc0
  clear hr0 hc0
  have HR1 := Aside0.mk hr1
  have HC1 := Aside0.mk hc1
  clear hr1 hc1
  have H : (slices_Compare_int_int.l0 k l0 l1 l0 (l0.length : Int) 0) = some r := h
  clear h
  have H' := Aside0.mk H
  clear H
  go_enter Try.func96, Try.ntmps96
  go_wp2
  go_loopg [11] k (fun kq v11 w' => ∃ (x11_1 : Int), v11 = .int .i64 x11_1 ∧ Aside0 (slices_Compare_int_int.l0 kq l0 l1 l0 (l0.length : Int) x11_1 = some r) ∧ Aside0 (kq ≤ k) ∧ Drawn0 w w')
  case atStart => exact ⟨(0), (by first | rfl | (simp; done) | (simp [*]; done)), H', ⟨Nat.le_refl _⟩, by repeat (first | exact Drawn0.refl _ | apply Drawn0.step)⟩
  case round =>
    clear H'
    try clear c1
    try clear p2
    obtain ⟨x11_1, rfl, HA, HK1, ⟨m1, rfl⟩⟩ := hrel
    cases gk with
    | zero => exact absurd HA.out (by simp [slices_Compare_int_int.l0])
    | succ k1 =>
      have H := HA.out
      clear HA
      simp only [slices_Compare_int_int.l0] at H
      by_cases c3 : x11_1 < (l0.length : Int)
      · rw [if_pos c3] at H
        have c3b0 : decide (x11_1 < (l0.length : Int)) = true := decide_eq_true c3
        clear c3
        by_cases c4 : 0 ≤ x11_1
        · rw [if_pos c4] at H
          have c4b0 : decide (0 ≤ x11_1) = true := decide_eq_true c4
          clear c4
          by_cases c5 : x11_1 < (l0.length : Int)
          · rw [if_pos c5] at H
            have c5b0 : decide (x11_1 < (l0.length : Int)) = true := decide_eq_true c5
            clear c5
            by_cases c6 : x11_1 ≥ (l1.length : Int)
            · rw [if_pos c6] at H
              have c6b0 : decide ((l1.length : Int) ≤ x11_1) = true := decide_eq_true c6
              clear c6
              obtain rfl := Option.some.inj H
              have p228 : 0 ≤ (x11_1 : Int) := of_decide_eq_true (by first | (with_reducible assumption) | assumption)
              have q228 : x11_1 < (l0.length : Int) := of_decide_eq_true (by first | (with_reducible assumption) | assumption)
              obtain ⟨ad228, e228, hx228_0⟩ := Kd.at_int HR0.out x11_1 p228 q228
              cases e228
              replace p228 := eq_true p228
              replace q228 := eq_true q228
              go_wp2
              go_ret
              exact ⟨by first | rfl | (simp; done) | (simp [*]; done), by repeat (first | exact Drawn0.refl _ | apply Drawn0.step)⟩
            · rw [if_neg c6] at H
              have c6b0 : decide ((l1.length : Int) ≤ x11_1) = false := decide_eq_false c6
              clear c6
              by_cases c7 : x11_1 < (l1.length : Int)
              · rw [if_pos c7] at H
                have c7b0 : decide (x11_1 < (l1.length : Int)) = true := decide_eq_true c7
                clear c7
                replace H := Option.bind_eq_some_iff.mp H
                obtain ⟨t230, A80, H⟩ := H
                replace H : (if t230 = 0 then (slices_Compare_int_int.l0 k1 l0 l1 l0 (l0.length : Int) (wrap64 (x11_1 + 1))) else (some t230)) = some r := H
                have A8 := Aside0.mk A80
                clear A80
                by_cases c9 : t230 = 0
                · rw [if_pos c9] at H
                  have c9b0 : (t230 == 0) = true := beq_iff_eq.mpr c9
                  have c9b1 : (t230 != 0) = false := bne_eq_false_iff_eq.mpr c9
                  clear c9
                  have H' := Aside0.mk H
                  clear H
                  have p228 : 0 ≤ (x11_1 : Int) := of_decide_eq_true (by first | (with_reducible assumption) | assumption)
                  have q228 : x11_1 < (l0.length : Int) := of_decide_eq_true (by first | (with_reducible assumption) | assumption)
                  obtain ⟨ad228, e228, hx228_0⟩ := Kd.at_int HR0.out x11_1 p228 q228
                  cases e228
                  replace p228 := eq_true p228
                  replace q228 := eq_true q228
                  have p229 : 0 ≤ (x11_1 : Int) := of_decide_eq_true (by first | (with_reducible assumption) | assumption)
                  have q229 : x11_1 < (l1.length : Int) := of_decide_eq_true (by first | (with_reducible assumption) | assumption)
                  obtain ⟨ad229, e229, hx229_0⟩ := Kd.at_int HR1.out x11_1 p229 q229
                  cases e229
                  replace p229 := eq_true p229
                  replace q229 := eq_true q229
                  go_wp2_with (first | ((with_reducible refine gate_callee (f := 133) rfl ?_); refine goesL_ (some 26) rfl rfl Try.func133 (by kernel_rfl) rfl #[.int .i64 (rd l0 x11_1), .int .i64 (rd l1 x11_1)] rfl (by (try simp only [List.map_toArray, List.map_cons, List.map_nil]); first | done | rfl | (simp only [List.length_drop, List.length_take]; rfl)) ?_; (with_reducible refine (cmp_Compare_int.calls (rd l0 x11_1) (rd l1 x11_1) t230 _ A8.out).mono ?_); rintro e w' ⟨rfl, ⟨nd, rfl⟩⟩; refine ⟨_, rfl, ?_⟩))
                  go_roundg k1
                  case measure => have := HK1.out; omega
                  case rel => exact ⟨(wrap64 (x11_1 + 1)), (by first | rfl | (simp; done) | (simp [*]; done)), H', ⟨by have := HK1.out; omega⟩, by repeat (first | exact Drawn0.refl _ | apply Drawn0.step)⟩
                · rw [if_neg c9] at H
                  have c9b0 : (t230 == 0) = false := beq_eq_false_iff_ne.mpr c9
                  have c9b1 : (t230 != 0) = true := bne_iff_ne.mpr c9
                  obtain rfl := Option.some.inj H
                  have p228 : 0 ≤ (x11_1 : Int) := of_decide_eq_true (by first | (with_reducible assumption) | assumption)
                  have q228 : x11_1 < (l0.length : Int) := of_decide_eq_true (by first | (with_reducible assumption) | assumption)
                  obtain ⟨ad228, e228, hx228_0⟩ := Kd.at_int HR0.out x11_1 p228 q228
                  cases e228
                  replace p228 := eq_true p228
                  replace q228 := eq_true q228
                  have p229 : 0 ≤ (x11_1 : Int) := of_decide_eq_true (by first | (with_reducible assumption) | assumption)
                  have q229 : x11_1 < (l1.length : Int) := of_decide_eq_true (by first | (with_reducible assumption) | assumption)
                  obtain ⟨ad229, e229, hx229_0⟩ := Kd.at_int HR1.out x11_1 p229 q229
                  cases e229
                  replace p229 := eq_true p229
                  replace q229 := eq_true q229
                  go_wp2_with (first | ((with_reducible refine gate_callee (f := 133) rfl ?_); refine goesL_ (some 26) rfl rfl Try.func133 (by kernel_rfl) rfl #[.int .i64 (rd l0 x11_1), .int .i64 (rd l1 x11_1)] rfl (by (try simp only [List.map_toArray, List.map_cons, List.map_nil]); first | done | rfl | (simp only [List.length_drop, List.length_take]; rfl)) ?_; (with_reducible refine (cmp_Compare_int.calls (rd l0 x11_1) (rd l1 x11_1) t230 _ A8.out).mono ?_); rintro e w' ⟨rfl, ⟨nd, rfl⟩⟩; refine ⟨_, rfl, ?_⟩))
                  go_ret
                  exact ⟨by first | rfl | (simp; done) | (simp [*]; done), by repeat (first | exact Drawn0.refl _ | apply Drawn0.step)⟩
              · rw [if_neg c7] at H
                exact absurd H (by simp)
          · rw [if_neg c5] at H
            exact absurd H (by simp)
        · rw [if_neg c4] at H
          exact absurd H (by simp)
      · rw [if_neg c3] at H
        have c3b0 : decide (x11_1 < (l0.length : Int)) = false := decide_eq_false c3
        clear c3
        by_cases c10 : (l0.length : Int) < (l1.length : Int)
        · rw [if_pos c10] at H
          have c10b0 : decide ((l0.length : Int) < (l1.length : Int)) = true := decide_eq_true c10
          have c10b1 : decide (l0.length < l1.length) = true := decide_eq_true (Int.ofNat_lt.mp c10)
          clear c10
          obtain rfl := Option.some.inj H
          go_wp2
          go_ret
          exact ⟨by first | rfl | (simp; done) | (simp [*]; done), by repeat (first | exact Drawn0.refl _ | apply Drawn0.step)⟩
        · rw [if_neg c10] at H
          have c10b0 : decide ((l0.length : Int) < (l1.length : Int)) = false := decide_eq_false c10
          have c10b1 : decide (l0.length < l1.length) = false := decide_eq_false (fun h => c10 (Int.ofNat_lt.mpr h))
          clear c10
          obtain rfl := Option.some.inj H
          go_wp2
          go_ret
          exact ⟨by first | rfl | (simp; done) | (simp [*]; done), by repeat (first | exact Drawn0.refl _ | apply Drawn0.step)⟩

/-! ### impl_compare: function 52 -/
def impl_compare.f (k : Nat) (a0_0 : Int) (l0_1 : List Int) (a1_0 : Int) (l1_1 : List Int) : Option (Int) := (slices_Compare_int_int.f k l0_1 l1_1).bind fun t233 => (some t233)
theorem impl_compare.mono : ∀ a0 a1 a2 a3 k, LeO (impl_compare.f k a0 a1 a2 a3) (impl_compare.f (k + 1) a0 a1 a2 a3) := by
  intro a0 a1 a2 a3 k
  unfold impl_compare.f
  repeat' first
      | (with_reducible exact slices_Compare_int_int.mono _ _ _)
      | (with_reducible exact LeO.refl _)
      | (with_reducible exact LeO.none _)
      | (with_reducible refine LeO.ite ?_ ?_)
      | (with_reducible refine LeO.bind ?_ (fun _ => ?_))
      | exact slices_Compare_int_int.mono _ _ _
      | exact LeO.none _
      | refine LeO.ite ?_ ?_
      | refine LeO.bind ?_ (fun _ => ?_)
set_option maxHeartbeats 8000000 in
set_option maxRecDepth 100000 in
theorem impl_compare.calls (k : Nat) (a0_0 : Int) (A0_1 : Option Addr) (c0_1 : Nat) (l0_1 : List Int) (a1_0 : Int) (A1_1 : Option Addr) (c1_1 : Nat) (l1_1 : List Int) (r : Int) (w : World) (hr0_1 : Kd.C (Kd.int .i64) w A0_1 l0_1.length l0_1) (hc0_1 : l0_1.length ≤ c0_1) (hr1_1 : Kd.C (Kd.int .i64) w A1_1 l1_1.length l1_1) (hc1_1 : l1_1.length ≤ c1_1) (h : impl_compare.f k a0_0 l0_1 a1_0 l1_1 = some r) :
    Calls Try.prog 52 #[.agg #[.int .i64 a0_0, .slice A0_1 l0_1.length c0_1], .agg #[.int .i64 a1_0, .slice A1_1 l1_1.length c1_1]] w fun e w' => e = .returned (.int .i64 r) ∧ Below w.heap.size w w' := by
  have hu28 := Try.underlying28
  have HR0_1 := Aside0.mk hr0_1
  have HC0_1 := Aside0.mk hc0_1
  clear hr0_1 hc0_1
  have HR1_1 := Aside0.mk hr1_1
  have HC1_1 := Aside0.mk hc1_1
  clear hr1_1 hc1_1
  have HB := Aside0.mk (Below.refl w.heap.size w)
  have H : ((slices_Compare_int_int.f k l0_1 l1_1).bind fun t233 => (some t233)) = some r := h
  clear h
  replace H := Option.bind_eq_some_iff.mp H
  obtain ⟨t233, A30, H⟩ := H
  replace H : (some t233) = some r := H
  have A3 := Aside0.mk A30
  clear A30
  obtain rfl := Option.some.inj H
  go_enter Try.func52, Try.ntmps52
  go_wp2_with (first | ((with_reducible refine gate_dst (N := 2) rfl ?_); refine box_event ?hg (N := 2) ?hd (cs := #[.int .i64 a0_0, .slice A0_1 l0_1.length c0_1]) (t := 28) ?hr ?_; (case hd => rfl); (case hg => rfl); (case hr => first | (go_simp; done) | (go_simp; rfl)); intro gb231 hg w4 hbox hb; have n0_ := Aside0.mk (below_step (by repeat (first | (with_reducible first | exact HB.out | apply below_alloc | apply pw_below_drewN | apply below_drew1) | exact HB.out)) hb); have n1_ := Aside0.mk (hbox); have n2_ := Aside0.mk ((by rw [hg]; exact (below_size (by repeat (first | (with_reducible first | exact HB.out | apply below_alloc | apply pw_below_drewN | apply below_drew1) | exact HB.out))) : w.heap.size ≤ gb231)); have n3_ := Aside0.mk ((by rw [hg]; exact (below_size (by repeat (first | (with_reducible first | exact HB.out | apply below_alloc | apply pw_below_drewN | apply below_drew1) | exact HB.out))) : w.heap.size ≤ gb231)); clear HB; have HB := n0_; have BK231 := n1_; have GW231 := n2_; have GE231 := n3_; clear n0_ n1_ n2_ n3_; clear hb hbox hg) | ((with_reducible refine gate_dst (N := 3) rfl ?_); refine box_event ?hg (N := 3) ?hd (cs := #[.int .i64 a1_0, .slice A1_1 l1_1.length c1_1]) (t := 28) ?hr ?_; (case hd => rfl); (case hg => rfl); (case hr => first | (go_simp; done) | (go_simp; rfl)); intro gb232 hg w5 hbox hb; have n0_ := Aside0.mk (blk_below (g := gb231) (o := .cells #[.int .i64 a0_0, .slice A0_1 l0_1.length c0_1] 28 (0, 0)) (by (with_reducible repeat (first | refine blk_drewN ?_ _ | refine blk_drew ?_ | refine blk_alloc ?_ _)); exact BK231.out) hb); have n1_ := Aside0.mk (below_step (by repeat (first | (with_reducible first | exact HB.out | apply below_alloc | apply pw_below_drewN | apply below_drew1 | refine below_set ?_ GE231.out) | exact HB.out)) hb); have n2_ := Aside0.mk (hbox); have n3_ := Aside0.mk ((by rw [hg]; exact (below_size (by repeat (first | (with_reducible first | exact HB.out | apply below_alloc | apply pw_below_drewN | apply below_drew1 | refine below_set ?_ GE231.out) | exact HB.out))) : w.heap.size ≤ gb232)); have n4_ := Aside0.mk ((by rw [hg]; exact (below_size (by repeat (first | (with_reducible first | exact HB.out | apply below_alloc | apply pw_below_drewN | apply below_drew1 | refine below_set ?_ GE231.out) | exact HB.out))) : w.heap.size ≤ gb232)); have n5_ := Aside0.mk ((by rw [hg]; exact Nat.ne_of_lt (blk_lt (g := gb231) (o := .cells #[.int .i64 a0_0, .slice A0_1 l0_1.length c0_1] 28 (0, 0)) (by (with_reducible repeat (first | refine blk_drewN ?_ _ | refine blk_drew ?_ | refine blk_alloc ?_ _)); exact BK231.out)) : gb231 ≠ gb232)); have n6_ := Aside0.mk ((by rw [hg]; exact Nat.ne_of_gt (blk_lt (g := gb231) (o := .cells #[.int .i64 a0_0, .slice A0_1 l0_1.length c0_1] 28 (0, 0)) (by (with_reducible repeat (first | refine blk_drewN ?_ _ | refine blk_drew ?_ | refine blk_alloc ?_ _)); exact BK231.out)) : gb232 ≠ gb231)); clear BK231; clear HB; have BK231 := n0_; have HB := n1_; have BK232 := n2_; have GW232 := n3_; have GE232 := n4_; have NB231_232 := n5_; have NB232_231 := n6_; clear n0_ n1_ n2_ n3_ n4_ n5_ n6_; clear hb hbox hg; have hnb6 := NB231_232.out; have hnc6 := NB232_231.out; have hcz7_0 : w5.cell? ⟨gb231, 0, none⟩ = some (.int .i64 a0_0) := (blk_cell BK231.out 0).trans rfl; have hcz7_1 : w5.cell? ⟨gb231, 1, none⟩ = some (.slice A0_1 l0_1.length c0_1) := (blk_cell BK231.out 1).trans rfl; have hfz7_0 := blk_frozen BK231.out 0; have hfz7_1 := blk_frozen BK231.out 1; have hcz8_0 : w5.cell? ⟨gb232, 0, none⟩ = some (.int .i64 a1_0) := (blk_cell BK232.out 0).trans rfl; have hcz8_1 : w5.cell? ⟨gb232, 1, none⟩ = some (.slice A1_1 l1_1.length c1_1) := (blk_cell BK232.out 1).trans rfl; have hfz8_0 := blk_frozen BK232.out 0; have hfz8_1 := blk_frozen BK232.out 1) | ((with_reducible refine gate_callee (f := 96) rfl ?_); refine goesL_ (some 9) rfl rfl Try.func96 (by kernel_rfl) rfl #[.slice A0_1 l0_1.length c0_1, .slice A1_1 l1_1.length c1_1] rfl (by (try simp only [List.map_toArray, List.map_cons, List.map_nil]); first | done | rfl | (simp only [List.length_drop, List.length_take]; rfl)) ?_; (with_reducible refine (slices_Compare_int_int.calls k _ _ l0_1 _ _ l1_1 t233 _ ?side1 ?side2 ?side3 ?side4 A3.out).mono ?_); (case side1 => repeat (first | exact (Kd.C_below HR0_1.out HB.out) | (with_reducible refine Kd.C_alloc ?_ _) | (with_reducible refine Kd.C_drewN ?_ _) | (with_reducible refine Kd.C_drew ?_))); (case side2 => exact HC0_1.out); (case side3 => repeat (first | exact (Kd.C_below HR1_1.out HB.out) | (with_reducible refine Kd.C_alloc ?_ _) | (with_reducible refine Kd.C_drewN ?_ _) | (with_reducible refine Kd.C_drew ?_))); (case side4 => exact HC1_1.out); rintro e w' ⟨rfl, ⟨nd, rfl⟩⟩; refine ⟨_, rfl, ?_⟩))
  go_ret
  exact ⟨by first | rfl | (simp [errW_none, errW_some] <;> rfl) | (simp [*, errW_none, errW_some] <;> rfl), by repeat (first | (with_reducible first | exact HB.out | apply below_alloc | apply pw_below_drewN | apply below_drew1 | refine below_set ?_ GE231.out | refine below_set ?_ GE232.out) | exact HB.out)⟩

/-! ### impl_renamed: function 134 -/
def impl_renamed.l0 : Nat → List Int → Int → List Int → Int → Int → Option (Int)
  | 0, _, _, _, _, _ => none
  | k + 1, x1, x5, x9, x10, x11 => if x11 < x10 then (if 0 ≤ x11 then (if x11 < (x9.length : Int) then (if 0 ≤ (rd x9 x11) then (if (rd x9 x11) < (x1.length : Int) then (if 0 ≤ (rd x1 (rd x9 x11)) then (impl_renamed.l0 k x1 (Go.bits .or .i64 x5 (shl .i64 1 (rd x1 (rd x9 x11)))) x9 x10 (wrap64 (x11 + 1))) else (none)) else (none)) else (none)) else (none)) else (none)) else (some x5)
def impl_renamed.f (k : Nat) (a0 : Int) (l1 : List Int) : Option (Int) := (impl_items.f k a0).bind fun t234 => (impl_renamed.l0 k l1 0 t234 (t234.length : Int) 0)
theorem impl_renamed.mono_l : ∀ k, (∀ y0 y1 y2 y3 y4, LeO (impl_renamed.l0 k y0 y1 y2 y3 y4) (impl_renamed.l0 (k + 1) y0 y1 y2 y3 y4))
  | 0 => fun _ _ _ _ _ r h => by simp [impl_renamed.l0] at h
  | k + 1 => by
    have ih0 := impl_renamed.mono_l k
    · intro y0 y1 y2 y3 y4
      unfold impl_renamed.l0
      repeat' first
      | (with_reducible exact ih0 _ _ _ _ _)
      | (with_reducible exact impl_items.mono _ _)
      | (with_reducible exact LeO.refl _)
      | (with_reducible exact LeO.none _)
      | (with_reducible refine LeO.ite ?_ ?_)
      | (with_reducible refine LeO.bind ?_ (fun _ => ?_))
      | exact ih0 _ _ _ _ _
      | exact impl_items.mono _ _
      | exact LeO.none _
      | refine LeO.ite ?_ ?_
      | refine LeO.bind ?_ (fun _ => ?_)
theorem impl_renamed.mono : ∀ a0 a1 k, LeO (impl_renamed.f k a0 a1) (impl_renamed.f (k + 1) a0 a1) := by
  intro a0 a1 k
  have ih0 := impl_renamed.mono_l k
  unfold impl_renamed.f
  repeat' first
      | (with_reducible exact ih0 _ _ _ _ _)
      | (with_reducible exact impl_items.mono _ _)
      | (with_reducible exact LeO.refl _)
      | (with_reducible exact LeO.none _)
      | (with_reducible refine LeO.ite ?_ ?_)
      | (with_reducible refine LeO.bind ?_ (fun _ => ?_))
      | exact ih0 _ _ _ _ _
      | exact impl_items.mono _ _
      | exact LeO.none _
      | refine LeO.ite ?_ ?_
      | refine LeO.bind ?_ (fun _ => ?_)
set_option maxHeartbeats 8000000 in
set_option maxRecDepth 100000 in
theorem impl_renamed.calls (k : Nat) (a0 : Int) (A1 : Option Addr) (c1 : Nat) (l1 : List Int) (r : Int) (w : World) (hr1 : Kd.C (Kd.int .i64) w A1 l1.length l1) (hc1 : l1.length ≤ c1) (h : impl_renamed.f k a0 l1 = some r) :
    Calls Try.prog 134 #[.int .i64 a0, .slice A1 l1.length c1] w fun e w' => e = .returned (.int .i64 r) ∧ Below w.heap.size w w' := by
  have HR1 := Aside0.mk hr1
  have HC1 := Aside0.mk hc1
  clear hr1 hc1
  have HB := Aside0.mk (Below.refl w.heap.size w)
  have H : ((impl_items.f k a0).bind fun t234 => (impl_renamed.l0 k l1 0 t234 (t234.length : Int) 0)) = some r := h
  clear h
  replace H := Option.bind_eq_some_iff.mp H
  obtain ⟨t234, A30, H⟩ := H
  replace H : (impl_renamed.l0 k l1 0 t234 (t234.length : Int) 0) = some r := H
  have A3 := Aside0.mk A30
  clear A30
  have H' := Aside0.mk H
  clear H
  go_enter Try.func134, Try.ntmps134
  go_wp2_with (first | ((with_reducible refine gate_callee (f := 110) rfl ?_); refine goesL_ (some 9) rfl rfl Try.func110 (by kernel_rfl) rfl #[.int .i64 a0] rfl (by (try simp only [List.map_toArray, List.map_cons, List.map_nil]); first | done | rfl | (simp only [List.length_drop, List.length_take]; rfl)) ?_; (with_reducible refine (impl_items.calls k a0 t234 _ A3.out).mono ?_); rintro e w4 ⟨v235, rfl, ho0, hb⟩; refine ⟨_, rfl, ?_⟩; have n0_ := Aside0.mk (Kd.R_lower ho0 (below_size (by repeat (first | (with_reducible first | exact HB.out | apply below_alloc | apply pw_below_drewN | apply below_drew1) | exact HB.out)))); have n1_ := Aside0.mk (below_step (by repeat (first | (with_reducible first | exact HB.out | apply below_alloc | apply pw_below_drewN | apply below_drew1) | exact HB.out)) hb); clear HB; have HO236 := n0_; have HB := n1_; clear n0_ n1_; (try clear hb); (try clear hb2); (try clear hk); (try clear hi); (try clear ho0); obtain ⟨Ao5, co5, eo5⟩ := Kd.R_slice HO236.out; subst eo5))
  go_loopg [5, 11] k (fun kq v5 v11 w' => ∃ (x5_1 : Int) (x11_1 : Int), v5 = .int .i64 x5_1 ∧ v11 = .int .i64 x11_1 ∧ Aside0 (impl_renamed.l0 kq l1 x5_1 t234 (t234.length : Int) x11_1 = some r) ∧ Aside0 (kq ≤ k) ∧ Aside0 (Kd.R (Kd.int .i64) 3 w' w.heap.size (fun _ => True) (.slice Ao5 t234.length co5) t234) ∧ Aside0 (Below w.heap.size w w'))
  case atStart => exact ⟨(0), (0), (by first | rfl | (simp; done) | (simp [*]; done)), (by first | rfl | (simp; done) | (simp [*]; done)), H', ⟨Nat.le_refl _⟩, ⟨by (with_reducible repeat (first | apply Kd.R_alloc | apply Kd.R_drewN | apply Kd.R_drew)); exact HO236.out⟩, ⟨by repeat (first | (with_reducible first | exact HB.out | apply below_alloc | apply pw_below_drewN | apply below_drew1) | exact HB.out)⟩⟩
  case round =>
    clear H'
    try clear c1
    try clear p2
    obtain ⟨x5_1, x11_1, rfl, rfl, HA, HK1, HO_9, HB⟩ := hrel
    cases gk with
    | zero => exact absurd HA.out (by simp [impl_renamed.l0])
    | succ k1 =>
      have H := HA.out
      clear HA
      simp only [impl_renamed.l0] at H
      by_cases c6 : x11_1 < (t234.length : Int)
      · rw [if_pos c6] at H
        have c6b0 : decide (x11_1 < (t234.length : Int)) = true := decide_eq_true c6
        clear c6
        by_cases c7 : 0 ≤ x11_1
        · rw [if_pos c7] at H
          have c7b0 : decide (0 ≤ x11_1) = true := decide_eq_true c7
          clear c7
          by_cases c8 : x11_1 < (t234.length : Int)
          · rw [if_pos c8] at H
            have c8b0 : decide (x11_1 < (t234.length : Int)) = true := decide_eq_true c8
            clear c8
            by_cases c9 : 0 ≤ (rd t234 x11_1)
            · rw [if_pos c9] at H
              have c9b0 : decide (0 ≤ (rd t234 x11_1)) = true := decide_eq_true c9
              clear c9
              by_cases c10 : (rd t234 x11_1) < (l1.length : Int)
              · rw [if_pos c10] at H
                have c10b0 : decide ((rd t234 x11_1) < (l1.length : Int)) = true := decide_eq_true c10
                clear c10
                by_cases c11 : 0 ≤ (rd l1 (rd t234 x11_1))
                · rw [if_pos c11] at H
                  have c11b0 := eq_true c11
                  have c11b1 : decide (0 ≤ (rd l1 (rd t234 x11_1))) = true := decide_eq_true c11
                  clear c11
                  obtain ⟨ji12, hji12⟩ : ∃ j_ : Int, (shl .i64 1 (rd l1 (rd t234 x11_1))) = j_ := ⟨_, rfl⟩
                  replace H : (impl_renamed.l0 k1 l1 (Go.bits .or .i64 x5_1 (ji12)) t234 (t234.length : Int) (wrap64 (x11_1 + 1))) = some r := by first | (rw [hji12] at H; exact H) | (simp only [hji12] at H ⊢; exact H)
                  have hji12_ : (IntKind.i64.wrap (1 * 2 ^ min (rd l1 (rd t234 x11_1)).toNat 64)) = ji12 := hji12
                  have hji12z : (rd l1 (rd t234 x11_1)) ≤ 64 → (IntKind.i64.wrap (1 * 2 ^ (rd l1 (rd t234 x11_1)).toNat)) = ji12 := shl_small hji12
                  have hji12u : (IntKind.i64.wrap (2 ^ min (rd l1 (rd t234 x11_1)).toNat 64)) = ji12 := by have h_ := hji12_; rw [Int.one_mul] at h_; exact h_
                  have hji12v : (rd l1 (rd t234 x11_1)) ≤ 64 → (IntKind.i64.wrap (2 ^ (rd l1 (rd t234 x11_1)).toNat)) = ji12 := fun hle_ => by have h_ := hji12z hle_; rw [Int.one_mul] at h_; exact h_
                  have hji12y : (wrap64 (1 * 2 ^ min (rd l1 (rd t234 x11_1)).toNat 64)) = ji12 := (i64_w _).symm.trans hji12_
                  have hji12x : (rd l1 (rd t234 x11_1)) ≤ 64 → (wrap64 (1 * 2 ^ (rd l1 (rd t234 x11_1)).toNat)) = ji12 := fun h_ => (i64_w _).symm.trans (hji12z h_)
                  have H' := Aside0.mk H
                  clear H
                  have p237 : 0 ≤ (x11_1 : Int) := of_decide_eq_true (by first | (with_reducible assumption) | assumption)
                  have q237 : x11_1 < (t234.length : Int) := of_decide_eq_true (by first | (with_reducible assumption) | assumption)
                  obtain ⟨ad237, e237, hx237_0⟩ := Kd.at_int (Kd.R_reads' HO_9.out).2.2 x11_1 p237 q237
                  cases e237
                  replace p237 := eq_true p237
                  replace q237 := eq_true q237
                  have p238 : 0 ≤ ((rd t234 x11_1) : Int) := of_decide_eq_true (by first | (with_reducible assumption) | assumption)
                  have q238 : (rd t234 x11_1) < (l1.length : Int) := of_decide_eq_true (by first | (with_reducible assumption) | assumption)
                  obtain ⟨ad238, e238, hx238_0⟩ := Kd.at_int HR1.out (rd t234 x11_1) p238 q238
                  cases e238
                  replace hx238_0 := (HB.out.cell (World.block_lt_of_cell? w _ hx238_0)).trans hx238_0
                  replace p238 := eq_true p238
                  replace q238 := eq_true q238
                  go_wp2
                  go_roundg k1
                  case measure => have := HK1.out; omega
                  case rel => exact ⟨(Go.bits .or .i64 x5_1 (ji12)), (wrap64 (x11_1 + 1)), (by first | rfl | (simp; done) | (simp only [← hji12] <;> (first | rfl | simp)) | (simp [*]; done)), (by first | rfl | (simp; done) | (simp [*]; done)), H', ⟨by have := HK1.out; omega⟩, ⟨by (with_reducible repeat (first | apply Kd.R_alloc | apply Kd.R_drewN | apply Kd.R_drew)); exact HO_9.out⟩, ⟨by repeat (first | (with_reducible first | exact HB.out | apply below_alloc | apply pw_below_drewN | apply below_drew1) | exact HB.out)⟩⟩
                · rw [if_neg c11] at H
                  exact absurd H (by simp)
              · rw [if_neg c10] at H
                exact absurd H (by simp)
            · rw [if_neg c9] at H
              exact absurd H (by simp)
          · rw [if_neg c8] at H
            exact absurd H (by simp)
        · rw [if_neg c7] at H
          exact absurd H (by simp)
      · rw [if_neg c6] at H
        have c6b0 : decide (x11_1 < (t234.length : Int)) = false := decide_eq_false c6
        clear c6
        obtain rfl := Option.some.inj H
        go_wp2
        go_ret
        exact ⟨by first | rfl | (simp [errW_none, errW_some] <;> rfl) | (simp [*, errW_none, errW_some] <;> rfl), by repeat (first | (with_reducible first | exact HB.out | apply below_alloc | apply pw_below_drewN | apply below_drew1) | exact HB.out)⟩

-- NOT PRINTED: function 135 (impl_family_space)

-- NOT PRINTED: function 97 (impl_Space_rename)

/-! ### impl_firstNames: function 98 -/
def impl_firstNames.l0 : Nat → List Int → Int → Int → Option (List Int)
  | 0, _, _, _ => none
  | k + 1, x3, x6, x7 => if x7 < x6 then (if x3.length < 17592186044416 then (impl_firstNames.l0 k (x3 ++ [x7]) x6 (wrap64 (x7 + 1))) else (none)) else (some x3)
def impl_firstNames.f (k : Nat) (a0 : Int) : Option (List Int) := impl_firstNames.l0 k (([] : List Int)) a0 0
theorem impl_firstNames.mono_l : ∀ k, (∀ y0 y1 y2, LeO (impl_firstNames.l0 k y0 y1 y2) (impl_firstNames.l0 (k + 1) y0 y1 y2))
  | 0 => fun _ _ _ r h => by simp [impl_firstNames.l0] at h
  | k + 1 => by
    have ih0 := impl_firstNames.mono_l k
    · intro y0 y1 y2
      unfold impl_firstNames.l0
      repeat' first
      | (with_reducible exact ih0 _ _ _)
      | (with_reducible exact LeO.refl _)
      | (with_reducible exact LeO.none _)
      | (with_reducible refine LeO.ite ?_ ?_)
      | (with_reducible refine LeO.bind ?_ (fun _ => ?_))
      | exact ih0 _ _ _
      | exact LeO.none _
      | refine LeO.ite ?_ ?_
      | refine LeO.bind ?_ (fun _ => ?_)
theorem impl_firstNames.mono : ∀ a0 k, LeO (impl_firstNames.f k a0) (impl_firstNames.f (k + 1) a0) := by
  intro a0 k
  have ih0 := impl_firstNames.mono_l k
  unfold impl_firstNames.f
  repeat' first
      | (with_reducible exact ih0 _ _ _)
      | (with_reducible exact LeO.refl _)
      | (with_reducible exact LeO.none _)
      | (with_reducible refine LeO.ite ?_ ?_)
      | (with_reducible refine LeO.bind ?_ (fun _ => ?_))
      | exact ih0 _ _ _
      | exact LeO.none _
      | refine LeO.ite ?_ ?_
      | refine LeO.bind ?_ (fun _ => ?_)
set_option maxHeartbeats 8000000 in
set_option maxRecDepth 100000 in
theorem impl_firstNames.calls (k : Nat) (a0 : Int) (r : List Int) (w : World) (h : impl_firstNames.f k a0 = some r) :
    Calls Try.prog 98 #[.int .i64 a0] w fun e w' => ∃ v0_ : Value, e = .returned (v0_) ∧ Kd.R (Kd.int .i64) 3 w' w.heap.size (fun _ => True) v0_ r ∧ Below w.heap.size w w' := by
  have HB := Aside0.mk (Below.refl w.heap.size w)
  have H : (impl_firstNames.l0 k (([] : List Int)) a0 0) = some r := h
  clear h
  obtain ⟨y241, hy241⟩ : ∃ y_ : List Int, y_ = (([] : List Int)) := ⟨_, rfl⟩
  replace H : (impl_firstNames.l0 k y241 a0 0) = some r := by first | (rw [hy241]; with_reducible exact H) | (have H2_ := (Option.bind_some _ _).symm.trans H; rw [hy241]; with_reducible exact H2_) | (have H2_ := (Option.bind_some _ _).symm.trans H; with_reducible exact H2_) | with_reducible exact H | (rw [hy241]; exact H) | exact H
  have Ny241 := Aside0.mk hy241
  clear hy241
  have H' := Aside0.mk H
  clear H
  go_enter Try.func98, Try.ntmps98
  go_wp2_with (first | ((with_reducible refine gate_dst (N := 5) rfl ?_); refine Kd.R_lit (Kd.int .i64) _ 3 ?hg (N := 5) ?hd (xs := ([] : List Int)) (inner := []) (ok := fun _ => True) (okp := fun _ => True) ?hr ?hp (fun _ hk => hk) trivial (Below.refl _ _) (Nat.le_refl _) (by simp) ?_; (case hd => rfl); (case hg => rfl); (case hr => first | (go_simp; done) | (go_simp; rfl)); (case hp => exact (Reps.none _ _)); intro v242 w2 ho3 hb hg_ hnew_; clear hg_ hnew_; (first | rw [← Ny241.out] at ho3 | (simp only [Int.reduceToNat] at ho3; rw [← Ny241.out] at ho3)); have n0_ := Aside0.mk (Kd.R_lower ho3 (below_size (by repeat (first | (with_reducible first | exact HB.out | apply below_alloc | apply pw_below_drewN | apply below_drew1) | exact HB.out)))); have n1_ := Aside0.mk (below_step (by repeat (first | (with_reducible first | exact HB.out | apply below_alloc | apply pw_below_drewN | apply below_drew1) | exact HB.out)) hb); clear HB; have HO243 := n0_; have HB := n1_; clear n0_ n1_; clear hb ho3))
  go_loopg [3, 7] k (fun kq v3 v7 w' => ∃ (x3_1 : List Int) (x7_1 : Int), v7 = .int .i64 x7_1 ∧ Aside0 (impl_firstNames.l0 kq x3_1 a0 x7_1 = some r) ∧ Aside0 (kq ≤ k) ∧ Aside0 (Kd.R (Kd.int .i64) 3 w' w.heap.size (fun _ => True) v3 x3_1) ∧ Aside0 (Below w.heap.size w w'))
  case atStart => exact ⟨(y241), (0), (by first | rfl | (simp; done) | (simp [*]; done)), H', ⟨Nat.le_refl _⟩, ⟨by (with_reducible repeat (first | apply Kd.R_alloc | apply Kd.R_drewN | apply Kd.R_drew)); exact HO243.out⟩, ⟨by repeat (first | (with_reducible first | exact HB.out | apply below_alloc | apply pw_below_drewN | apply below_drew1) | exact HB.out)⟩⟩
  case round =>
    clear H'
    try clear p2
    obtain ⟨x3_1, x7_1, rfl, HA, HK1, HO_3, HB⟩ := hrel
    cases gk with
    | zero => exact absurd HA.out (by simp [impl_firstNames.l0])
    | succ k1 =>
      have H := HA.out
      clear HA
      simp only [impl_firstNames.l0] at H
      by_cases c4 : x7_1 < a0
      · rw [if_pos c4] at H
        have c4b0 : decide (x7_1 < a0) = true := decide_eq_true c4
        clear c4
        by_cases c5 : x3_1.length < 17592186044416
        · rw [if_pos c5] at H
          have LMc5 := Aside0.mk c5
          clear c5
          obtain ⟨y244, hy244⟩ : ∃ y_ : List Int, y_ = (x3_1 ++ [x7_1]) := ⟨_, rfl⟩
          replace H : (impl_firstNames.l0 k1 y244 a0 (wrap64 (x7_1 + 1))) = some r := by first | (rw [hy244]; with_reducible exact H) | (have H2_ := (Option.bind_some _ _).symm.trans H; rw [hy244]; with_reducible exact H2_) | (have H2_ := (Option.bind_some _ _).symm.trans H; with_reducible exact H2_) | with_reducible exact H | (rw [hy244]; exact H) | exact H
          have Ny244 := Aside0.mk hy244
          clear hy244
          have H' := Aside0.mk H
          clear H
          go_wp2_with (first | ((with_reducible refine gate_builtin (b := .append) (xs := #[.tmp 10, .tmp 12]) rfl ?_); at_builtin; refine Kd.R_append (Kd.int .i64) (w0 := w) w.heap.size rfl (.tmp 10) (.tmp 12) 22 3 (.int .i64 0) 8 rfl Try.underlying22 info3 rfl (by decide) (by omega) u3 x3_1 x7_1 [.int .i64 x7_1] (fun _ => True) (fun _ => False) rfl rfl ?aP (fun _ hk => hk.elim) ?aF ?aO ?aB ?aS ?aL ?_; (case aP => exact rfl); (case aB => exact (by repeat (first | (with_reducible first | exact HB.out | apply below_alloc | apply pw_below_drewN | apply below_drew1) | exact HB.out))); (case aF => exact (fun _ _ => trivial)); (case aO => exact (by (with_reducible repeat (first | apply Kd.R_alloc | apply Kd.R_drewN | apply Kd.R_drew)); exact HO_3.out)); (case aS => exact (below_size (by repeat (first | (with_reducible first | exact HB.out | apply below_alloc | apply pw_below_drewN | apply below_drew1) | exact HB.out)))); (case aL => have := LMc5.out; omega); intro v245 w6 ho hb hg hat; rw [← Ny244.out] at ho; have n0_ := Aside0.mk (hb); have n1_ := Aside0.mk (ho); clear HB; clear HO_3; have HB := n0_; have HO246 := n1_; clear n0_ n1_; clear ho hb hg hat))
          go_roundg k1
          case measure => have := HK1.out; omega
          case rel => exact ⟨(y244), (wrap64 (x7_1 + 1)), (by first | rfl | (simp; done) | (simp [*]; done)), H', ⟨by have := HK1.out; omega⟩, ⟨by (with_reducible repeat (first | apply Kd.R_alloc | apply Kd.R_drewN | apply Kd.R_drew)); exact HO246.out⟩, ⟨by repeat (first | (with_reducible first | exact HB.out | apply below_alloc | apply pw_below_drewN | apply below_drew1) | exact HB.out)⟩⟩
        · rw [if_neg c5] at H
          exact absurd H (by simp)
      · rw [if_neg c4] at H
        have c4b0 : decide (x7_1 < a0) = false := decide_eq_false c4
        clear c4
        obtain rfl := Option.some.inj H
        go_wp2
        go_ret
        exact ⟨_, by first | rfl | (simp [errW_none, errW_some] <;> rfl) | (simp [*, errW_none, errW_some] <;> rfl), by (with_reducible repeat (first | apply Kd.R_alloc | apply Kd.R_drewN | apply Kd.R_drew)); exact HO_3.out, by repeat (first | (with_reducible first | exact HB.out | apply below_alloc | apply pw_below_drewN | apply below_drew1) | exact HB.out)⟩

-- NOT PRINTED: function 107 (slices_Clone_int_int)

-- NOT PRINTED: function 112 (impl_Space_setOf)

-- NOT PRINTED: function 63 (impl_Space_words)

-- NOT PRINTED: function 117 (impl_those)

-- NOT PRINTED: function 136 (impl_FreeSpace)

-- NOT PRINTED: function 99 (impl_orders)

/-! ### laws_eqIntS: function 54 -/
def laws_eqIntS.l0 : Nat → List Int → List Int → Int → Option (Bool)
  | 0, _, _, _ => none
  | k + 1, x0, x1, x5 => if x5 < (x0.length : Int) then (if 0 ≤ x5 then (if x5 < (x1.length : Int) then (if (rd x0 x5) = (rd x1 x5) then (laws_eqIntS.l0 k x0 x1 (wrap64 (x5 + 1))) else (some false)) else (none)) else (none)) else (some true)
def laws_eqIntS.f (k : Nat) (l0 : List Int) (l1 : List Int) : Option (Bool) := if (l0.length : Int) = (l1.length : Int) then (laws_eqIntS.l0 k l0 l1 0) else (some false)
theorem laws_eqIntS.mono_l : ∀ k, (∀ y0 y1 y2, LeO (laws_eqIntS.l0 k y0 y1 y2) (laws_eqIntS.l0 (k + 1) y0 y1 y2))
  | 0 => fun _ _ _ r h => by simp [laws_eqIntS.l0] at h
  | k + 1 => by
    have ih0 := laws_eqIntS.mono_l k
    · intro y0 y1 y2
      unfold laws_eqIntS.l0
      repeat' first
      | (with_reducible exact ih0 _ _ _)
      | (with_reducible exact LeO.refl _)
      | (with_reducible exact LeO.none _)
      | (with_reducible refine LeO.ite ?_ ?_)
      | (with_reducible refine LeO.bind ?_ (fun _ => ?_))
      | exact ih0 _ _ _
      | exact LeO.none _
      | refine LeO.ite ?_ ?_
      | refine LeO.bind ?_ (fun _ => ?_)
theorem laws_eqIntS.mono : ∀ a0 a1 k, LeO (laws_eqIntS.f k a0 a1) (laws_eqIntS.f (k + 1) a0 a1) := by
  intro a0 a1 k
  have ih0 := laws_eqIntS.mono_l k
  unfold laws_eqIntS.f
  repeat' first
      | (with_reducible exact ih0 _ _ _)
      | (with_reducible exact LeO.refl _)
      | (with_reducible exact LeO.none _)
      | (with_reducible refine LeO.ite ?_ ?_)
      | (with_reducible refine LeO.bind ?_ (fun _ => ?_))
      | exact ih0 _ _ _
      | exact LeO.none _
      | refine LeO.ite ?_ ?_
      | refine LeO.bind ?_ (fun _ => ?_)
set_option maxHeartbeats 8000000 in
set_option maxRecDepth 100000 in
theorem laws_eqIntS.calls (k : Nat) (A0 : Option Addr) (c0 : Nat) (l0 : List Int) (A1 : Option Addr) (c1 : Nat) (l1 : List Int) (r : Bool) (w : World) (hr0 : Kd.C (Kd.int .i64) w A0 l0.length l0) (hc0 : l0.length ≤ c0) (hr1 : Kd.C (Kd.int .i64) w A1 l1.length l1) (hc1 : l1.length ≤ c1) (h : laws_eqIntS.f k l0 l1 = some r) :
    Calls Try.prog 54 #[.slice A0 l0.length c0, .slice A1 l1.length c1] w fun e w' => e = .returned (.bool r) ∧ Drawn0 w w' := by
  have HR0 := Aside0.mk hr0
  have HC0 := Aside0.mk hc0
  clear hr0 hc0
  have HR1 := Aside0.mk hr1
  have HC1 := Aside0.mk hc1
  clear hr1 hc1
  have H : (if (l0.length : Int) = (l1.length : Int) then (laws_eqIntS.l0 k l0 l1 0) else (some false)) = some r := h
  clear h
  by_cases c3 : (l0.length : Int) = (l1.length : Int)
  · rw [if_pos c3] at H
    have c3b0 : ((l0.length : Int) == (l1.length : Int)) = true := beq_iff_eq.mpr c3
    have c3b1 : ((l0.length : Int) != (l1.length : Int)) = false := bne_eq_false_iff_eq.mpr c3
    have c3b2 : (l0.length == l1.length) = true := by first | simpa using c3 | (simp at c3 ⊢; omega)
    clear c3
    have H' := Aside0.mk H
    clear H
    go_enter Try.func54, Try.ntmps54
    go_wp2
    repeat (go_quiet (fail); try go_wp2)
    go_loopg [5] k (fun kq v5 w' => ∃ (x5_1 : Int), v5 = .int .i64 x5_1 ∧ Aside0 (laws_eqIntS.l0 kq l0 l1 x5_1 = some r) ∧ Aside0 (kq ≤ k) ∧ Drawn0 w w')
    case atStart => exact ⟨(0), (by first | rfl | (simp; done) | (simp [*]; done)), H', ⟨Nat.le_refl _⟩, by repeat (first | exact Drawn0.refl _ | apply Drawn0.step)⟩
    case round =>
      clear H'
      try clear c1
      try clear p2
      try clear c3
      try clear c3b0
      try clear c3b1
      try clear c3b2
      obtain ⟨x5_1, rfl, HA, HK1, ⟨m1, rfl⟩⟩ := hrel
      cases gk with
      | zero => exact absurd HA.out (by simp [laws_eqIntS.l0])
      | succ k1 =>
        have H := HA.out
        clear HA
        simp only [laws_eqIntS.l0] at H
        by_cases c4 : x5_1 < (l0.length : Int)
        · rw [if_pos c4] at H
          have c4b0 : decide (x5_1 < (l0.length : Int)) = true := decide_eq_true c4
          clear c4
          by_cases c5 : 0 ≤ x5_1
          · rw [if_pos c5] at H
            have c5b0 : decide (0 ≤ x5_1) = true := decide_eq_true c5
            clear c5
            by_cases c6 : x5_1 < (l1.length : Int)
            · rw [if_pos c6] at H
              have c6b0 : decide (x5_1 < (l1.length : Int)) = true := decide_eq_true c6
              clear c6
              by_cases c7 : (rd l0 x5_1) = (rd l1 x5_1)
              · rw [if_pos c7] at H
                have c7b0 : ((rd l0 x5_1) == (rd l1 x5_1)) = true := beq_iff_eq.mpr c7
                have c7b1 : ((rd l0 x5_1) != (rd l1 x5_1)) = false := bne_eq_false_iff_eq.mpr c7
                clear c7
                have H' := Aside0.mk H
                clear H
                have p250 : 0 ≤ (x5_1 : Int) := of_decide_eq_true (by first | (with_reducible assumption) | assumption)
                have q250 : x5_1 < (l0.length : Int) := of_decide_eq_true (by first | (with_reducible assumption) | assumption)
                obtain ⟨ad250, e250, hx250_0⟩ := Kd.at_int HR0.out x5_1 p250 q250
                cases e250
                replace p250 := eq_true p250
                replace q250 := eq_true q250
                have p251 : 0 ≤ (x5_1 : Int) := of_decide_eq_true (by first | (with_reducible assumption) | assumption)
                have q251 : x5_1 < (l1.length : Int) := of_decide_eq_true (by first | (with_reducible assumption) | assumption)
                obtain ⟨ad251, e251, hx251_0⟩ := Kd.at_int HR1.out x5_1 p251 q251
                cases e251
                replace p251 := eq_true p251
                replace q251 := eq_true q251
                go_wp2
                repeat (go_quiet (fail); try go_wp2)
                go_roundg k1
                case measure => have := HK1.out; omega
                case rel => exact ⟨(wrap64 (x5_1 + 1)), (by first | rfl | (simp; done) | (simp [*]; done)), H', ⟨by have := HK1.out; omega⟩, by repeat (first | exact Drawn0.refl _ | apply Drawn0.step)⟩
              · rw [if_neg c7] at H
                have c7b0 : ((rd l0 x5_1) == (rd l1 x5_1)) = false := beq_eq_false_iff_ne.mpr c7
                have c7b1 : ((rd l0 x5_1) != (rd l1 x5_1)) = true := bne_iff_ne.mpr c7
                obtain rfl := Option.some.inj H
                have p250 : 0 ≤ (x5_1 : Int) := of_decide_eq_true (by first | (with_reducible assumption) | assumption)
                have q250 : x5_1 < (l0.length : Int) := of_decide_eq_true (by first | (with_reducible assumption) | assumption)
                obtain ⟨ad250, e250, hx250_0⟩ := Kd.at_int HR0.out x5_1 p250 q250
                cases e250
                replace p250 := eq_true p250
                replace q250 := eq_true q250
                have p251 : 0 ≤ (x5_1 : Int) := of_decide_eq_true (by first | (with_reducible assumption) | assumption)
                have q251 : x5_1 < (l1.length : Int) := of_decide_eq_true (by first | (with_reducible assumption) | assumption)
                obtain ⟨ad251, e251, hx251_0⟩ := Kd.at_int HR1.out x5_1 p251 q251
                cases e251
                replace p251 := eq_true p251
                replace q251 := eq_true q251
                go_wp2
                repeat (go_quiet (fail); try go_wp2)
                go_ret
                exact ⟨by first | rfl | (simp; done) | (simp [*]; done), by repeat (first | exact Drawn0.refl _ | apply Drawn0.step)⟩
            · rw [if_neg c6] at H
              exact absurd H (by simp)
          · rw [if_neg c5] at H
            exact absurd H (by simp)
        · rw [if_neg c4] at H
          have c4b0 : decide (x5_1 < (l0.length : Int)) = false := decide_eq_false c4
          clear c4
          obtain rfl := Option.some.inj H
          go_wp2
          repeat (go_quiet (fail); try go_wp2)
          go_ret
          exact ⟨by first | rfl | (simp; done) | (simp [*]; done), by repeat (first | exact Drawn0.refl _ | apply Drawn0.step)⟩
  · rw [if_neg c3] at H
    have c3b0 : ((l0.length : Int) == (l1.length : Int)) = false := beq_eq_false_iff_ne.mpr c3
    have c3b1 : ((l0.length : Int) != (l1.length : Int)) = true := bne_iff_ne.mpr c3
    have c3b2 : (l0.length == l1.length) = false := by first | simpa using c3 | (simp at c3 ⊢; omega)
    obtain rfl := Option.some.inj H
    go_enter Try.func54, Try.ntmps54
    go_wp2
    repeat (go_quiet (fail); try go_wp2)
    go_ret
    exact ⟨by first | rfl | (simp; done) | (simp [*]; done), by repeat (first | exact Drawn0.refl _ | apply Drawn0.step)⟩

/-! ### laws_eqSpace: function 16 -/
def laws_eqSpace.f (k : Nat) (a0_0 : Int) (l0_1 : List Int) (a1_0 : Int) (l1_1 : List Int) : Option (Bool) := if a0_0 = a1_0 then ((laws_eqIntS.f k l0_1 l1_1).bind fun t254 => (if t254 = true then (some true) else (some false))) else (some false)
theorem laws_eqSpace.mono : ∀ a0 a1 a2 a3 k, LeO (laws_eqSpace.f k a0 a1 a2 a3) (laws_eqSpace.f (k + 1) a0 a1 a2 a3) := by
  intro a0 a1 a2 a3 k
  unfold laws_eqSpace.f
  repeat' first
      | (with_reducible exact laws_eqIntS.mono _ _ _)
      | (with_reducible exact LeO.refl _)
      | (with_reducible exact LeO.none _)
      | (with_reducible refine LeO.ite ?_ ?_)
      | (with_reducible refine LeO.bind ?_ (fun _ => ?_))
      | exact laws_eqIntS.mono _ _ _
      | exact LeO.none _
      | refine LeO.ite ?_ ?_
      | refine LeO.bind ?_ (fun _ => ?_)
set_option maxHeartbeats 8000000 in
set_option maxRecDepth 100000 in
theorem laws_eqSpace.calls (k : Nat) (a0_0 : Int) (A0_1 : Option Addr) (c0_1 : Nat) (l0_1 : List Int) (a1_0 : Int) (A1_1 : Option Addr) (c1_1 : Nat) (l1_1 : List Int) (r : Bool) (w : World) (hr0_1 : Kd.C (Kd.int .i64) w A0_1 l0_1.length l0_1) (hc0_1 : l0_1.length ≤ c0_1) (hr1_1 : Kd.C (Kd.int .i64) w A1_1 l1_1.length l1_1) (hc1_1 : l1_1.length ≤ c1_1) (h : laws_eqSpace.f k a0_0 l0_1 a1_0 l1_1 = some r) :
    Calls Try.prog 16 #[.agg #[.int .i64 a0_0, .slice A0_1 l0_1.length c0_1], .agg #[.int .i64 a1_0, .slice A1_1 l1_1.length c1_1]] w fun e w' => e = .returned (.bool r) ∧ Below w.heap.size w w' := by
  have hu28 := Try.underlying28
  have HR0_1 := Aside0.mk hr0_1
  have HC0_1 := Aside0.mk hc0_1
  clear hr0_1 hc0_1
  have HR1_1 := Aside0.mk hr1_1
  have HC1_1 := Aside0.mk hc1_1
  clear hr1_1 hc1_1
  have HB := Aside0.mk (Below.refl w.heap.size w)
  have H : (if a0_0 = a1_0 then ((laws_eqIntS.f k l0_1 l1_1).bind fun t254 => (if t254 = true then (some true) else (some false))) else (some false)) = some r := h
  clear h
  by_cases c3 : a0_0 = a1_0
  · rw [if_pos c3] at H
    have c3b0 : (a0_0 == a1_0) = true := beq_iff_eq.mpr c3
    have c3b1 : (a0_0 != a1_0) = false := bne_eq_false_iff_eq.mpr c3
    clear c3
    replace H := Option.bind_eq_some_iff.mp H
    obtain ⟨t254, A40, H⟩ := H
    replace H : (if t254 = true then (some true) else (some false)) = some r := H
    have A4 := Aside0.mk A40
    clear A40
    by_cases c5 : t254 = true
    · subst c5
      have H1 : (some true) = some r := by rw [if_pos rfl] at H; exact H
      clear H
      have H := H1
      clear H1
      obtain rfl := Option.some.inj H
      go_enter Try.func16, Try.ntmps16
      go_wp2_with (first | ((with_reducible refine gate_dst (N := 2) rfl ?_); refine box_event ?hg (N := 2) ?hd (cs := #[.int .i64 a0_0, .slice A0_1 l0_1.length c0_1]) (t := 28) ?hr ?_; (case hd => rfl); (case hg => rfl); (case hr => first | (go_simp; done) | (go_simp; rfl)); intro gb252 hg w6 hbox hb; have n0_ := Aside0.mk (below_step (by repeat (first | (with_reducible first | exact HB.out | apply below_alloc | apply pw_below_drewN | apply below_drew1) | exact HB.out)) hb); have n1_ := Aside0.mk (hbox); have n2_ := Aside0.mk ((by rw [hg]; exact (below_size (by repeat (first | (with_reducible first | exact HB.out | apply below_alloc | apply pw_below_drewN | apply below_drew1) | exact HB.out))) : w.heap.size ≤ gb252)); have n3_ := Aside0.mk ((by rw [hg]; exact (below_size (by repeat (first | (with_reducible first | exact HB.out | apply below_alloc | apply pw_below_drewN | apply below_drew1) | exact HB.out))) : w.heap.size ≤ gb252)); clear HB; have HB := n0_; have BK252 := n1_; have GW252 := n2_; have GE252 := n3_; clear n0_ n1_ n2_ n3_; clear hb hbox hg) | ((with_reducible refine gate_dst (N := 3) rfl ?_); refine box_event ?hg (N := 3) ?hd (cs := #[.int .i64 a1_0, .slice A1_1 l1_1.length c1_1]) (t := 28) ?hr ?_; (case hd => rfl); (case hg => rfl); (case hr => first | (go_simp; done) | (go_simp; rfl)); intro gb253 hg w7 hbox hb; have n0_ := Aside0.mk (blk_below (g := gb252) (o := .cells #[.int .i64 a0_0, .slice A0_1 l0_1.length c0_1] 28 (0, 0)) (by (with_reducible repeat (first | refine blk_drewN ?_ _ | refine blk_drew ?_ | refine blk_alloc ?_ _)); exact BK252.out) hb); have n1_ := Aside0.mk (below_step (by repeat (first | (with_reducible first | exact HB.out | apply below_alloc | apply pw_below_drewN | apply below_drew1 | refine below_set ?_ GE252.out) | exact HB.out)) hb); have n2_ := Aside0.mk (hbox); have n3_ := Aside0.mk ((by rw [hg]; exact (below_size (by repeat (first | (with_reducible first | exact HB.out | apply below_alloc | apply pw_below_drewN | apply below_drew1 | refine below_set ?_ GE252.out) | exact HB.out))) : w.heap.size ≤ gb253)); have n4_ := Aside0.mk ((by rw [hg]; exact (below_size (by repeat (first | (with_reducible first | exact HB.out | apply below_alloc | apply pw_below_drewN | apply below_drew1 | refine below_set ?_ GE252.out) | exact HB.out))) : w.heap.size ≤ gb253)); have n5_ := Aside0.mk ((by rw [hg]; exact Nat.ne_of_lt (blk_lt (g := gb252) (o := .cells #[.int .i64 a0_0, .slice A0_1 l0_1.length c0_1] 28 (0, 0)) (by (with_reducible repeat (first | refine blk_drewN ?_ _ | refine blk_drew ?_ | refine blk_alloc ?_ _)); exact BK252.out)) : gb252 ≠ gb253)); have n6_ := Aside0.mk ((by rw [hg]; exact Nat.ne_of_gt (blk_lt (g := gb252) (o := .cells #[.int .i64 a0_0, .slice A0_1 l0_1.length c0_1] 28 (0, 0)) (by (with_reducible repeat (first | refine blk_drewN ?_ _ | refine blk_drew ?_ | refine blk_alloc ?_ _)); exact BK252.out)) : gb253 ≠ gb252)); clear BK252; clear HB; have BK252 := n0_; have HB := n1_; have BK253 := n2_; have GW253 := n3_; have GE253 := n4_; have NB252_253 := n5_; have NB253_252 := n6_; clear n0_ n1_ n2_ n3_ n4_ n5_ n6_; clear hb hbox hg; have hnb8 := NB252_253.out; have hnc8 := NB253_252.out; have hcz9_0 : w7.cell? ⟨gb252, 0, none⟩ = some (.int .i64 a0_0) := (blk_cell BK252.out 0).trans rfl; have hcz9_1 : w7.cell? ⟨gb252, 1, none⟩ = some (.slice A0_1 l0_1.length c0_1) := (blk_cell BK252.out 1).trans rfl; have hfz9_0 := blk_frozen BK252.out 0; have hfz9_1 := blk_frozen BK252.out 1; have hcz10_0 : w7.cell? ⟨gb253, 0, none⟩ = some (.int .i64 a1_0) := (blk_cell BK253.out 0).trans rfl; have hcz10_1 : w7.cell? ⟨gb253, 1, none⟩ = some (.slice A1_1 l1_1.length c1_1) := (blk_cell BK253.out 1).trans rfl; have hfz10_0 := blk_frozen BK253.out 0; have hfz10_1 := blk_frozen BK253.out 1) | ((with_reducible refine gate_callee (f := 54) rfl ?_); refine goesL_ (some 14) rfl rfl Try.func54 (by kernel_rfl) rfl #[.slice A0_1 l0_1.length c0_1, .slice A1_1 l1_1.length c1_1] rfl (by (try simp only [List.map_toArray, List.map_cons, List.map_nil]); first | done | rfl | (simp only [List.length_drop, List.length_take]; rfl)) ?_; (with_reducible refine (laws_eqIntS.calls k _ _ l0_1 _ _ l1_1 true _ ?side1 ?side2 ?side3 ?side4 A4.out).mono ?_); (case side1 => repeat (first | exact (Kd.C_below HR0_1.out HB.out) | (with_reducible refine Kd.C_alloc ?_ _) | (with_reducible refine Kd.C_drewN ?_ _) | (with_reducible refine Kd.C_drew ?_))); (case side2 => exact HC0_1.out); (case side3 => repeat (first | exact (Kd.C_below HR1_1.out HB.out) | (with_reducible refine Kd.C_alloc ?_ _) | (with_reducible refine Kd.C_drewN ?_ _) | (with_reducible refine Kd.C_drew ?_))); (case side4 => exact HC1_1.out); rintro e w' ⟨rfl, ⟨nd, rfl⟩⟩; refine ⟨_, rfl, ?_⟩))
      go_ret
      exact ⟨by first | rfl | (simp [errW_none, errW_some] <;> rfl) | (simp [*, errW_none, errW_some] <;> rfl), by repeat (first | (with_reducible first | exact HB.out | apply below_alloc | apply pw_below_drewN | apply below_drew1 | refine below_set ?_ GE252.out | refine below_set ?_ GE253.out) | exact HB.out)⟩
    · replace c5 := Bool.eq_false_iff.mpr c5
      subst c5
      have H1 : (some false) = some r := by rw [if_neg (show ¬ (false = true) by decide)] at H; exact H
      clear H
      have H := H1
      clear H1
      obtain rfl := Option.some.inj H
      go_enter Try.func16, Try.ntmps16
      go_wp2_with (first | ((with_reducible refine gate_dst (N := 2) rfl ?_); refine box_event ?hg (N := 2) ?hd (cs := #[.int .i64 a0_0, .slice A0_1 l0_1.length c0_1]) (t := 28) ?hr ?_; (case hd => rfl); (case hg => rfl); (case hr => first | (go_simp; done) | (go_simp; rfl)); intro gb252 hg w11 hbox hb; have n0_ := Aside0.mk (below_step (by repeat (first | (with_reducible first | exact HB.out | apply below_alloc | apply pw_below_drewN | apply below_drew1) | exact HB.out)) hb); have n1_ := Aside0.mk (hbox); have n2_ := Aside0.mk ((by rw [hg]; exact (below_size (by repeat (first | (with_reducible first | exact HB.out | apply below_alloc | apply pw_below_drewN | apply below_drew1) | exact HB.out))) : w.heap.size ≤ gb252)); have n3_ := Aside0.mk ((by rw [hg]; exact (below_size (by repeat (first | (with_reducible first | exact HB.out | apply below_alloc | apply pw_below_drewN | apply below_drew1) | exact HB.out))) : w.heap.size ≤ gb252)); clear HB; have HB := n0_; have BK252 := n1_; have GW252 := n2_; have GE252 := n3_; clear n0_ n1_ n2_ n3_; clear hb hbox hg) | ((with_reducible refine gate_dst (N := 3) rfl ?_); refine box_event ?hg (N := 3) ?hd (cs := #[.int .i64 a1_0, .slice A1_1 l1_1.length c1_1]) (t := 28) ?hr ?_; (case hd => rfl); (case hg => rfl); (case hr => first | (go_simp; done) | (go_simp; rfl)); intro gb253 hg w12 hbox hb; have n0_ := Aside0.mk (blk_below (g := gb252) (o := .cells #[.int .i64 a0_0, .slice A0_1 l0_1.length c0_1] 28 (0, 0)) (by (with_reducible repeat (first | refine blk_drewN ?_ _ | refine blk_drew ?_ | refine blk_alloc ?_ _)); exact BK252.out) hb); have n1_ := Aside0.mk (below_step (by repeat (first | (with_reducible first | exact HB.out | apply below_alloc | apply pw_below_drewN | apply below_drew1 | refine below_set ?_ GE252.out) | exact HB.out)) hb); have n2_ := Aside0.mk (hbox); have n3_ := Aside0.mk ((by rw [hg]; exact (below_size (by repeat (first | (with_reducible first | exact HB.out | apply below_alloc | apply pw_below_drewN | apply below_drew1 | refine below_set ?_ GE252.out) | exact HB.out))) : w.heap.size ≤ gb253)); have n4_ := Aside0.mk ((by rw [hg]; exact (below_size (by repeat (first | (with_reducible first | exact HB.out | apply below_alloc | apply pw_below_drewN | apply below_drew1 | refine below_set ?_ GE252.out) | exact HB.out))) : w.heap.size ≤ gb253)); have n5_ := Aside0.mk ((by rw [hg]; exact Nat.ne_of_lt (blk_lt (g := gb252) (o := .cells #[.int .i64 a0_0, .slice A0_1 l0_1.length c0_1] 28 (0, 0)) (by (with_reducible repeat (first | refine blk_drewN ?_ _ | refine blk_drew ?_ | refine blk_alloc ?_ _)); exact BK252.out)) : gb252 ≠ gb253)); have n6_ := Aside0.mk ((by rw [hg]; exact Nat.ne_of_gt (blk_lt (g := gb252) (o := .cells #[.int .i64 a0_0, .slice A0_1 l0_1.length c0_1] 28 (0, 0)) (by (with_reducible repeat (first | refine blk_drewN ?_ _ | refine blk_drew ?_ | refine blk_alloc ?_ _)); exact BK252.out)) : gb253 ≠ gb252)); clear BK252; clear HB; have BK252 := n0_; have HB := n1_; have BK253 := n2_; have GW253 := n3_; have GE253 := n4_; have NB252_253 := n5_; have NB253_252 := n6_; clear n0_ n1_ n2_ n3_ n4_ n5_ n6_; clear hb hbox hg; have hnb13 := NB252_253.out; have hnc13 := NB253_252.out; have hcz14_0 : w12.cell? ⟨gb252, 0, none⟩ = some (.int .i64 a0_0) := (blk_cell BK252.out 0).trans rfl; have hcz14_1 : w12.cell? ⟨gb252, 1, none⟩ = some (.slice A0_1 l0_1.length c0_1) := (blk_cell BK252.out 1).trans rfl; have hfz14_0 := blk_frozen BK252.out 0; have hfz14_1 := blk_frozen BK252.out 1; have hcz15_0 : w12.cell? ⟨gb253, 0, none⟩ = some (.int .i64 a1_0) := (blk_cell BK253.out 0).trans rfl; have hcz15_1 : w12.cell? ⟨gb253, 1, none⟩ = some (.slice A1_1 l1_1.length c1_1) := (blk_cell BK253.out 1).trans rfl; have hfz15_0 := blk_frozen BK253.out 0; have hfz15_1 := blk_frozen BK253.out 1) | ((with_reducible refine gate_callee (f := 54) rfl ?_); refine goesL_ (some 14) rfl rfl Try.func54 (by kernel_rfl) rfl #[.slice A0_1 l0_1.length c0_1, .slice A1_1 l1_1.length c1_1] rfl (by (try simp only [List.map_toArray, List.map_cons, List.map_nil]); first | done | rfl | (simp only [List.length_drop, List.length_take]; rfl)) ?_; (with_reducible refine (laws_eqIntS.calls k _ _ l0_1 _ _ l1_1 false _ ?side1 ?side2 ?side3 ?side4 A4.out).mono ?_); (case side1 => repeat (first | exact (Kd.C_below HR0_1.out HB.out) | (with_reducible refine Kd.C_alloc ?_ _) | (with_reducible refine Kd.C_drewN ?_ _) | (with_reducible refine Kd.C_drew ?_))); (case side2 => exact HC0_1.out); (case side3 => repeat (first | exact (Kd.C_below HR1_1.out HB.out) | (with_reducible refine Kd.C_alloc ?_ _) | (with_reducible refine Kd.C_drewN ?_ _) | (with_reducible refine Kd.C_drew ?_))); (case side4 => exact HC1_1.out); rintro e w' ⟨rfl, ⟨nd, rfl⟩⟩; refine ⟨_, rfl, ?_⟩))
      go_ret
      exact ⟨by first | rfl | (simp [errW_none, errW_some] <;> rfl) | (simp [*, errW_none, errW_some] <;> rfl), by repeat (first | (with_reducible first | exact HB.out | apply below_alloc | apply pw_below_drewN | apply below_drew1 | refine below_set ?_ GE252.out | refine below_set ?_ GE253.out) | exact HB.out)⟩
  · rw [if_neg c3] at H
    have c3b0 : (a0_0 == a1_0) = false := beq_eq_false_iff_ne.mpr c3
    have c3b1 : (a0_0 != a1_0) = true := bne_iff_ne.mpr c3
    obtain rfl := Option.some.inj H
    go_enter Try.func16, Try.ntmps16
    go_wp2_with (first | ((with_reducible refine gate_dst (N := 2) rfl ?_); refine box_event ?hg (N := 2) ?hd (cs := #[.int .i64 a0_0, .slice A0_1 l0_1.length c0_1]) (t := 28) ?hr ?_; (case hd => rfl); (case hg => rfl); (case hr => first | (go_simp; done) | (go_simp; rfl)); intro gb252 hg w16 hbox hb; have n0_ := Aside0.mk (below_step (by repeat (first | (with_reducible first | exact HB.out | apply below_alloc | apply pw_below_drewN | apply below_drew1) | exact HB.out)) hb); have n1_ := Aside0.mk (hbox); have n2_ := Aside0.mk ((by rw [hg]; exact (below_size (by repeat (first | (with_reducible first | exact HB.out | apply below_alloc | apply pw_below_drewN | apply below_drew1) | exact HB.out))) : w.heap.size ≤ gb252)); have n3_ := Aside0.mk ((by rw [hg]; exact (below_size (by repeat (first | (with_reducible first | exact HB.out | apply below_alloc | apply pw_below_drewN | apply below_drew1) | exact HB.out))) : w.heap.size ≤ gb252)); clear HB; have HB := n0_; have BK252 := n1_; have GW252 := n2_; have GE252 := n3_; clear n0_ n1_ n2_ n3_; clear hb hbox hg) | ((with_reducible refine gate_dst (N := 3) rfl ?_); refine box_event ?hg (N := 3) ?hd (cs := #[.int .i64 a1_0, .slice A1_1 l1_1.length c1_1]) (t := 28) ?hr ?_; (case hd => rfl); (case hg => rfl); (case hr => first | (go_simp; done) | (go_simp; rfl)); intro gb253 hg w17 hbox hb; have n0_ := Aside0.mk (blk_below (g := gb252) (o := .cells #[.int .i64 a0_0, .slice A0_1 l0_1.length c0_1] 28 (0, 0)) (by (with_reducible repeat (first | refine blk_drewN ?_ _ | refine blk_drew ?_ | refine blk_alloc ?_ _)); exact BK252.out) hb); have n1_ := Aside0.mk (below_step (by repeat (first | (with_reducible first | exact HB.out | apply below_alloc | apply pw_below_drewN | apply below_drew1 | refine below_set ?_ GE252.out) | exact HB.out)) hb); have n2_ := Aside0.mk (hbox); have n3_ := Aside0.mk ((by rw [hg]; exact (below_size (by repeat (first | (with_reducible first | exact HB.out | apply below_alloc | apply pw_below_drewN | apply below_drew1 | refine below_set ?_ GE252.out) | exact HB.out))) : w.heap.size ≤ gb253)); have n4_ := Aside0.mk ((by rw [hg]; exact (below_size (by repeat (first | (with_reducible first | exact HB.out | apply below_alloc | apply pw_below_drewN | apply below_drew1 | refine below_set ?_ GE252.out) | exact HB.out))) : w.heap.size ≤ gb253)); have n5_ := Aside0.mk ((by rw [hg]; exact Nat.ne_of_lt (blk_lt (g := gb252) (o := .cells #[.int .i64 a0_0, .slice A0_1 l0_1.length c0_1] 28 (0, 0)) (by (with_reducible repeat (first | refine blk_drewN ?_ _ | refine blk_drew ?_ | refine blk_alloc ?_ _)); exact BK252.out)) : gb252 ≠ gb253)); have n6_ := Aside0.mk ((by rw [hg]; exact Nat.ne_of_gt (blk_lt (g := gb252) (o := .cells #[.int .i64 a0_0, .slice A0_1 l0_1.length c0_1] 28 (0, 0)) (by (with_reducible repeat (first | refine blk_drewN ?_ _ | refine blk_drew ?_ | refine blk_alloc ?_ _)); exact BK252.out)) : gb253 ≠ gb252)); clear BK252; clear HB; have BK252 := n0_; have HB := n1_; have BK253 := n2_; have GW253 := n3_; have GE253 := n4_; have NB252_253 := n5_; have NB253_252 := n6_; clear n0_ n1_ n2_ n3_ n4_ n5_ n6_; clear hb hbox hg; have hnb18 := NB252_253.out; have hnc18 := NB253_252.out; have hcz19_0 : w17.cell? ⟨gb252, 0, none⟩ = some (.int .i64 a0_0) := (blk_cell BK252.out 0).trans rfl; have hcz19_1 : w17.cell? ⟨gb252, 1, none⟩ = some (.slice A0_1 l0_1.length c0_1) := (blk_cell BK252.out 1).trans rfl; have hfz19_0 := blk_frozen BK252.out 0; have hfz19_1 := blk_frozen BK252.out 1; have hcz20_0 : w17.cell? ⟨gb253, 0, none⟩ = some (.int .i64 a1_0) := (blk_cell BK253.out 0).trans rfl; have hcz20_1 : w17.cell? ⟨gb253, 1, none⟩ = some (.slice A1_1 l1_1.length c1_1) := (blk_cell BK253.out 1).trans rfl; have hfz20_0 := blk_frozen BK253.out 0; have hfz20_1 := blk_frozen BK253.out 1))
    go_ret
    exact ⟨by first | rfl | (simp [errW_none, errW_some] <;> rfl) | (simp [*, errW_none, errW_some] <;> rfl), by repeat (first | (with_reducible first | exact HB.out | apply below_alloc | apply pw_below_drewN | apply below_drew1 | refine below_set ?_ GE252.out | refine below_set ?_ GE253.out) | exact HB.out)⟩

end Go.Proofs.Ytjhjphgdjhahlaa.P
/- Plain facts about sets of at most seven items, told as numbers below 128, and families of them. No program. -/
-- plain
namespace Go.Proofs.Ytjhjphgdjhahlaa.P
open Go.RowKit Go.Proofs.YtjhjphgdjhahlaaW.PrintWords Go.Proofs.YtjhjphgdjhahlaaW.PrintLast Go.Proofs.YtjhjphgdjhahlaaW.PrintMore

def upd (F : Nat → Bool) (i : Nat) (b : Bool) : Nat → Bool := fun j => if j = i then b else F j
/-- the family of a list of sets -/
def famOf (l : List Int) : Nat → Bool := fun x => decide ((x : Int) ∈ l)

theorem famOf_snoc (l : List Int) (i : Nat) (h : i < l.length) (h0 : 0 ≤ l[i]) : ∀ j, upd (famOf (l.take i)) (l[i]).toNat true j = famOf (l.take (i+1)) j := by
  intro j
  rw [List.take_succ_eq_append_getElem h]
  simp only [upd, famOf, List.mem_append, List.mem_singleton]
  by_cases e : j = (l[i]).toNat
  · subst e; simp [Int.toNat_of_nonneg h0]
  · have : ¬ (j : Int) = l[i] := by omega
    simp [e, this]

/-- the items of a set, increasing -/
def itemsOf (x : Nat) : List Nat := (List.range 7).filter fun i => x.testBit i
def ints (l : List Nat) : List Int := l.map fun (i : Nat) => (i : Int)
/-- a set without an item; with an item -/
def wout (x i : Nat) : Nat := x &&& (127 - 2 ^ i)
def wth (x i : Nat) : Nat := x ||| 2 ^ i
def innerF (F : Nat → Bool) (x : Nat) (l : List Nat) : Nat := l.foldl (fun o i => if F (wout x i) then wth o i else o) 0
def inner (F : Nat → Bool) (x : Nat) : Nat := innerF F x (itemsOf x)
def outerF (F : Nat → Bool) (x : Nat) (l : List Nat) : Nat := l.foldl (fun o i => if x.testBit i then o else if F (wth x i) then wth o i else o) 0
def outer (F : Nat → Bool) (x : Nat) : Nat := outerF F x (List.range 7)
theorem innerF_snoc (F : Nat → Bool) (x : Nat) (l : List Nat) (i : Nat) : innerF F x (l ++ [i]) = if F (wout x i) then wth (innerF F x l) i else innerF F x l := by
  simp [innerF]
theorem outerF_succ (F : Nat → Bool) (x : Nat) (k : Nat) : outerF F x (List.range (k + 1)) = if x.testBit k then outerF F x (List.range k) else if F (wth x k) then wth (outerF F x (List.range k)) k else outerF F x (List.range k) := by
  simp [outerF, List.range_succ]
theorem wth_lt (x i : Nat) (hx : x < 128) (hi : i < 7) : wth x i < 128 := by
  unfold wth; exact Nat.or_lt_two_pow (n := 7) hx (Nat.pow_lt_pow_right (by omega) hi)
theorem wout_lt (x i : Nat) (hx : x < 128) : wout x i < 128 := by
  unfold wout; exact Nat.lt_of_le_of_lt Nat.and_le_left hx
theorem innerF_lt (F : Nat → Bool) (x : Nat) (l : List Nat) (hl : ∀ i ∈ l, i < 7) : innerF F x l < 128 := by
  unfold innerF
  have : ∀ (l : List Nat) (o : Nat), (∀ i ∈ l, i < 7) → o < 128 → l.foldl (fun o i => if F (wout x i) then wth o i else o) o < 128 := by
    intro l
    induction l with
    | nil => intro o _ h; exact h
    | cons a l ih =>
      intro o hl ho
      simp only [List.foldl_cons]
      apply ih _ (fun i hi => hl i (by simp [hi]))
      split
      · exact wth_lt _ _ ho (hl a (by simp))
      · exact ho
  exact this l 0 hl (by omega)
theorem outerF_lt (F : Nat → Bool) (x : Nat) (k : Nat) (hk : k ≤ 7) : outerF F x (List.range k) < 128 := by
  induction k with
  | zero => simp [outerF]
  | succ k ih =>
    rw [outerF_succ]
    have := ih (by omega)
    split
    · exact this
    · split
      · exact wth_lt _ _ this (by omega)
      · exact this
theorem inner_lt (F : Nat → Bool) (x : Nat) : inner F x < 128 := innerF_lt F x _ (by intro i hi; simp [itemsOf] at hi; exact hi.1)
theorem outer_lt (F : Nat → Bool) (x : Nat) : outer F x < 128 := outerF_lt F x 7 (by omega)

/-! How Go's operations tell these. -/
theorem shl_one (i : Nat) (hi : i < 8) : shl .i64 1 (i : Int) = ((2 ^ i : Nat) : Int) := by
  revert i; decide +kernel
theorem go_shr (x i : Nat) (hx : x < 128) (hi : i < 8) : shr .i64 (x : Int) (i : Int) = ((x >>> i : Nat) : Int) := by
  have : ∀ x, x < 128 → ∀ i, i < 8 → shr .i64 ((x : Nat) : Int) ((i : Nat) : Int) = ((x >>> i : Nat) : Int) := by decide +kernel
  exact this x hx i hi
theorem go_bit (x i : Nat) (hx : x < 128) (hi : i < 8) : (Go.bits .and .i64 (shr .i64 (x : Int) (i : Int)) 1) = if x.testBit i then 1 else 0 := by
  have : ∀ x, x < 128 → ∀ i, i < 8 → (Go.bits .and .i64 (shr .i64 ((x : Nat) : Int) ((i : Nat) : Int)) 1) = if x.testBit i then 1 else 0 := by decide +kernel
  exact this x hx i hi
theorem go_wth (x i : Nat) (hx : x < 128) (hi : i < 7) : Go.bits .or .i64 (x : Int) ((2 ^ i : Nat) : Int) = ((wth x i : Nat) : Int) := by
  have : ∀ x, x < 128 → ∀ i, i < 7 → Go.bits .or .i64 ((x : Nat) : Int) ((2 ^ i : Nat) : Int) = ((wth x i : Nat) : Int) := by decide +kernel
  exact this x hx i hi
theorem go_wout (x i : Nat) (hx : x < 128) (hi : i < 7) : Go.bits .andNot .i64 (x : Int) ((2 ^ i : Nat) : Int) = ((wout x i : Nat) : Int) := by
  have : ∀ x, x < 128 → ∀ i, i < 7 → Go.bits .andNot .i64 ((x : Nat) : Int) ((2 ^ i : Nat) : Int) = ((wout x i : Nat) : Int) := by decide +kernel
  exact this x hx i hi
set_option maxRecDepth 100000 in
theorem go_or (x y : Nat) (hx : x < 128) (hy : y < 128) : Go.bits .or .i64 (x : Int) (y : Int) = ((x ||| y : Nat) : Int) := by
  have : ∀ x, x < 128 → ∀ y, y < 128 → Go.bits .or .i64 ((x : Nat) : Int) ((y : Nat) : Int) = ((x ||| y : Nat) : Int) := by decide +kernel
  exact this x hx y hy
/-- '1 << a' by a letter. -/
theorem bit_letter (a : Nat) (ha : a < 8) : ∃ p : Int, IntKind.i64.wrap (2 ^ a) = p ∧ wrap64 (2 ^ a) = p ∧ p = ((2 ^ a : Nat) : Int) := by
  have h : ∀ a, a < 8 → IntKind.i64.wrap (2 ^ (a : Nat)) = ((2 ^ a : Nat) : Int) ∧ wrap64 (2 ^ a) = ((2 ^ a : Nat) : Int) := by decide +kernel
  exact ⟨_, (h a ha).1, (h a ha).2, rfl⟩
/-- 'x >> i & 1' by a letter. -/
theorem shr_letter (x i : Nat) (hx : x < 128) (hi : i < 8) : ∃ s : Int, (x : Int) / 2 ^ i = s ∧ Go.bits .and .i64 s 1 = if x.testBit i then 1 else 0 := by
  refine ⟨_, rfl, ?_⟩
  have := go_bit x i hx hi
  have e : shr .i64 (x : Int) (i : Int) = (x : Int) / 2 ^ i := by
    unfold shr; rw [Nat.min_eq_left (by simp [IntKind.bits]; omega)]; simp
  rw [e] at this; exact this
/-- the sets of a family, increasing -/
def setsUpto (F : Nat → Bool) (k : Nat) : List Nat := (List.range k).filter F
def setsOf (F : Nat → Bool) : List Nat := setsUpto F 128
theorem setsUpto_succ (F : Nat → Bool) (k : Nat) : setsUpto F (k + 1) = if F k then setsUpto F k ++ [k] else setsUpto F k := by
  unfold setsUpto; rw [List.range_succ, List.filter_append]; cases h : F k <;> simp [h]
theorem setsUpto_len (F : Nat → Bool) (k : Nat) : (setsUpto F k).length ≤ k := by
  have := List.length_filter_le F (List.range k); simpa [setsUpto] using this
/-- a set with other names -/
def renL (names : List Nat) (l : List Nat) (o : Nat) : Nat := l.foldl (fun o i => wth o (names[i]?.getD 0)) o
def renN (names : List Nat) (x : Nat) : Nat := renL names (itemsOf x) 0
theorem ints_len (l : List Nat) : (ints l).length = l.length := by simp [ints]
theorem rd_ints (l : List Nat) (i : Nat) : rd (ints l) (i : Int) = ((l[i]?.getD 0 : Nat) : Int) := by
  unfold rd ints
  rw [Int.toNat_natCast, List.getD_eq_getElem?_getD, List.getElem?_map]
  cases h : l[i]? <;> simp
theorem wrap_small {i : Int} (h0 : 0 ≤ i) (h : i < 9223372036854775807) : wrap64 (i + 1) = i + 1 := by unfold wrap64; omega
theorem itemsOf_mem {x i : Nat} (h : i ∈ itemsOf x) : i < 7 ∧ x.testBit i = true := by simpa [itemsOf] using h
theorem itemsOf_len (x : Nat) : (itemsOf x).length ≤ 7 := by
  have := List.length_filter_le (fun i => x.testBit i) (List.range 7); simpa [itemsOf] using this
theorem lt_of_testBit {x i n : Nat} (hx : x < 2 ^ n) (h : x.testBit i = true) : i < n := by
  apply Classical.byContradiction; intro hn
  have : x.testBit i = false := Nat.testBit_lt_two_pow (Nat.lt_of_lt_of_le hx (Nat.pow_le_pow_right (by omega) (by omega)))
  rw [this] at h; cases h
theorem renL_lt (names : List Nat) (hn : ∀ y ∈ names, y < 7) (l : List Nat) : ∀ o, o < 128 → renL names l o < 128 := by
  induction l with
  | nil => intro o h; exact h
  | cons a l ih =>
    intro o ho
    simp only [renL, List.foldl_cons]
    apply ih
    apply wth_lt _ _ ho
    cases h : names[a]? with
    | none => simp
    | some y => simpa using hn y (List.mem_of_getElem? h)
theorem renN_lt (names : List Nat) (hn : ∀ y ∈ names, y < 7) (x : Nat) : renN names x < 128 := renL_lt names hn _ 0 (by omega)
/-- what is renamed, of a list of sets -/
def renI (names : List Nat) (l : List Int) : List Int := l.map fun x => ((renN names x.toNat : Nat) : Int)
/-! Is a list of sets a space? As impl asks it. -/
def incOk (n : Nat) (l : List Int) (j : Nat) : Bool := decide (0 ≤ l[j]?.getD 0 ∧ l[j]?.getD 0 < 2 ^ n) && (decide (j = 0) || decide (l[j - 1]?.getD 0 < l[j]?.getD 0))
def orOk (F : Nat → Bool) (l : List Int) (x : Nat) : Bool := l.all fun y => F (x ||| y.toNat)
def rowOk (F : Nat → Bool) (l : List Int) (x : Int) : Bool := (decide (x = 0) || decide (inner F x.toNat ≠ 0)) && orOk F l x.toNat
def isSpN (n : Nat) (l : List Int) : Bool := decide (l.length ≤ 2 ^ n) && ((List.range l.length).all (incOk n l) && (famOf l 0 && (famOf l (2 ^ n - 1) && l.all (rowOk (famOf l) l))))
def isSpB (n : Int) (l : List Int) : Bool := if 1 ≤ n ∧ n ≤ 7 then isSpN n.toNat l else false
theorem all_range_false {p : Nat → Bool} {k i : Nat} (hi : i < k) (h : p i = false) : (List.range k).all p = false := by
  rw [List.all_eq_false]; exact ⟨i, by simpa using hi, by simp [h]⟩
theorem all_range_true {p : Nat → Bool} {k : Nat} (h : ∀ i, i < k → p i = true) : (List.range k).all p = true := by
  rw [List.all_eq_true]; intro i hi; exact h i (by simpa using hi)
theorem all_at_false {α : Type} {p : α → Bool} {l : List α} {i : Nat} (hi : i < l.length) (h : p l[i] = false) : l.all p = false := by
  rw [List.all_eq_false]; exact ⟨l[i], List.getElem_mem hi, by simp [h]⟩
theorem all_at_true {α : Type} {p : α → Bool} {l : List α} (h : ∀ i (hi : i < l.length), p l[i] = true) : l.all p = true := by
  rw [List.all_eq_true]; intro x hx
  obtain ⟨i, hi, rfl⟩ := List.getElem_of_mem hx
  exact h i hi
end Go.Proofs.Ytjhjphgdjhahlaa.P
/- slices.Compare and impl's 'compare': lists of integers, the first one that differs counts. -/
namespace Go.Proofs.Ytjhjphgdjhahlaa.P
open Go.RowKit Go.Proofs.YtjhjphgdjhahlaaW.PrintWords Go.Proofs.YtjhjphgdjhahlaaW.PrintLast Go.Proofs.YtjhjphgdjhahlaaW.PrintMore
set_option linter.unusedVariables false

def cmpL : List Int → List Int → Int
  | [], [] => 0
  | [], _ :: _ => -1
  | _ :: _, [] => 1
  | a :: xs, b :: ys => if a < b then -1 else if b < a then 1 else cmpL xs ys
theorem cmpL_self (l : List Int) : cmpL l l = 0 := by
  induction l with
  | nil => rfl
  | cons a l ih => simp [cmpL, ih]
theorem cmpL_eq : ∀ {l m : List Int}, cmpL l m = 0 → l = m
  | [], [], _ => rfl
  | [], _ :: _, h => by simp [cmpL] at h
  | _ :: _, [], h => by simp [cmpL] at h
  | a :: xs, b :: ys, h => by
    simp only [cmpL] at h
    split at h
    · omega
    · split at h
      · omega
      · rw [cmpL_eq h, show a = b by omega]
theorem cmpL_zero {l m : List Int} : cmpL l m = 0 ↔ l = m := ⟨cmpL_eq, fun h => by rw [h, cmpL_self]⟩
theorem cmpL_neg : ∀ (l m : List Int), cmpL m l = - cmpL l m
  | [], [] => rfl
  | [], _ :: _ => rfl
  | _ :: _, [] => rfl
  | a :: xs, b :: ys => by
    simp only [cmpL]
    rcases Int.lt_trichotomy a b with h | h | h
    · rw [if_pos h, if_neg (by omega), if_pos h]; rfl
    · subst h; simp [cmpL_neg xs ys]
    · rw [if_pos h, if_neg (by omega), if_pos h]
theorem cmpL_trans : ∀ (l m n : List Int), cmpL l m ≤ 0 → cmpL m n ≤ 0 → cmpL l n ≤ 0 ∧ (cmpL l n = 0 → cmpL l m = 0 ∧ cmpL m n = 0)
  | [], [], n, h, h' => ⟨h', fun e => ⟨rfl, e⟩⟩
  | [], _ :: _, [], _, h' => by simp [cmpL] at h'
  | [], _ :: _, _ :: _, _, _ => by simp [cmpL]
  | _ :: _, [], _, h, _ => by simp [cmpL] at h
  | _ :: _, _ :: _, [], _, h' => by simp [cmpL] at h'
  | a :: xs, b :: ys, c :: zs, h, h' => by
    have ih := cmpL_trans xs ys zs
    simp only [cmpL] at *
    split at h <;> split at h' <;> (try split at h) <;> (try split at h') <;> (try omega)
    all_goals
      by_cases hac : a < c
      · simp [hac]; try omega
      · first | (exfalso; omega) | (rw [if_neg hac, if_neg (by omega)]; simp_all)
theorem cmpL_bounds : ∀ (l m : List Int), -1 ≤ cmpL l m ∧ cmpL l m ≤ 1
  | [], [] => by simp [cmpL]
  | [], _ :: _ => by simp [cmpL]
  | _ :: _, [] => by simp [cmpL]
  | a :: xs, b :: ys => by
    simp only [cmpL]
    split
    · omega
    · split
      · omega
      · exact cmpL_bounds xs ys

theorem Compare_from (l0 l1 : List Int) (h0 : l0.length < 4611686018427387904) : ∀ (m i k : Nat), i + m = l0.length → i ≤ l1.length → m < k →
    slices_Compare_int_int.l0 k l0 l1 l0 (l0.length : Int) (i : Int) = some (cmpL (l0.drop i) (l1.drop i)) := by
  intro m
  induction m with
  | zero =>
    intro i k hi hi1 hk
    obtain ⟨k, rfl⟩ : ∃ j, k = j + 1 := ⟨k - 1, by omega⟩
    simp only [slices_Compare_int_int.l0]
    rw [if_neg (by omega), List.drop_eq_nil_of_le (by omega)]
    by_cases h : i < l1.length
    · rw [if_pos (by omega), List.drop_eq_getElem_cons h]; rfl
    · rw [if_neg (by omega), List.drop_eq_nil_of_le (by omega)]; rfl
  | succ m ih =>
    intro i k hi hi1 hk
    obtain ⟨k, rfl⟩ : ∃ j, k = j + 1 := ⟨k - 1, by omega⟩
    simp only [slices_Compare_int_int.l0]
    rw [if_pos (by omega), if_pos (by omega), if_pos (by omega)]
    rw [List.drop_eq_getElem_cons (show i < l0.length by omega)]
    by_cases h : i < l1.length
    · rw [if_neg (by omega), if_pos (by omega), List.drop_eq_getElem_cons h]
      have e0 : rd l0 (i : Int) = l0[i] := by unfold rd; simp [show i < l0.length by omega]
      have e1 : rd l1 (i : Int) = l1[i] := by unfold rd; simp [h]
      have ew : wrap64 ((i : Int) + 1) = ((i + 1 : Nat) : Int) := by rw [wrap_small (by omega) (by omega)]; omega
      rw [e0, e1]
      simp only [cmp_Compare_int.f, cmp_isNaN_int.f, Option.bind_some, bne_self_eq_false, Bool.false_eq_true, if_false, cmpL]
      by_cases ha : l0[i] < l1[i]
      · simp [ha]
      · by_cases hb : l1[i] < l0[i]
        · simp [ha, hb]
        · have hi' := ih (i + 1) k (by omega) (by omega) (by omega)
          simp only [ha, if_false, gt_iff_lt, hb, Option.bind_some, if_true, ew]
          exact hi'
    · rw [if_pos (by omega), List.drop_eq_nil_of_le (show l1.length ≤ i by omega)]; rfl
theorem Compare_pure (l0 l1 : List Int) (h0 : l0.length < 4611686018427387904) (k : Nat) (hk : l0.length < k) : slices_Compare_int_int.f k l0 l1 = some (cmpL l0 l1) := by
  have := Compare_from l0 l1 h0 l0.length 0 k (by omega) (by omega) hk
  simpa [slices_Compare_int_int.f] using this

set_option maxHeartbeats 800000 in
theorem compare_calls (n0 n1 : Int) (A0 : Option Addr) (c0 : Nat) (l0 : List Int) (A1 : Option Addr) (c1 : Nat) (l1 : List Int) (w : World) (hr0 : Kd.C (Kd.int .i64) w A0 l0.length l0) (hc0 : l0.length ≤ c0) (hr1 : Kd.C (Kd.int .i64) w A1 l1.length l1) (hc1 : l1.length ≤ c1) (h0 : l0.length < 4611686018427387904) :
    Calls Try.prog 52 #[.agg #[.int .i64 n0, .slice A0 l0.length c0], .agg #[.int .i64 n1, .slice A1 l1.length c1]] w fun e w' => e = .returned (.int .i64 (cmpL l0 l1)) ∧ ∃ q os', w' = Go.Sort.grow (w.drewN q) os' := by
  have hu := Try.underlying28
  have hp := Compare_pure l0 l1 h0 (l0.length + 1) (by omega)
  have HP := Aside0.mk hp
  have HR0 := Aside0.mk hr0
  have HR1 := Aside0.mk hr1
  have HC0 := Aside0.mk hc0
  have HC1 := Aside0.mk hc1
  clear hp hr0 hr1 hc0 hc1
  go_enter Try.func52, Try.ntmps52
  go_wp2_with (go_at_call 96; (with_reducible refine (slices_Compare_int_int.calls (l0.length + 1) A0 c0 l0 A1 c1 l1 (cmpL l0 l1) _ ?h0 HC0.out ?h1 HC1.out HP.out).mono ?_); (case h0 => exact Kd.C_below HR0.out (below_alloc (below_alloc (Below.refl _ _) _) _)); (case h1 => exact Kd.C_below HR1.out (below_alloc (below_alloc (Below.refl _ _) _) _)); rintro e w' ⟨rfl, nd, rfl⟩)
  go_ret
  exact ⟨rfl, nd, _, by rw [Go.Sort.alloc_eq_grow, Go.Sort.alloc_eq_grow, Go.Sort.grow_grow]; rfl⟩
end Go.Proofs.Ytjhjphgdjhahlaa.P
/- spec's 'spGood' says of a list of sets what impl's IsSpace says: no program's walk, the printed functions alone. -/
namespace Go.Proofs.Ytjhjphgdjhahlaa.P
open Go.RowKit Go.Proofs.YtjhjphgdjhahlaaW.PrintWords Go.Proofs.YtjhjphgdjhahlaaW.PrintLast Go.Proofs.YtjhjphgdjhahlaaW.PrintMore
set_option linter.unusedVariables false

section
variable {α : Type} {c : Prop} [Decidable c] {A B : Nat → Option α} {r : α}
theorem Ev.pos (hc : c) (h : Ev A r) : Ev (fun k => if c then A k else B k) r := Ev.congr (fun _ => if_pos hc) h
theorem Ev.neg (hc : ¬ c) (h : Ev B r) : Ev (fun k => if c then A k else B k) r := Ev.congr (fun _ => if_neg hc) h
theorem Ev.one {r' : α} (h : r' = r) : Ev (fun _ => some r') r := by subst h; exact Ev.now _
end

theorem famOf_nat (l : List Int) (x : Nat) : famOf l x = decide ((x : Int) ∈ l) := rfl
theorem spIn_nat (x i : Nat) (hi : i < 64) : spec_spIn.f (x : Int) (i : Int) = some (x.testBit i) := by
  unfold spec_spIn.f
  rw [if_pos (by omega)]
  have e : shr .i64 (x : Int) (i : Int) = ((x / 2 ^ i : Nat) : Int) := by
    unfold shr; rw [Nat.min_eq_left (by simp [IntKind.bits]; omega)]; simp
  rw [e, Int.tmod_eq_emod_of_nonneg (Int.natCast_nonneg _), Nat.testBit_eq_decide_div_mod_eq]
  congr 1
  rw [Bool.eq_iff_iff]
  simp only [beq_iff_eq, decide_eq_true_eq]
  omega
theorem rd_at (l : List Int) (i : Nat) (h : i < l.length) : rd l (i : Int) = l[i] := by unfold rd; simp [h]

theorem spHas_from (l : List Int) (x : Int) (hs : l.Pairwise (· < ·)) (hl : l.length < 1152921504606846976) : ∀ (m lo hi : Nat), hi - lo ≤ m → lo ≤ hi → hi ≤ l.length → (∀ j (h : j < l.length), j < lo → l[j] < x) → (∀ j (h : j < l.length), hi ≤ j → x ≤ l[j]) →
    Ev (fun k => spec_spHas.l0 k l x (lo : Int) (hi : Int)) (decide (x ∈ l)) := by
  have lt : ∀ i j (hi : i < l.length) (hj : j < l.length), i < j → l[i] < l[j] := fun i j hi hj h => List.pairwise_iff_getElem.1 hs i j hi hj h
  intro m
  induction m with
  | zero =>
    intro lo hi hm hle hhl h1 h2
    obtain rfl : lo = hi := by omega
    refine Ev.step (fun k => spec_spHas.l0.eq_2 _ _ _ _ k) ?_
    refine Ev.neg (by omega) ?_
    by_cases hlo : lo < l.length
    · refine Ev.pos (by omega) (Ev.pos (by omega) (Ev.one ?_))
      rw [rd_at l lo hlo, Bool.eq_iff_iff]
      simp only [beq_iff_eq, decide_eq_true_eq]
      constructor
      · rintro rfl; exact List.getElem_mem _
      · intro hm
        obtain ⟨j, hj, rfl⟩ := List.getElem_of_mem hm
        rcases Nat.lt_trichotomy j lo with h | h | h
        · have := h1 j hj h; omega
        · subst h; rfl
        · have := h2 lo hlo (Nat.le_refl _); have := lt lo j hlo hj h; omega
    · refine Ev.neg (by omega) (Ev.one ?_)
      rw [eq_comm, decide_eq_false_iff_not]
      intro hm
      obtain ⟨j, hj, rfl⟩ := List.getElem_of_mem hm
      have := h1 j hj (by omega); omega
  | succ m ih =>
    intro lo hi hm hle hhl h1 h2
    by_cases hlt : lo < hi
    · refine Ev.step (fun k => spec_spHas.l0.eq_2 _ _ _ _ k) ?_
      have em : wrap64 (Int.tdiv (wrap64 ((lo : Int) + (hi : Int))) 2) = (((lo + hi) / 2 : Nat) : Int) := by
        have : wrap64 ((lo : Int) + (hi : Int)) = ((lo + hi : Nat) : Int) := by unfold wrap64; omega
        rw [this, Int.tdiv_eq_ediv_of_nonneg (by omega)]; unfold wrap64; omega
      have hmid : (lo + hi) / 2 < l.length := by omega
      simp only [em]
      refine Ev.pos (by omega) (Ev.pos (by omega) (Ev.pos (by omega) ?_))
      rw [rd_at l _ hmid]
      by_cases hc : l[(lo + hi) / 2] < x
      · refine Ev.pos hc ?_
        rw [wrap_small (by omega) (by omega)]
        have := ih ((lo + hi) / 2 + 1) hi (by omega) (by omega) hhl (fun j hj hjl => by
          rcases Nat.lt_or_ge j ((lo + hi) / 2) with h | h
          · have := lt j _ hj hmid h; omega
          · obtain rfl : j = (lo + hi) / 2 := by omega
            exact hc) h2
        simpa using this
      · refine Ev.neg hc ?_
        exact ih lo ((lo + hi) / 2) (by omega) (by omega) (by omega) h1 (fun j hj hjl => by
          rcases Nat.lt_or_ge ((lo + hi) / 2) j with h | h
          · have := lt _ j hmid hj h; omega
          · obtain rfl : j = (lo + hi) / 2 := by omega
            omega)
    · exact ih lo hi (by omega) hle hhl h1 h2
theorem spHas_pure (l : List Int) (x : Int) (hs : l.Pairwise (· < ·)) (hl : l.length < 1152921504606846976) : Ev (fun k => spec_spHas.f k l x) (decide (x ∈ l)) :=
  spHas_from l x hs hl l.length 0 l.length (by omega) (by omega) (by omega) (fun _ _ h => by omega) (fun _ _ h => by omega)

theorem go_xout (x i : Nat) (hx : x < 128) (hi : i < 7) (hb : x.testBit i = true) : Go.bits .xor .i64 (x : Int) (shl .i64 1 (i : Int)) = ((wout x i : Nat) : Int) := by
  have : ∀ x, x < 128 → ∀ i, i < 7 → x.testBit i = true → Go.bits .xor .i64 ((x : Nat) : Int) (shl .i64 1 ((i : Nat) : Int)) = ((wout x i : Nat) : Int) := by decide +kernel
  exact this x hx i hi hb
def innerR (F : Nat → Bool) (x i : Nat) : Nat := (List.range i).foldl (fun o j => if x.testBit j then (if F (wout x j) then wth o j else o) else o) 0
theorem innerR_all (F : Nat → Bool) (x : Nat) : innerR F x 7 = inner F x := by
  unfold innerR inner innerF itemsOf
  rw [List.foldl_filter]
theorem innerR_succ (F : Nat → Bool) (x i : Nat) : innerR F x (i + 1) = if x.testBit i then (if F (wout x i) then wth (innerR F x i) i else innerR F x i) else innerR F x i := by
  simp [innerR, List.range_succ]
theorem innerR_lt (F : Nat → Bool) (x i : Nat) (hi : i ≤ 7) : innerR F x i < 128 := by
  induction i with
  | zero => simp [innerR]
  | succ i ih =>
    rw [innerR_succ]
    have := ih (by omega)
    split
    · split
      · exact wth_lt _ _ this (by omega)
      · exact this
    · exact this
theorem spInner_from (l : List Int) (x : Nat) (hx : x < 128) (hs : l.Pairwise (· < ·)) (hl : l.length < 1152921504606846976) : ∀ (m i : Nat), i + m = 7 →
    Ev (fun k => spec_spInner.l0 k l (x : Int) ((innerR (famOf l) x i : Nat) : Int) (i : Int)) ((inner (famOf l) x : Nat) : Int) := by
  intro m
  induction m with
  | zero =>
    intro i hi
    obtain rfl : i = 7 := by omega
    refine Ev.step (fun k => spec_spInner.l0.eq_2 _ _ _ _ k) ?_
    refine Ev.neg (by omega) (Ev.one (by rw [innerR_all]))
  | succ m ih =>
    intro i hi
    refine Ev.step (fun k => spec_spInner.l0.eq_2 _ _ _ _ k) ?_
    refine Ev.pos (by omega) (Ev.bind (by rw [spIn_nat x i (by omega)]; exact Ev.now _) ?_)
    have h2 := ih (i + 1) (by omega)
    have ew : wrap64 ((i : Int) + 1) = ((i + 1 : Nat) : Int) := by rw [wrap_small (by omega) (by omega)]; omega
    simp only [ew]
    rw [innerR_succ] at h2
    cases hb : x.testBit i with
    | true =>
      rw [hb] at h2
      simp only [if_true] at h2 ⊢
      refine Ev.pos (by omega) (Ev.bind (by rw [go_xout x i hx (by omega) hb]; exact spHas_pure l _ hs hl) ?_)
      rw [famOf_nat] at h2
      cases hf : decide (((wout x i : Nat) : Int) ∈ l) with
      | true =>
        rw [hf] at h2
        simp only [if_true] at h2 ⊢
        rw [shl_one i (by omega), go_wth _ i (innerR_lt _ _ _ (by omega)) (by omega)]
        exact h2
      | false =>
        rw [hf] at h2
        simp only [Bool.false_eq_true, if_false] at h2 ⊢
        exact h2
    | false =>
      rw [hb] at h2
      simp only [Bool.false_eq_true, if_false] at h2 ⊢
      exact h2
theorem spInner_pure (l : List Int) (x : Nat) (hx : x < 128) (hs : l.Pairwise (· < ·)) (hl : l.length < 1152921504606846976) : Ev (fun k => spec_spInner.f k l (x : Int)) ((inner (famOf l) x : Nat) : Int) := by
  have := spInner_from l x hx hs hl 7 0 (by omega)
  exact this

theorem l1Rising_from (l : List Int) (n : Nat) (hn : n < 8) (hl : l.length < 1152921504606846976) : ∀ (m i : Nat), i + m = l.length →
    Ev (fun k => spec_l1Rising.l0 k l 0 (2 ^ n - 1) l (l.length : Int) (i : Int)) ((List.range' i m).all (incOk n l)) := by
  intro m
  induction m with
  | zero =>
    intro i hi
    refine Ev.step (fun k => spec_l1Rising.l0.eq_2 _ _ _ _ _ _ k) ?_
    exact Ev.neg (by omega) (Ev.now _)
  | succ m ih =>
    intro i hi
    have hil : i < l.length := by omega
    refine Ev.step (fun k => spec_l1Rising.l0.eq_2 _ _ _ _ _ _ k) ?_
    have ei : spec_l1In.f (rd l (i : Int)) 0 (2 ^ n - 1) = some (decide (0 ≤ l[i] ∧ l[i] < 2 ^ n)) := by
      rw [rd_at l i hil]
      unfold spec_l1In.f
      by_cases h : l[i] ≥ 0
      · rw [if_pos h]; congr 1; rw [decide_eq_decide]; omega
      · rw [if_neg h]; congr 1; rw [eq_comm, decide_eq_false_iff_not]; omega
    refine Ev.pos (by omega) (Ev.pos (by omega) (Ev.pos (by omega) (Ev.bind (by rw [ei]; exact Ev.now _) ?_)))
    have ew : wrap64 ((i : Int) + 1) = ((i + 1 : Nat) : Int) := by rw [wrap_small (by omega) (by omega)]; omega
    have h2 := ih (i + 1) (by omega)
    have er : (List.range' i (m + 1)).all (incOk n l) = (incOk n l i && (List.range' (i + 1) m).all (incOk n l)) := by rw [List.range'_succ]; rfl
    have ec : incOk n l i = (decide (0 ≤ l[i] ∧ l[i] < 2 ^ n) && (decide (i = 0) || decide (l[i - 1]?.getD 0 < l[i]))) := by unfold incOk; simp [hil]
    rw [er, ec]
    simp only [ew]
    cases hd : decide (0 ≤ l[i] ∧ l[i] < 2 ^ n) with
    | false => simp only [Bool.false_eq_true, if_false, Bool.false_and]; exact Ev.now _
    | true =>
      simp only [if_true, Bool.true_and]
      by_cases h0 : i = 0
      · subst h0
        refine Ev.neg (by omega) ?_
        simpa using h2
      · have e1 : wrap64 ((i : Int) - 1) = ((i - 1 : Nat) : Int) := by unfold wrap64; omega
        simp only [e1]
        refine Ev.pos (by omega) (Ev.pos (by omega) (Ev.pos (by omega) ?_))
        rw [rd_at l i hil, rd_at l (i - 1) (by omega)]
        have e2 : l[i - 1]?.getD 0 = l[i - 1] := by simp [show i - 1 < l.length by omega]
        rw [e2]
        by_cases h : l[i - 1] ≥ l[i]
        · refine Ev.pos h (Ev.one ?_)
          rw [show decide (i = 0) = false by simpa using h0, show decide (l[i - 1] < l[i]) = false by rw [decide_eq_false_iff_not]; omega]; rfl
        · refine Ev.neg h ?_
          rw [show decide (l[i - 1] < l[i]) = true by rw [decide_eq_true_eq]; omega]
          simpa using h2
theorem l1Rising_pure (l : List Int) (n : Nat) (hn : n < 8) (hl : l.length < 1152921504606846976) : Ev (fun k => spec_l1Rising.f k l 0 (2 ^ n - 1)) ((List.range l.length).all (incOk n l)) := by
  have := l1Rising_from l n hn hl l.length 0 (by omega)
  rw [← List.range_eq_range'] at this
  exact this
/-- What rising says. -/
theorem rising_of {l : List Int} {n : Nat} (h : (List.range l.length).all (incOk n l) = true) : l.Pairwise (· < ·) ∧ ∀ x ∈ l, 0 ≤ x ∧ x < 2 ^ n := by
  rw [List.all_eq_true] at h
  have h' : ∀ i (hi : i < l.length), (0 ≤ l[i] ∧ l[i] < 2 ^ n) ∧ (i = 0 ∨ l[i - 1]?.getD 0 < l[i]) := fun i hi => by
    have := h i (by simpa using hi)
    simpa [incOk, hi] using this
  constructor
  · rw [List.pairwise_iff_getElem]
    intro i j hi hj hij
    obtain ⟨m, rfl⟩ : ∃ m, j = i + 1 + m := ⟨j - i - 1, by omega⟩
    induction m with
    | zero =>
      have := (h' (i + 1) hj).2
      simp [hi] at this
      exact this
    | succ m ih =>
      have h1 := ih (by omega) (by omega)
      have h2 := (h' (i + 1 + (m + 1)) hj).2
      have e : i + 1 + (m + 1) - 1 = i + 1 + m := by omega
      rw [e] at h2
      simp [show i + 1 + m < l.length by omega] at h2
      omega
  · intro x hx
    obtain ⟨i, hi, rfl⟩ := List.getElem_of_mem hx
    exact (h' i hi).1

section
set_option linter.unusedSectionVars false
variable (l : List Int) (n : Nat) (hn : n < 8) (hs : l.Pairwise (· < ·)) (hb : ∀ x ∈ l, 0 ≤ x ∧ x < 2 ^ n) (hl : l.length < 1152921504606846976)
include hn hs hb hl
theorem el_nat (i : Nat) (hi : i < l.length) : ∃ x : Nat, l[i] = (x : Int) ∧ x < 128 ∧ l[i].toNat = x := by
  have h1 := hb _ (List.getElem_mem hi)
  refine ⟨l[i].toNat, by omega, ?_, rfl⟩
  have : (2 : Int) ^ n ≤ 128 := by
    have : (2 : Nat) ^ n ≤ 2 ^ 7 := Nat.pow_le_pow_right (by omega) (by omega)
    have h3 : ((2 ^ n : Nat) : Int) ≤ ((2 ^ 7 : Nat) : Int) := by exact_mod_cast this
    simpa using h3
  omega
theorem spGood_l1 (x : Nat) (hx : x < 128) (a : Int) (e : Int) (i : Nat) (q : Bool) (hq : Ev (fun k => spec_spGood.l0 k l e (wrap64 ((i : Int) + 1)) a l) q) : ∀ (m j : Nat), j + m = l.length →
    Ev (fun k => spec_spGood.l1 k (x : Int) l e (i : Int) l (l.length : Int) (j : Int) a l) ((l.drop j).all (fun y => famOf l (x ||| y.toNat)) && q) := by
  intro m
  induction m with
  | zero =>
    intro j hj
    refine Ev.step (fun k => spec_spGood.l1.eq_2 _ _ _ _ _ _ _ _ _ k) ?_
    refine Ev.neg (by omega) ?_
    rw [List.drop_eq_nil_of_le (by omega)]
    exact hq
  | succ m ih =>
    intro j hj
    have hjl : j < l.length := by omega
    refine Ev.step (fun k => spec_spGood.l1.eq_2 _ _ _ _ _ _ _ _ _ k) ?_
    obtain ⟨y, hy, hy1, hy2⟩ := el_nat l n hn hs hb hl j hjl
    have h2 := ih (j + 1) (by omega)
    have ew : wrap64 ((j : Int) + 1) = ((j + 1 : Nat) : Int) := by rw [wrap_small (by omega) (by omega)]; omega
    refine Ev.pos (by omega) (Ev.pos (by omega) (Ev.pos (by omega) (Ev.bind (by rw [rd_at l j hjl, hy, go_or x y hx hy1]; exact spHas_pure l _ hs hl) ?_)))
    rw [List.drop_eq_getElem_cons hjl, List.all_cons, hy2, famOf_nat]
    simp only [ew]
    cases hd : decide (((x ||| y : Nat) : Int) ∈ l) with
    | true => simp only [if_true, Bool.true_and]; exact h2
    | false => simp only [Bool.false_eq_true, if_false, Bool.false_and]; exact Ev.now _
theorem spGood_l0 (a : Int) : ∀ (m i : Nat), i + m = l.length → Ev (fun k => spec_spGood.l0 k l (l.length : Int) (i : Int) a l) ((l.drop i).all (rowOk (famOf l) l)) := by
  intro m
  induction m with
  | zero =>
    intro i hi
    refine Ev.step (fun k => spec_spGood.l0.eq_2 _ _ _ _ _ k) ?_
    refine Ev.neg (by omega) ?_
    rw [List.drop_eq_nil_of_le (by omega)]
    exact Ev.now _
  | succ m ih =>
    intro i hi
    have hil : i < l.length := by omega
    obtain ⟨x, hx, hx1, hx2⟩ := el_nat l n hn hs hb hl i hil
    have h2 := ih (i + 1) (by omega)
    have ew : wrap64 ((i : Int) + 1) = ((i + 1 : Nat) : Int) := by rw [wrap_small (by omega) (by omega)]; omega
    have h3 := spGood_l1 l n hn hs hb hl x hx1 a (l.length : Int) i _ (by rw [ew]; exact h2) l.length 0 (by omega)
    have e : (l.drop i).all (rowOk (famOf l) l) = ((decide ((x : Int) = 0) || decide (inner (famOf l) x ≠ 0)) && ((l.drop 0).all (fun y => famOf l (x ||| y.toNat)) && (l.drop (i + 1)).all (rowOk (famOf l) l))) := by
      rw [List.drop_eq_getElem_cons hil, List.all_cons, List.drop_zero, ← Bool.and_assoc]
      unfold rowOk orOk
      rw [hx2, hx]
    rw [e]
    refine Ev.step (fun k => spec_spGood.l0.eq_2 _ _ _ _ _ k) ?_
    refine Ev.pos (by omega) (Ev.pos (by omega) (Ev.pos (by omega) ?_))
    rw [rd_at l i hil, hx]
    by_cases hp : (x : Int) > 0
    · refine Ev.pos hp (Ev.bind (spInner_pure l x hx1 hs hl) ?_)
      refine Ev.step (fun k => spec_spGood.j3.eq_2 _ _ _ _ _ _ _ k) ?_
      rw [show decide ((x : Int) = 0) = false by rw [decide_eq_false_iff_not]; omega, Bool.false_or]
      by_cases hz : inner (famOf l) x = 0
      · refine Ev.pos (by rw [hz]; rfl) (Ev.one ?_)
        simp [hz]
      · refine Ev.neg (by simp; omega) ?_
        rw [show decide (inner (famOf l) x ≠ 0) = true by simpa using hz, Bool.true_and]
        exact h3
    · refine Ev.neg hp ?_
      refine Ev.step (fun k => spec_spGood.j3.eq_2 _ _ _ _ _ _ _ k) ?_
      refine Ev.neg (by simp) ?_
      rw [show decide ((x : Int) = 0) = true by rw [decide_eq_true_eq]; omega, Bool.true_or, Bool.true_and]
      exact h3
end
theorem pow_wrap (n : Nat) (hn : n < 8) : wrap64 ((shl .i64 1 (n : Int)) - 1) = (2 : Int) ^ n - 1 ∧ shl .i64 1 (n : Int) = (2 : Int) ^ n ∧ ((2 ^ n - 1 : Nat) : Int) = 2 ^ n - 1 := by
  have : ∀ n, n < 8 → wrap64 ((shl .i64 1 ((n : Nat) : Int)) - 1) = (2 : Int) ^ n - 1 ∧ shl .i64 1 (n : Int) = (2 : Int) ^ n ∧ ((2 ^ n - 1 : Nat) : Int) = 2 ^ n - 1 := by decide +kernel
  exact this n hn
/-- spec's 'spGood' asks what impl's IsSpace asks. -/
theorem spGood_pure (a : Int) (l : List Int) (hl : l.length < 1152921504606846976) : Ev (fun k => spec_spGood.f k a l) (isSpB a l) := by
  unfold isSpB
  have ei : spec_spItems.f a = some (decide (1 ≤ a ∧ a ≤ 7)) := by
    unfold spec_spItems.f spec_l1In.f
    by_cases h : a ≥ 1
    · rw [if_pos h]; simp only [Option.bind_some]; congr 1; rw [decide_eq_decide]; omega
    · rw [if_neg h]; simp only [Option.bind_some]; congr 1; rw [eq_comm, decide_eq_false_iff_not]; omega
  by_cases ha : 1 ≤ a ∧ a ≤ 7
  · rw [if_pos ha]
    obtain ⟨n, rfl⟩ : ∃ n : Nat, a = n := ⟨a.toNat, by omega⟩
    have hn : n < 8 := by omega
    obtain ⟨p1, p2, p3⟩ := pow_wrap n hn
    rw [show ((n : Int)).toNat = n by omega]
    unfold isSpN
    refine Ev.congr (fun k => spec_spGood.f.eq_1 k _ _) (Ev.bind (by rw [ei]; exact Ev.now _) ?_)
    rw [show decide (1 ≤ (n : Int) ∧ (n : Int) ≤ 7) = true by simpa using ha]
    refine Ev.pos rfl (Ev.pos (by omega) ?_)
    rw [p1, p2]
    have hj0 : ∀ (b : Bool), b = true → Ev (fun k => spec_spGood.j0 k b (n : Int) l) false := fun b hb => by
      refine Ev.step (fun k => spec_spGood.j0.eq_2 _ _ _ k) (Ev.pos hb (Ev.now _))
    have hc : (l.length : Int) > 2 ^ n ↔ ¬ l.length ≤ 2 ^ n := by
      have : ((2 ^ n : Nat) : Int) = 2 ^ n := by simp
      omega
    by_cases hlen : l.length ≤ 2 ^ n
    · refine Ev.neg (by rw [hc]; simpa using hlen) (Ev.bind (l1Rising_pure l n hn hl) ?_)
      rw [show decide (l.length ≤ 2 ^ n) = true by simpa using hlen, Bool.true_and]
      cases hr : (List.range l.length).all (incOk n l) with
      | false => rw [Bool.false_and]; exact hj0 _ rfl
      | true =>
        obtain ⟨hs, hb⟩ := rising_of hr
        rw [Bool.true_and]
        refine Ev.step (fun k => spec_spGood.j0.eq_2 _ _ _ k) (Ev.neg (by simp) (Ev.bind (spHas_pure l 0 hs hl) ?_))
        have hj1 : Ev (fun k => spec_spGood.j1 k true (n : Int) l) false := Ev.step (fun k => spec_spGood.j1.eq_2 _ _ _ k) (Ev.pos rfl (Ev.now _))
        have e0 : famOf l 0 = decide ((0 : Int) ∈ l) := rfl
        rw [e0]
        cases h0 : decide ((0 : Int) ∈ l) with
        | false => rw [Bool.false_and]; exact Ev.neg (by simp) hj1
        | true =>
          rw [Bool.true_and]
          refine Ev.pos rfl (Ev.pos (by omega) (Ev.bind (by rw [p1]; exact spHas_pure l _ hs hl) ?_))
          have e1 : famOf l (2 ^ n - 1) = decide (((2 : Int) ^ n - 1) ∈ l) := by rw [famOf_nat, p3]
          rw [e1]
          cases h1 : decide (((2 : Int) ^ n - 1) ∈ l) with
          | false => rw [Bool.false_and]; exact hj1
          | true =>
            rw [Bool.true_and]
            refine Ev.step (fun k => spec_spGood.j1.eq_2 _ _ _ k) (Ev.neg (by simp) ?_)
            exact spGood_l0 l n hn hs hb hl (n : Int) l.length 0 (by omega)
    · refine Ev.pos (by rw [hc]; exact hlen) ?_
      rw [show decide (l.length ≤ 2 ^ n) = false by simpa using hlen, Bool.false_and]
      exact hj0 _ rfl
  · rw [if_neg ha]
    refine Ev.congr (fun k => spec_spGood.f.eq_1 k _ _) (Ev.bind (by rw [ei]; exact Ev.now _) ?_)
    rw [show decide (1 ≤ a ∧ a ≤ 7) = false by simpa using ha]
    refine Ev.neg (by simp) ?_
    exact Ev.step (fun k => spec_spGood.j0.eq_2 _ _ _ k) (Ev.pos rfl (Ev.now _))
end Go.Proofs.Ytjhjphgdjhahlaa.P
/- The reference's order of lists. -/
namespace Go.Proofs.Ytjhjphgdjhahlaa.P
open Go.RowKit Go.Proofs.YtjhjphgdjhahlaaW.PrintWords Go.Proofs.YtjhjphgdjhahlaaW.PrintLast Go.Proofs.YtjhjphgdjhahlaaW.PrintMore
set_option linter.unusedVariables false

theorem alBefore_from (l m : List Int) (hl : l.length < 1152921504606846976) (hm : m.length < 1152921504606846976) : ∀ (j i : Nat), i + j = l.length → i ≤ m.length → Ev (fun k => spec_alBefore.l0 k l m (i : Int)) (decide (cmpL (l.drop i) (m.drop i) < 0)) := by
  intro j
  induction j with
  | zero =>
    intro i hi him
    refine Ev.step (fun k => spec_alBefore.l0.eq_2 _ _ _ k) (Ev.neg (by omega) ?_)
    refine Ev.step (fun k => spec_alBefore.j1.eq_2 _ _ _ _ k) (Ev.neg (by simp) (Ev.one ?_))
    rw [List.drop_eq_nil_of_le (by omega)]
    by_cases h : i < m.length
    · rw [List.drop_eq_getElem_cons h]; simp [cmpL]; omega
    · rw [List.drop_eq_nil_of_le (by omega)]; simp [cmpL]; omega
  | succ j ih =>
    intro i hi him
    have hi1 : i < l.length := by omega
    refine Ev.step (fun k => spec_alBefore.l0.eq_2 _ _ _ k) (Ev.pos (by omega) ?_)
    refine Ev.step (fun k => spec_alBefore.j1.eq_2 _ _ _ _ k) ?_
    rw [List.drop_eq_getElem_cons hi1]
    by_cases h : i < m.length
    · have e1 : rd l (i : Int) = l[i] := by unfold rd; simp [hi1]
      have e2 : rd m (i : Int) = m[i] := by unfold rd; simp [h]
      have ew : wrap64 ((i : Int) + 1) = ((i + 1 : Nat) : Int) := by unfold wrap64; omega
      refine Ev.pos (by simp; omega) (Ev.pos (by omega) (Ev.pos (by omega) (Ev.pos (by omega) ?_)))
      rw [List.drop_eq_getElem_cons h, e1, e2, ew]
      by_cases he : l[i] = m[i]
      · refine Ev.pos he ?_
        have := ih (i + 1) (by omega) (by omega)
        simpa [cmpL, he] using this
      · refine Ev.neg he (Ev.one ?_)
        have ec : cmpL (l[i] :: l.drop (i + 1)) (m[i] :: m.drop (i + 1)) = if l[i] < m[i] then -1 else if m[i] < l[i] then 1 else cmpL (l.drop (i + 1)) (m.drop (i + 1)) := rfl
        rw [decide_eq_decide, ec]
        by_cases hlt : l[i] < m[i]
        · rw [if_pos hlt]; omega
        · rw [if_neg hlt, if_pos (by omega)]; omega
    · refine Ev.neg (by simp; omega) (Ev.one ?_)
      rw [List.drop_eq_nil_of_le (show m.length ≤ i by omega)]
      simp [cmpL]; omega
theorem alBefore_pure (l m : List Int) (hl : l.length < 1152921504606846976) (hm : m.length < 1152921504606846976) : Ev (fun k => spec_alBefore.f k l m) (decide (cmpL l m < 0)) := by
  have := alBefore_from l m hl hm l.length 0 (by omega) (by omega)
  exact Ev.congr (fun k => spec_alBefore.f.eq_1 k _ _) (by simpa using this)


end Go.Proofs.Ytjhjphgdjhahlaa.P
/- Families in memory: an array of 128 Bools in a block of its own; impl's 'family' makes the family of a space. -/
namespace Go.Proofs.Ytjhjphgdjhahlaa.P
open Go.RowKit Go.Proofs.YtjhjphgdjhahlaaW.PrintWords Go.Proofs.YtjhjphgdjhahlaaW.PrintLast Go.Proofs.YtjhjphgdjhahlaaW.PrintMore
set_option linter.unusedVariables false

def famCells (F : Nat → Bool) : Array Value := ((List.range 128).map fun i => Value.bool (F i)).toArray
theorem famCells_size (F : Nat → Bool) : (famCells F).size = 128 := by simp [famCells]
theorem famCells_get (F : Nat → Bool) (i : Nat) (h : i < 128) : (famCells F)[i]? = some (.bool (F i)) := by
  simp [famCells, h]
theorem famCells_set (F : Nat → Bool) (i : Nat) (b : Bool) : (famCells F).setIfInBounds i (.bool b) = famCells (upd F i b) := by
  apply Array.ext
  · simp [famCells]
  · intro j h1 h2
    simp [famCells, upd]
    have := h1; simp [famCells] at this
    by_cases e : i = j <;> simp [e, eq_comm]

/-- Block g holds the family F. -/
def FamAt (w : World) (g : Nat) (F : Nat → Bool) : Prop := w.heap[g]? = some (.cells (famCells F) 120 (0, 0))
theorem zero_fam : Try.zeroCells120 = famCells (fun _ => false) := by kernel_rfl
theorem FamAt.lt {w : World} {g : Nat} {F : Nat → Bool} (h : FamAt w g F) : g < w.heap.size := (Array.getElem?_eq_some_iff.1 h).1
theorem FamAt.cell {w : World} {g : Nat} {F : Nat → Bool} (h : FamAt w g F) (i : Nat) (hi : i < 128) : w.cell? ⟨g, i, none⟩ = some (.bool (F i)) := (blk_cell h i).trans (famCells_get F i hi)
theorem FamAt.frozen {w : World} {g : Nat} {F : Nat → Bool} (h : FamAt w g F) (i : Nat) : w.frozen? ⟨g, i, none⟩ = false := blk_frozen h i
theorem FamAt.set {w : World} {g : Nat} {F : Nat → Bool} (h : FamAt w g F) (i : Nat) (b : Bool) : FamAt (w.setCell ⟨g, i, none⟩ (.bool b)) g (upd F i b) := by
  unfold FamAt; rw [← famCells_set]; exact blk_set h i _
theorem FamAt.far {w : World} {g : Nat} {F : Nat → Bool} (h : FamAt w g F) {p : Addr} (hne : g ≠ p.block) (u : Value) : FamAt (w.setCell p u) g F := blk_far h hne u
theorem FamAt.below {w w1 : World} {g : Nat} {F : Nat → Bool} (h : FamAt w g F) (hb : Below w.heap.size w w1) : FamAt w1 g F := blk_below h hb
theorem FamAt.alloc {w : World} {g : Nat} {F : Nat → Bool} (h : FamAt w g F) (o : Obj) : FamAt (w.alloc o) g F := blk_alloc h o
theorem FamAt.drewN {w : World} {g : Nat} {F : Nat → Bool} (h : FamAt w g F) (n : Nat) : FamAt (w.drewN n) g F := blk_drewN h n
theorem FamAt.drew {w : World} {g : Nat} {F : Nat → Bool} (h : FamAt w g F) : FamAt w.drew g F := blk_drew h
theorem FamAt.new (w : World) : FamAt (w.alloc (.cells Try.zeroCells120 120)) w.heap.size (fun _ => false) := by
  unfold FamAt; rw [← zero_fam]; exact heap_alloc_new w _
theorem FamAt.ext {w : World} {g : Nat} {F G : Nat → Bool} (h : FamAt w g F) (e : ∀ i, i < 128 → F i = G i) : FamAt w g G := by
  have : famCells F = famCells G := by
    simp only [famCells]; congr 1; apply List.map_congr_left; intro i hi; rw [e i (by simpa using hi)]
  unfold FamAt; rw [← this]; exact h

/-- The integers of a list that is read lie where the list is. -/
theorem int_at {w : World} {A : Option Addr} {n : Nat} {l : List Int} (h : Kd.C (Kd.int .i64) w A n l) (i : Nat) (hi : i < n) : ∃ ad, A = some ad ∧ w.cell? (ad.add i) = some (.int .i64 (l[i]?.getD 0)) := by
  obtain ⟨ad, e1, hx⟩ := Kd.at_int h (i : Int) (by omega) (by omega)
  refine ⟨ad, e1, ?_⟩
  simpa [rd] using hx

set_option maxHeartbeats 800000
set_option maxRecDepth 100000
theorem family_calls (n : Int) (A : Option Addr) (l : List Int) (c : Nat) (w : World) (hr : Kd.C (Kd.int .i64) w A l.length l) (hv : ∀ x ∈ l, 0 ≤ x ∧ x < 128) :
    Calls Try.prog 106 #[.agg #[.int .i64 n, .slice A l.length c]] w fun e w' => ∃ g, e = .returned (.pointer (some ⟨g, 0, none⟩)) ∧ FamAt w' g (famOf l) ∧ Below w.heap.size w w' ∧ w.heap.size ≤ g := by
  have hu := Try.underlying28
  have HR := Aside0.mk hr
  clear hr
  have HV := Aside0.mk hv
  clear hv
  have HL := Aside0.mk (HR.out.2.1)
  go_enter Try.func106, Try.ntmps106
  go_wp2_with fail
  go_loopg [11] l.length (fun kq v11 w' => ∃ i : Nat, v11 = .int .i64 i ∧ i ≤ l.length ∧ Aside0 (kq = l.length - i) ∧ Aside0 (FamAt w' (w.heap.size + 1) (famOf (l.take i))) ∧ Aside0 (Below w.heap.size w w'))
  case atStart =>
    refine ⟨0, rfl, Nat.zero_le _, ⟨by omega⟩, ⟨?_⟩, ⟨?_⟩⟩
    · have := FamAt.new (w.alloc (.cells #[Value.int .i64 n, .slice A l.length c] 28))
      simpa using this.ext (fun i _ => by simp [famOf])
    · exact below_alloc (below_alloc (Below.refl _ _) _) _
  case round =>
    obtain ⟨i, rfl, hi, HK, HF, HB⟩ := hrel
    by_cases hlt : i < l.length
    · have hlen := HL.out
      have p1 : (0:Int) ≤ (i : Int) := by omega
      have q1 : (i : Int) < (l.length : Int) := by omega
      obtain ⟨ad, e1, hx⟩ := Kd.at_int HR.out (i : Int) p1 q1
      cases e1
      replace hx := (HB.out.cell (World.block_lt_of_cell? w _ hx)).trans hx
      have hm := HV.out (rd l i) (by unfold rd; simp [hlt])
      obtain ⟨m, hm1⟩ := Int.eq_ofNat_of_zero_le hm.1
      rw [hm1] at hx hm
      have hm2 : (m : Int) < 128 := hm.2
      clear hm
      simp only [Int.toNat_natCast] at hx
      have hc' := HF.out.cell m (by omega)
      have hf' := HF.out.frozen m
      have HM1 := Aside0.mk hm1
      clear hm1
      go_wp2
      go_roundg (l.length - (i + 1))
      case measure => have := HK.out; omega
      case rel =>
        refine ⟨i + 1, by go_num, by omega, ⟨rfl⟩, ⟨?_⟩, ⟨below_set HB.out (by omega)⟩⟩
        refine (HF.out.set m true).ext (fun j _ => ?_)
        have hh := famOf_snoc l i hlt (by have := HM1.out; unfold rd at this; simp [hlt] at this; omega) j
        have e2 : l[i].toNat = m := by have := HM1.out; unfold rd at this; simp [hlt] at this; omega
        rw [e2] at hh; exact hh
    · obtain rfl : i = l.length := by omega
      go_wp2
      go_ret
      refine ⟨w.heap.size + 1, rfl, ?_, HB.out, by omega⟩
      have := HF.out; rw [List.take_length] at this; exact this
end Go.Proofs.Ytjhjphgdjhahlaa.P
/- What a call leaves: all blocks but those of a set are as they were. -/
-- plain
namespace Go.Proofs.Ytjhjphgdjhahlaa.P
open Go.RowKit Go.Proofs.YtjhjphgdjhahlaaW.PrintWords Go.Proofs.YtjhjphgdjhahlaaW.PrintLast Go.Proofs.YtjhjphgdjhahlaaW.PrintMore

/-- W is w but for new blocks, draws, and what may have been written into blocks of S. -/
structure KB (w W : World) (S : Nat → Prop) : Prop where
  os : W.os = w.os
  tape : W.tape = w.tape
  output : W.output = w.output
  size : w.heap.size ≤ W.heap.size
  block : ∀ i, i < w.heap.size → ¬ S i → W.heap[i]? = w.heap[i]?
variable {w W W2 : World} {S S' S2 : Nat → Prop}
theorem KB.refl (w : World) (S : Nat → Prop) : KB w w S := ⟨rfl, rfl, rfl, Nat.le_refl _, fun _ _ _ => rfl⟩
theorem KB.of_below (h : Below w.heap.size w W) (S : Nat → Prop) : KB w W S := ⟨h.os, h.tape, h.output, h.size, fun i hi _ => h.block i hi⟩
theorem KB.mono (h : KB w W S) (hs : ∀ k, k < w.heap.size → S k → S' k) : KB w W S' := ⟨h.os, h.tape, h.output, h.size, fun i hi hn => h.block i hi fun hk => hn (hs i hi hk)⟩
theorem KB.then_ (h : KB w W S) (k : KB W W2 S2) (hs : ∀ k, k < w.heap.size → S2 k → S k) : KB w W2 S :=
  ⟨k.os.trans h.os, k.tape.trans h.tape, k.output.trans h.output, Nat.le_trans h.size k.size, fun i hi hn =>
    (k.block i (Nat.lt_of_lt_of_le hi h.size) fun h2 => hn (hs i hi h2)).trans (h.block i hi hn)⟩
theorem KB.to_below (h : KB w W S) (hs : ∀ k, k < w.heap.size → ¬ S k) : Below w.heap.size w W := ⟨h.os, h.tape, h.output, h.size, fun i hi => h.block i hi (hs i hi)⟩
theorem KB.below (h : KB w W S) (hb : Below W.heap.size W W2) : KB w W2 S := h.then_ (KB.of_below hb (fun _ => False)) (fun _ _ hk => hk.elim)
theorem KB.alloc (h : KB w W S) (o : Obj) : KB w (W.alloc o) S := h.below (below_alloc (Below.refl _ _) o)
theorem KB.drewN (h : KB w W S) (m : Nat) : KB w (W.drewN m) S := ⟨h.os, h.tape, h.output, h.size, h.block⟩
theorem KB.drew (h : KB w W S) : KB w W.drew S := ⟨h.os, h.tape, h.output, h.size, h.block⟩
theorem KB.setCell (h : KB w W S) {p : Addr} (hp : S p.block ∨ w.heap.size ≤ p.block) (u : Value) : KB w (W.setCell p u) S :=
  h.then_ (S2 := fun k => k = p.block) ⟨rfl, rfl, rfl, by simp [World.setCell], fun i _ hn => Below.heap_setCell W p u i hn⟩ (fun k hk he => by subst he; rcases hp with h | h; exact h; omega)
theorem KB.grown (h : KB w W S) {row : Option Nat} (hg : W.grownBy W2 row) (hr : ∀ k, row = some k → S k ∨ w.heap.size ≤ k) : KB w W2 S :=
  h.then_ (S2 := fun k => row = some k) ⟨hg.os, hg.tape, hg.output, hg.size, fun i hi hn => hg.block i hi (fun he => hn he.symm)⟩ (fun k hk he => by rcases hr k he with h | h; exact h; omega)
theorem blk_kb {g : Nat} {o : Obj} (hb : W.heap[g]? = some o) (hk : KB W W2 S) (hne : ¬ S g) : W2.heap[g]? = some o := (hk.block g (blk_lt hb) hne).trans hb
theorem cell_kb {a : Addr} {v : Value} (hc : W.cell? a = some v) (hk : KB W W2 S) (hne : ¬ S a.block) : W2.cell? a = some v := by
  have := hk.block a.block (World.block_lt_of_cell? W a hc) hne
  simpa [World.cell?, this] using hc
/-- A list of integers that is read, over what leaves its block alone. -/
theorem C_kb {A : Option Addr} {n : Nat} {l : List Int} (h : Kd.C (Kd.int .i64) W A n l) (hk : KB W W2 S) (hne : ∀ ad, A = some ad → ¬ S ad.block) : Kd.C (Kd.int .i64) W2 A n l := by
  refine ⟨h.1, h.2.1, fun hn => ?_⟩
  obtain ⟨ad, e, hc⟩ := h.2.2 hn
  refine ⟨ad, e, fun j p hp => ?_⟩
  obtain ⟨c, hl, hK, hcc⟩ := hc j p hp
  refine ⟨c, hl, hK, fun i u hu => cell_kb (hcc i u hu) hk ?_⟩
  have : (ad.add (j * (Kd.int .i64).sz + i)).block = ad.block := by unfold Addr.add; split <;> rfl
  rw [this]; exact hne ad e
/-- An own row, over what leaves its block alone. -/
theorem R_kb {base : Nat} {ok : Nat → Prop} {v : Value} {l : List Int} {e : Nat} (h : Kd.R (Kd.int .i64) e W base ok v l) (hk : KB W W2 S) (hne : ∀ k, ok k → ¬ S k) : Kd.R (Kd.int .i64) e W2 base ok v l := by
  refine Kd.R_mono (Kd.R_move (Kd.R_bound h) ?_) (fun k hk => hk.1)
  intro k hk2
  exact hk.block k hk2.2.2.1 (hne k hk2.1)
end Go.Proofs.Ytjhjphgdjhahlaa.P
/- Plain facts about words of learning. No program. -/
-- plain
namespace Go.Proofs.Ytjhjphgdjhahlaa.P
/-! Words of learning: all ways on from a set. -/
def wordsFrom (F : Nat → Bool) (al : Nat) : Nat → Nat → List (List Nat)
  | 0, _ => []
  | d + 1, s => if s = al then [[]] else (itemsOf (outer F s)).flatMap fun i => (wordsFrom F al d (wth s i)).map (i :: ·)
/-- what is told of words one by one, as long as it is asked for -/
def feed (cont : List (List Nat) → Bool) (s : List (List Nat) × Bool) (l : List (List Nat)) : List (List Nat) × Bool :=
  l.foldl (fun s x => if s.2 then (s.1 ++ [x], cont (s.1 ++ [x])) else s) s
theorem feed_append (cont : List (List Nat) → Bool) (s : List (List Nat) × Bool) (l l' : List (List Nat)) : feed cont s (l ++ l') = feed cont (feed cont s l) l' := by
  simp [feed]
theorem feed_off (cont : List (List Nat) → Bool) (h : List (List Nat)) (l : List (List Nat)) : feed cont (h, false) l = (h, false) := by
  induction l with
  | nil => rfl
  | cons a l ih => simpa [feed] using ih
theorem feed_one (cont : List (List Nat) → Bool) (h : List (List Nat)) (x : List Nat) : feed cont (h, true) [x] = (h ++ [x], cont (h ++ [x])) := by simp [feed]
theorem feed_all (cont : List (List Nat) → Bool) (hc : ∀ h, cont h = true) (h : List (List Nat)) (l : List (List Nat)) : feed cont (h, true) l = (h ++ l, true) := by
  induction l generalizing h with
  | nil => simp [feed]
  | cons a l ih =>
    have : feed cont (h, true) (a :: l) = feed cont (h ++ [a], true) l := by simp [feed, hc]
    rw [this, ih]; simp
theorem outerF_bit (F : Nat → Bool) (x : Nat) (k i : Nat) : (outerF F x (List.range k)).testBit i = (decide (i < k) && (!x.testBit i && F (wth x i))) := by
  induction k with
  | zero => simp [outerF]
  | succ k ih =>
    rw [outerF_succ]
    by_cases e : i = k
    · subst e
      have hk : (outerF F x (List.range i)).testBit i = false := by rw [ih]; simp
      split
      · rename_i h; rw [hk, h]; simp
      · rename_i h
        have hx : x.testBit i = false := by simpa using h
        split
        · rename_i hf; unfold wth at hf ⊢; simp [Nat.testBit_or, hx, hf]
        · rename_i hf; rw [hk, hx]; have : F (wth x i) = false := by simpa using hf
          rw [this]; simp
    · have hd : decide (i < k + 1) = decide (i < k) := by rw [decide_eq_decide]; omega
      have hp : Nat.testBit (2 ^ k) i = false := by rw [Nat.testBit_two_pow]; simp; omega
      rw [hd, ← ih]
      split
      · rfl
      · split
        · simp [wth, Nat.testBit_or, hp]
        · rfl
theorem outer_bit (F : Nat → Bool) (x i : Nat) : (outer F x).testBit i = (decide (i < 7) && (!x.testBit i && F (wth x i))) := outerF_bit F x 7 i
theorem outer_mem {F : Nat → Bool} {x i : Nat} (h : i ∈ itemsOf (outer F x)) : i < 7 ∧ x.testBit i = false ∧ F (wth x i) = true := by
  have h2 := (itemsOf_mem h).2
  rw [outer_bit] at h2
  simp at h2
  exact ⟨h2.1, h2.2.1, h2.2.2⟩
def cnt (x : Nat) : Nat := (itemsOf x).length
theorem cnt_le (x : Nat) : cnt x ≤ 7 := itemsOf_len x
theorem cnt_wth (x i : Nat) (hx : x < 128) (hi : i < 7) (hb : x.testBit i = false) : cnt (wth x i) = cnt x + 1 := by
  have : ∀ x, x < 128 → ∀ i, i < 7 → x.testBit i = false → cnt (wth x i) = cnt x + 1 := by decide +kernel
  exact this x hx i hi hb
end Go.Proofs.Ytjhjphgdjhahlaa.P
/- impl's 'those': the sets for which a function value says yes; the space of all sets. -/
namespace Go.Proofs.Ytjhjphgdjhahlaa.P
open Go.RowKit Go.Proofs.YtjhjphgdjhahlaaW.PrintWords Go.Proofs.YtjhjphgdjhahlaaW.PrintLast Go.Proofs.YtjhjphgdjhahlaaW.PrintMore
set_option linter.unusedVariables false
set_option maxHeartbeats 1600000
set_option maxRecDepth 100000

theorem those_calls (g : Nat) (lb : Array Value) (P : Nat → Bool) (n : Nat) (hn7 : n ≤ 7) (w : World) (eg : ∀ args w, (callFunc g args).run Try.prog w = .ok (.enter g args) w)
    (hg : ∀ x, x < 2 ^ n → ∀ W, Below w.heap.size w W → Calls Try.prog g (#[.int .i64 (x : Int)] ++ lb) W fun e W' => e = .returned (.bool (P x)) ∧ Below W.heap.size W W') :
    Calls Try.prog 117 #[.int .i64 (n : Int), .func (.func g) #[] lb] w fun e w' => ∃ v, e = .returned (.agg #[.int .i64 n, v]) ∧ Kd.R (Kd.int .i64) 3 w' w.heap.size (fun _ => True) v (ints (setsUpto P (2 ^ n))) ∧ Below w.heap.size w w' := by
  have hu := Try.underlying28
  have HG := Aside0.mk hg
  have hp7 : 2 ^ n ≤ 128 := Nat.pow_le_pow_right (n := 2) (by omega) hn7
  obtain ⟨q, hq1, hq2, hq⟩ := bit_letter n (by omega)
  obtain ⟨p, hp⟩ : ∃ p, 2 ^ n = p := ⟨_, rfl⟩
  rw [hp] at hq HG hp7 ⊢
  subst hq
  clear hg hp
  go_enter Try.func117, Try.ntmps117
  go_wp2_with fail
  go_loopg [11] p (fun kq v11 w' => ∃ (i : Nat) (v : Value), v11 = .int .i64 i ∧ i ≤ p ∧ Aside0 (kq = p - i) ∧ Aside0 (Kd.R (Kd.int .i64) 3 w' w.heap.size (fun _ => True) v (ints (setsUpto P i))) ∧ Aside0 (w'.heap[w.heap.size]? = some (.cells #[.int .i64 0, .slice none 0 0] 28 (0, 0))) ∧ Aside0 (w'.heap[w.heap.size + 1]? = some (.cells #[.int .i64 n, v] 28 (0, 0))) ∧ Aside0 (Below w.heap.size w w'))
  case atStart =>
    refine ⟨0, .slice none 0 0, rfl, by omega, ⟨rfl⟩, ⟨Kd.R_nil _ _ _ _ _⟩, ⟨blk_alloc (heap_alloc_new _ _) _⟩, ⟨?_⟩, ⟨below_alloc (below_alloc (Below.refl _ _) _) _⟩⟩
    have := heap_alloc_new (w.alloc (.cells #[Value.int .i64 0, .slice none 0 0] 28)) (.cells #[Value.int .i64 n, .slice none 0 0] 28)
    simpa using this
  case round =>
    obtain ⟨i, v, rfl, hi, HK, HO, HB0, HB1, HB⟩ := hrel
    obtain ⟨A, c, hv⟩ := Kd.R_slice HO.out
    rw [hv] at HB1 HO
    clear hv
    by_cases hlt : i < p
    · have hsl := setsUpto_len P i
      have hgi := HG.out i hlt wr HB.out
      have HGI := Aside0.mk hgi
      have hsu := setsUpto_succ P i
      obtain ⟨b, hb⟩ : ∃ b, P i = b := ⟨_, rfl⟩
      rw [hb] at hsu HGI
      have HSU := Aside0.mk hsu
      clear hgi hsu hb
      go_wp2_with fail
      refine HGI.out.mono ?_
      rintro e w1 ⟨rfl, hb1⟩
      have HO1 := Aside0.mk (Kd.R_below HO.out hb1)
      have HB01 := Aside0.mk (blk_below HB0.out hb1)
      have HB11 := Aside0.mk (blk_below HB1.out hb1)
      have HBB1 := Aside0.mk (below_step HB.out hb1)
      clear hb1 HO HB0 HB1 HB
      cases b
      · go_wp2_with fail
        go_roundg (p - (i + 1))
        case measure => have := HK.out; omega
        case rel =>
          refine ⟨i + 1, .slice A (ints (setsUpto P i)).length c, by go_num, by omega, ⟨rfl⟩, ⟨?_⟩, HB01, HB11, HBB1⟩
          rw [HSU.out]
          exact HO1.out
      · have hc1_1 : w1.cell? ⟨w.heap.size + 1, 1, none⟩ = some (.slice A (ints (setsUpto P i)).length c) := (blk_cell HB11.out 1).trans rfl
        have hf1_1 := blk_frozen HB11.out 1
        go_wp2_with (first | ((with_reducible refine gate_builtin (b := .append) (xs := #[.tmp 18, .tmp 20]) rfl ?_); at_builtin; refine Kd.R_append (Kd.int .i64) (w0 := w) w.heap.size rfl (.tmp 18) (.tmp 20) 22 3 (.int .i64 0) 8 rfl Try.underlying22 info3 rfl (by decide) (by omega) (.slice A (ints (setsUpto P i)).length c) (ints (setsUpto P i)) (i : Int) [.int .i64 (i : Int)] (fun _ => True) (fun _ => False) rfl rfl ?aP (fun _ hk => hk.elim) ?aF ?aO ?aB ?aS ?aL ?_; (case aP => exact rfl); (case aB => exact HBB1.out); (case aF => exact (fun _ _ => trivial)); (case aO => exact HO1.out); (case aS => exact below_size HBB1.out); (case aL => simp only [ints, List.length_map]; omega); intro v1 w9 ho hb hg hat; obtain ⟨A1, c1, rfl⟩ := Kd.R_slice ho; have hB0 := Aside0.mk (blk_grown HB01.out hg (Kd.R_ne HO1.out HB01.out (by decide))); have hB1 := Aside0.mk (blk_grown HB11.out hg (Kd.R_ne HO1.out HB11.out (by decide))); have HO9 := Aside0.mk ho; have HB9 := Aside0.mk hb; have hf9 := blk_frozen hB1.out 1; have hc9 : w9.cell? ⟨w.heap.size + 1, 1, none⟩ = some (.slice A (ints (setsUpto P i)).length c) := (blk_cell hB1.out 1).trans rfl; clear ho hb hg hat hc1_1 hf1_1) | fail)
        go_roundg (p - (i + 1))
        case measure => have := HK.out; omega
        case rel =>
          refine ⟨i + 1, .slice A1 (ints (setsUpto P i) ++ [(i : Int)]).length c1, by go_num, by omega, ⟨rfl⟩, ⟨?_⟩, ⟨blk_far hB0.out (by simp) _⟩, ⟨?_⟩, ⟨below_set HB9.out (by omega)⟩⟩
          · rw [HSU.out]
            simp only [if_true]
            have e : ints (setsUpto P i ++ [i]) = ints (setsUpto P i) ++ [(i : Int)] := by simp [ints]
            rw [e]
            exact Kd.R_mono (Kd.R_far (p := ⟨w.heap.size + 1, 1, none⟩) (Kd.R_types HO9.out hB1.out (by decide)) (fun _ hk => hk.2) _) (fun _ _ => trivial)
          · have := blk_put (cs := #[.int .i64 n, .slice A (ints (setsUpto P i)).length c]) hB1.out 1 (.slice A1 ((ints (setsUpto P i)).length + 1) c1) rfl
            simpa using this
    · obtain rfl : i = p := by omega
      have hc1_0 : wr.cell? ⟨w.heap.size + 1, 0, none⟩ = some (.int .i64 n) := (blk_cell HB1.out 0).trans rfl
      have hc1_1 : wr.cell? ⟨w.heap.size + 1, 1, none⟩ = some (.slice A (ints (setsUpto P i)).length c) := (blk_cell HB1.out 1).trans rfl
      have hc0_0 : wr.cell? ⟨w.heap.size, 0, none⟩ = some (.int .i64 0) := (blk_cell HB0.out 0).trans rfl
      have hc0_1 : wr.cell? ⟨w.heap.size, 1, none⟩ = some (.slice none 0 0) := (blk_cell HB0.out 1).trans rfl
      have hf0_0 := blk_frozen HB0.out 0
      have hf0_1 := blk_frozen HB0.out 1
      go_wp2_with fail
      refine bodyPost_ret (results_cell_row rfl _ _ w.heap.size 28 #[.int .i64 n, .slice A (ints (setsUpto P i)).length c] (0, 0) _ rfl (by refine blk_put (cs := #[.int .i64 n, .slice none 0 0]) ?_ 1 _ rfl; refine blk_put (cs := #[.int .i64 0, .slice none 0 0]) ?_ 0 _ rfl; exact HB0.out) Try.underlying28 rfl (by kernel_rfl)) rfl ?_
      refine ⟨_, rfl, ?_, by repeat (first | exact HB.out | refine below_set ?_ (Nat.le_refl _))⟩
      exact Kd.R_mono (Kd.R_far (p := ⟨w.heap.size, 1, none⟩) (Kd.R_far (p := ⟨w.heap.size, 0, none⟩) (Kd.R_types HO.out HB0.out (by decide)) (fun _ hk => hk.2) _) (fun _ hk => hk.2) _) (fun _ _ => trivial)
theorem yes_calls (x : Int) (w : World) : Calls Try.prog 145 #[.int .i64 x] w fun e w' => e = .returned (.bool true) ∧ Below w.heap.size w w' := by
  go_enter Try.func145, Try.ntmps145
  go_wp2_with fail
  go_ret
  exact ⟨rfl, Below.refl _ _⟩
theorem setsUpto_true (k : Nat) : setsUpto (fun _ => true) k = List.range k := by simp [setsUpto]
theorem isSize_small (n : Nat) (h1 : 1 ≤ n) (h7 : n ≤ 7) : impl_isSize.f (n : Int) = some true := by
  unfold impl_isSize.f impl_within.f
  rw [if_pos (by omega)]; simp; omega
/-- the space of all sets -/
theorem free_calls (n : Nat) (h1 : 1 ≤ n) (h7 : n ≤ 7) (w : World) : Calls Try.prog 136 #[.int .i64 (n : Int)] w fun e w' => ∃ v, e = .returned (.tuple #[.agg #[.int .i64 n, v], .bool true]) ∧ Kd.R (Kd.int .i64) 3 w' w.heap.size (fun _ => True) v (ints (List.range (2 ^ n))) ∧ Below w.heap.size w w' := by
  have hu := Try.underlying28
  have HS := Aside0.mk (isSize_small n h1 h7)
  clear h1
  go_enter Try.func136, Try.ntmps136
  go_wp2_with fail
  refine (impl_isSize.calls (n : Int) true _ HS.out).mono ?_
  rintro e w1 ⟨rfl, hb⟩
  have hb0 := Aside0.mk (blk_below (blk_new w _) hb.below)
  have HB1 := Aside0.mk (below_step (below_alloc (Below.refl _ w) _) hb.below)
  have hz : w.heap.size < w1.heap.size := blk_lt hb0.out
  clear hb
  go_wp2_with fail
  refine (those_calls 145 #[] (fun _ => true) n h7 _ (enters_ (by rw [Try.func145]) (by decide) (by decide)) (fun x _ W _ => yes_calls x W)).mono ?_
  rintro e w2 ⟨v, rfl, ho, hb⟩
  rw [setsUpto_true] at ho
  obtain ⟨A, c, rfl⟩ := Kd.R_slice ho
  have HO := Aside0.mk ho
  have hb1 := Aside0.mk (blk_below hb0.out hb)
  have HB2 := Aside0.mk (below_step HB1.out hb)
  have hf1 := blk_frozen hb1.out 0
  have hf2 := blk_frozen hb1.out 1
  have hc1 : w2.cell? ⟨w.heap.size, 0, none⟩ = some (.int .i64 0) := (blk_cell hb1.out 0).trans rfl
  have hc2 : w2.cell? ⟨w.heap.size, 1, none⟩ = some (.slice none 0 0) := (blk_cell hb1.out 1).trans rfl
  clear ho hb
  go_wp2_with fail
  refine bodyPost_ret (results_ct rfl _ _ w.heap.size 28 #[.int .i64 n, .slice A (ints (List.range (2 ^ n))).length c] (0, 0) _ rfl (by refine blk_put (cs := #[.int .i64 n, .slice none 0 0]) ?_ 1 _ rfl; refine blk_put (cs := #[.int .i64 0, .slice none 0 0]) ?_ 0 _ rfl; exact hb1.out) Try.underlying28 rfl (by kernel_rfl)) rfl ?_
  refine ⟨_, rfl, ?_, by repeat (first | exact HB2.out | refine below_set ?_ (Nat.le_refl _))⟩
  exact Kd.R_mono (Kd.R_far (p := ⟨w.heap.size, 1, none⟩) (Kd.R_far (p := ⟨w.heap.size, 0, none⟩) (Kd.R_types (Kd.R_lower HO.out HB1.out.size) hb1.out (by decide)) (fun _ hk => hk.2) _) (fun _ hk => hk.2) _) (fun _ _ => trivial)
end Go.Proofs.Ytjhjphgdjhahlaa.P
/- impl's fringes: 'inner' and 'outer' of a family. -/
namespace Go.Proofs.Ytjhjphgdjhahlaa.P
open Go.RowKit Go.Proofs.YtjhjphgdjhahlaaW.PrintWords Go.Proofs.YtjhjphgdjhahlaaW.PrintLast Go.Proofs.YtjhjphgdjhahlaaW.PrintMore
set_option linter.unusedVariables false
set_option maxHeartbeats 800000
set_option maxRecDepth 100000

theorem items_pure (x : Nat) (hx : x < 128) : impl_items.f 8 (x : Int) = some (ints (itemsOf x)) := by
  have : ∀ x, x < 128 → impl_items.f 8 ((x : Nat) : Int) = some (ints (itemsOf x)) := by decide +kernel
  exact this x hx

theorem items_get (x : Nat) (j : Nat) (h : j < (itemsOf x).length) : ∃ i, i < 7 ∧ (itemsOf x)[j]? = some i ∧ (ints (itemsOf x))[j]?.getD 0 = (i : Int) := by
  have hm : (itemsOf x)[j] ∈ itemsOf x := List.getElem_mem h
  refine ⟨(itemsOf x)[j], ?_, by simp [h], by simp [ints, h]⟩
  simp only [itemsOf, List.mem_filter, List.mem_range] at hm
  exact hm.1

theorem inner_calls (g x : Nat) (F : Nat → Bool) (w : World) (hx : x < 128) (hF : FamAt w g F) :
    Calls Try.prog 130 #[.pointer (some ⟨g, 0, none⟩), .int .i64 (x : Int)] w fun e w' => e = .returned (.int .i64 ((inner F x : Nat) : Int)) ∧ Below w.heap.size w w' := by
  have HF := Aside0.mk hF
  clear hF
  go_enter Try.func130, Try.ntmps130
  go_wp2_with (go_at_call 110; refine (impl_items.calls 8 (x : Int) _ w (items_pure x hx)).mono ?_; rintro e w1 ⟨v0, rfl, ho, hb⟩; have HO := Aside0.mk ho; have HB := Aside0.mk hb; clear ho hb; obtain ⟨A, c, rfl⟩ := Kd.R_slice HO.out)
  have hlen : (ints (itemsOf x)).length = (itemsOf x).length := by simp [ints]
  have hl7 : (itemsOf x).length ≤ 7 := List.length_filter_le _ _
  have HLEN := Aside0.mk hlen
  clear hlen

  go_loopg [5, 11] (itemsOf x).length (fun kq v5 v11 w' => ∃ i : Nat, v11 = .int .i64 i ∧ v5 = .int .i64 ((innerF F x ((itemsOf x).take i) : Nat) : Int) ∧ i ≤ (itemsOf x).length ∧ Aside0 (kq = (itemsOf x).length - i) ∧ Aside0 (Below w1.heap.size w1 w'))
  case atStart => exact ⟨0, rfl, rfl, Nat.zero_le _, ⟨rfl⟩, ⟨Below.refl _ _⟩⟩
  case round =>
    obtain ⟨i, rfl, rfl, hi, HK, HB1⟩ := hrel
    by_cases hlt : i < (itemsOf x).length
    · obtain ⟨a, ha, hg, hg2⟩ := items_get x i hlt
      obtain ⟨ad, e1, hx1⟩ := int_at ((Kd.R_reads' HO.out).2.2) i (by rw [HLEN.out]; exact hlt)
      cases e1
      rw [hg2] at hx1
      replace hx1 := pw_cell_below HB1.out hx1
      have HLT : i < (ints (itemsOf x)).length := by rw [HLEN.out]; exact hlt
      have hF1 := (HF.out.below HB.out).below HB1.out
      obtain ⟨p, hp1, hp2, hp⟩ := bit_letter a (by omega)
      obtain ⟨q, hq⟩ : ∃ q, wout x a = q := ⟨_, rfl⟩
      have hq1 : Go.bits .andNot .i64 (x : Int) p = (q : Int) := by rw [hp, ← hq]; exact go_wout x a hx ha
      have hq2 : q < 128 := by rw [← hq]; exact wout_lt x a hx
      have hor : ∀ o : Nat, o < 128 → Go.bits .or .i64 (o : Int) p = ((wth o a : Nat) : Int) := fun o ho => by rw [hp]; exact go_wth o a ho ha
      have hcell := hF1.cell q hq2
      have hol := innerF_lt F x ((itemsOf x).take i) (by intro j hj; have := List.mem_of_mem_take hj; simp [itemsOf] at this; exact this.1)
      obtain ⟨o, ho⟩ : ∃ o, innerF F x ((itemsOf x).take i) = o := ⟨_, rfl⟩
      rw [ho] at hol
      have hor1 := hor o hol
      have HQ := Aside0.mk hq
      have HO1 := Aside0.mk ho
      have HOR := Aside0.mk hor
      rw [ho]
      obtain ⟨b, hb⟩ : ∃ b, F q = b := ⟨_, rfl⟩
      rw [hb] at hcell
      have HBB := Aside0.mk hb
      have HG := Aside0.mk hg
      have htk : (itemsOf x).take (i + 1) = (itemsOf x).take i ++ [a] := by
        rw [List.take_add_one, hg]; rfl
      have HTK := Aside0.mk htk
      clear hF1 hp hq ho hor hb hg htk
      cases b
      all_goals
        go_wp2
        go_quiet (fail)
        go_wp2
        go_roundg ((itemsOf x).length - (i + 1))
        case measure => have := HK.out; omega
        case rel =>
          refine ⟨i + 1, by go_num, ?_, by omega, ⟨rfl⟩, ⟨by repeat (first | exact HB1.out | apply pw_below_drewN)⟩⟩
          rw [HTK.out, innerF_snoc, HQ.out, HBB.out, HO1.out]
          simp
    · have hi2 : i = (itemsOf x).length := by omega
      have HI := Aside0.mk hi2
      have hge : ¬ i < (ints (itemsOf x)).length := by rw [HLEN.out]; exact hlt
      clear hi2
      go_wp2
      go_ret
      refine ⟨?_, below_then HB.out HB.out.size HB1.out⟩
      rw [HI.out, List.take_length]; rfl
theorem outer_calls (g x : Nat) (F : Nat → Bool) (w : World) (hx : x < 128) (hF : FamAt w g F) :
    Calls Try.prog 111 #[.pointer (some ⟨g, 0, none⟩), .int .i64 (x : Int)] w fun e w' => e = .returned (.int .i64 ((outer F x : Nat) : Int)) ∧ Below w.heap.size w w' := by
  have HF := Aside0.mk hF
  clear hF
  go_enter Try.func111, Try.ntmps111
  go_wp2_with fail
  go_loopg [5, 7] 7 (fun kq v5 v7 w' => ∃ i : Nat, v7 = .int .i64 i ∧ v5 = .int .i64 ((outerF F x (List.range i) : Nat) : Int) ∧ i ≤ 7 ∧ Aside0 (kq = 7 - i) ∧ Aside0 (Below w.heap.size w w'))
  case atStart => exact ⟨0, rfl, rfl, Nat.zero_le _, ⟨rfl⟩, ⟨Below.refl _ _⟩⟩
  case round =>
    obtain ⟨i, rfl, rfl, hi, HK, HB1⟩ := hrel
    by_cases hlt : i < 7
    · obtain ⟨p, hp1, hp2, hp⟩ := bit_letter i (by omega)
      obtain ⟨q, hq⟩ : ∃ q, wth x i = q := ⟨_, rfl⟩
      have hq1 : Go.bits .or .i64 (x : Int) p = (q : Int) := by rw [hp, ← hq]; exact go_wth x i hx hlt
      have hq2 : q < 128 := by rw [← hq]; exact wth_lt x i hx hlt
      have hol := outerF_lt F x i hi
      obtain ⟨o, ho⟩ : ∃ o, outerF F x (List.range i) = o := ⟨_, rfl⟩
      rw [ho] at hol
      have hor1 : Go.bits .or .i64 (o : Int) p = ((wth o i : Nat) : Int) := by rw [hp]; exact go_wth o i hol hlt
      have hcell := (HF.out.below HB1.out).cell q hq2
      obtain ⟨sh, hsh, hbit⟩ := shr_letter x i hx (by omega)
      obtain ⟨b, hb⟩ : ∃ b, F q = b := ⟨_, rfl⟩
      rw [hb] at hcell
      obtain ⟨c, hc⟩ : ∃ c, x.testBit i = c := ⟨_, rfl⟩
      rw [hc] at hbit
      have hs := outerF_succ F x i
      rw [hq, hb, ho, hc] at hs
      have HO1 := Aside0.mk ho
      have HS := Aside0.mk hs
      rw [ho]
      clear hp hq ho hb hc hs
      cases c <;> cases b
      all_goals
        simp only [Bool.false_eq_true, if_false, if_true] at hbit
        go_wp2_with fail
        go_quiet (fail)
        go_wp2
        go_roundg (7 - (i + 1))
        case measure => have := HK.out; omega
        case rel =>
          refine ⟨i + 1, by go_num, ?_, by omega, ⟨rfl⟩, ⟨by repeat (first | exact HB1.out | apply pw_below_drewN)⟩⟩
          rw [HS.out]
          simp
    · have hi2 : i = 7 := by omega
      subst hi2
      go_wp2
      go_ret
      exact ⟨rfl, HB1.out⟩
end Go.Proofs.Ytjhjphgdjhahlaa.P
/- impl's IsSpace. -/
namespace Go.Proofs.Ytjhjphgdjhahlaa.P
open Go.RowKit Go.Proofs.YtjhjphgdjhahlaaW.PrintWords Go.Proofs.YtjhjphgdjhahlaaW.PrintLast Go.Proofs.YtjhjphgdjhahlaaW.PrintMore
set_option linter.unusedVariables false
set_option maxHeartbeats 1600000
set_option maxRecDepth 100000

theorem isSize_pure (n : Int) : impl_isSize.f n = some (decide (1 ≤ n ∧ n ≤ 7)) := by
  unfold impl_isSize.f impl_within.f
  by_cases h : 1 ≤ n <;> simp [h]
theorem isSet_pure (n : Nat) (x : Int) (hn : n < 8) : impl_isSet.f (n : Int) x = some (decide (0 ≤ x ∧ x < 2 ^ n)) := by
  have e : wrap64 ((shl .i64 1 (n : Int)) - 1) = ((2 ^ n : Nat) : Int) - 1 := by
    rw [shl_one n hn]
    have : ∀ n, n < 8 → wrap64 (((2 ^ n : Nat) : Int) - 1) = ((2 ^ n : Nat) : Int) - 1 := by decide +kernel
    exact this n hn
  unfold impl_isSet.f impl_within.f
  rw [if_pos (by omega), e]
  have e2 : ((2 ^ n : Nat) : Int) = 2 ^ n := by simp
  by_cases h : 0 ≤ x
  · rw [if_pos h]; simp only [Option.bind_some, e2]; congr 1; rw [decide_eq_decide]; omega
  · rw [if_neg h]; simp [h]
theorem all_pure (n : Nat) (l : List Int) (hn : n < 8) : impl_Space_all.f (n : Int) l = some ((2 ^ n - 1 : Nat) : Int) := by
  unfold impl_Space_all.f
  rw [if_pos (by omega), shl_one n hn]
  have : ∀ n, n < 8 → wrap64 (((2 ^ n : Nat) : Int) - 1) = ((2 ^ n - 1 : Nat) : Int) := by decide +kernel
  rw [this n hn]

theorem IsSpace_calls (n : Int) (A : Option Addr) (c : Nat) (l : List Int) (w : World) (hr : Kd.C (Kd.int .i64) w A l.length l) (hc : l.length ≤ c) :
    Calls Try.prog 89 #[.agg #[.int .i64 n, .slice A l.length c]] w fun e w' => e = .returned (.bool (isSpB n l)) ∧ Below w.heap.size w w' := by
  have hu := Try.underlying28
  have HR := Aside0.mk hr
  have HC := Aside0.mk hc
  clear hr hc
  have hlen := HR.out.2.1
  by_cases h1 : 1 ≤ n ∧ n ≤ 7
  · obtain ⟨h1a, h1b⟩ := h1
    have HS : Aside0 (impl_isSize.f n = some true) := ⟨by rw [isSize_pure, decide_eq_true ⟨h1a, h1b⟩]⟩
    obtain ⟨m, rfl⟩ := Int.eq_ofNat_of_zero_le (show 0 ≤ n by omega)
    have hm1 : 1 ≤ m := by omega
    have hm7 : m ≤ 7 := by omega
    have HE : Aside0 (isSpB (m : Int) l = isSpN m l) := ⟨by unfold isSpB; rw [if_pos ⟨h1a, h1b⟩]; rfl⟩
    clear h1a h1b
    obtain ⟨p, hp1, hp2, hp⟩ := bit_letter m (by omega)
    have HP := Aside0.mk hp
    by_cases hl : p < (l.length : Int)
    · have HN : Aside0 (isSpN m l = false) := ⟨by
        unfold isSpN
        rw [decide_eq_false (by rw [hp] at hl; omega)]; rfl⟩
      clear hp
      go_enter Try.func89, Try.ntmps89
      go_wp2_with fail
      go_quiet (first | (go_at_call 72; (with_reducible refine (impl_isSize.calls (m : Int) true _ HS.out).mono ?_); rintro e w' ⟨rfl, ⟨nd, rfl⟩⟩; exact ⟨rfl, _, World.drewN_drewN _ _ _⟩))
      go_wp2
      go_ret
      exact ⟨by simp [HE.out, HN.out], by repeat (first | exact Below.refl _ _ | apply pw_below_drewN | apply below_alloc)⟩
    · have hd : decide (p < (l.length : Int)) = false := decide_eq_false hl
      have hl2 : (l.length : Int) ≤ p := by omega
      have HL2 : Aside0 (l.length ≤ 2 ^ m) := ⟨by rw [hp] at hl2; omega⟩
      clear hp hl
      go_enter Try.func89, Try.ntmps89
      go_wp2_with fail
      go_quiet (first | (go_at_call 72; (with_reducible refine (impl_isSize.calls (m : Int) true _ HS.out).mono ?_); rintro e w' ⟨rfl, ⟨nd, rfl⟩⟩; exact ⟨rfl, _, World.drewN_drewN _ _ _⟩))
      go_wp2_with fail
      go_loopg [26] l.length (fun kq v26 w' => ∃ i : Nat, v26 = .int .i64 i ∧ i ≤ l.length ∧ Aside0 (kq = l.length - i) ∧ Aside0 (∀ j, j < i → incOk m l j = true) ∧ Aside0 (w'.heap[w.heap.size]? = some (.cells #[.int .i64 (m : Int), .slice A l.length c] 28 (0, 0))) ∧ Aside0 (Below w.heap.size w w'))
      case atStart => exact ⟨0, rfl, Nat.zero_le _, ⟨rfl⟩, ⟨fun j h => by omega⟩, ⟨blk_drewN (heap_alloc_new _ _) _⟩, ⟨pw_below_drewN (below_alloc (Below.refl _ _) _) _⟩⟩
      case round =>
        obtain ⟨i, rfl, hi, HK, HI, HB0, HB⟩ := hrel
        have hc0_0 : wr.cell? ⟨w.heap.size, 0, none⟩ = some (.int .i64 (m : Int)) := (blk_cell HB0.out 0).trans rfl
        have hc0_1 : wr.cell? ⟨w.heap.size, 1, none⟩ = some (.slice A l.length c) := (blk_cell HB0.out 1).trans rfl
        by_cases hlt : i < l.length
        · obtain ⟨ad, e1, hx⟩ := int_at HR.out i hlt
          have hx' : 1 ≤ i → w.cell? (ad.add (i - 1)) = some (.int .i64 (l[i - 1]?.getD 0)) := fun h => by
            obtain ⟨ad', e2, h2⟩ := int_at HR.out (i - 1) (by omega)
            rw [e1] at e2; cases e2; exact h2
          cases e1
          replace hx := pw_cell_below HB.out hx
          obtain ⟨x, hxx⟩ : ∃ x, l[i]?.getD 0 = x := ⟨_, rfl⟩
          rw [hxx] at hx
          have hst := isSet_pure m x (by omega)
          by_cases hset : 0 ≤ x ∧ x < 2 ^ m
          · rw [decide_eq_true hset] at hst
            have HST := Aside0.mk hst
            have HSE := Aside0.mk hset
            clear hst hset
            rcases Nat.eq_zero_or_pos i with h0 | h0
            · subst h0
              have HOK : Aside0 (incOk m l 0 = true) := ⟨by unfold incOk; rw [hxx, decide_eq_true HSE.out]; rfl⟩
              clear hx' hxx
              rw [Addr.add_zero'] at hx
              go_wp2_with (first | (go_at_call 129; (with_reducible refine (impl_isSet.calls (m : Int) x true _ HST.out).mono ?_); rintro e w' ⟨rfl, ⟨nd, rfl⟩⟩))
              go_roundg (l.length - (0 + 1))
              case measure => have := HK.out; omega
              case rel =>
                exact ⟨1, by go_num, by omega, ⟨rfl⟩, ⟨fun j hj => by obtain rfl : j = 0 := (by omega); exact HOK.out⟩, ⟨blk_drewN HB0.out _⟩, ⟨pw_below_drewN HB.out _⟩⟩
            · replace hx' := pw_cell_below HB.out (hx' h0)
              obtain ⟨y, hyy⟩ : ∃ y, l[i - 1]?.getD 0 = y := ⟨_, rfl⟩
              rw [hyy] at hx'
              have hne : ¬ (i : Int) = 0 := by omega
              by_cases hle : x ≤ y
              · have HOK : Aside0 (incOk m l i = false) := ⟨by
                  unfold incOk; rw [hxx, hyy, decide_eq_true HSE.out, decide_eq_false (show ¬ i = 0 by omega), decide_eq_false (show ¬ y < x by omega)]; rfl⟩
                clear hxx hyy
                go_wp2_with (first | (go_at_call 129; (with_reducible refine (impl_isSet.calls (m : Int) x true _ HST.out).mono ?_); rintro e w' ⟨rfl, ⟨nd, rfl⟩⟩))
                go_ret
                refine ⟨?_, pw_below_drewN HB.out _⟩
                have : isSpN m l = false := by unfold isSpN; rw [all_range_false hlt HOK.out]; simp
                simp [HE.out, this]
              · have HOK : Aside0 (incOk m l i = true) := ⟨by
                  unfold incOk; rw [hxx, hyy, decide_eq_true HSE.out, decide_eq_false (show ¬ i = 0 by omega), decide_eq_true (show y < x by omega)]; rfl⟩
                clear hxx hyy
                go_wp2_with (first | (go_at_call 129; (with_reducible refine (impl_isSet.calls (m : Int) x true _ HST.out).mono ?_); rintro e w' ⟨rfl, ⟨nd, rfl⟩⟩))
                go_roundg (l.length - (i + 1))
                case measure => have := HK.out; omega
                case rel =>
                  exact ⟨i + 1, by go_num, by omega, ⟨rfl⟩, ⟨fun j hj => by
                    rcases Nat.lt_or_ge j i with h | h
                    · exact HI.out j h
                    · obtain rfl : j = i := by omega
                      exact HOK.out⟩, ⟨blk_drewN HB0.out _⟩, ⟨pw_below_drewN HB.out _⟩⟩
          · rw [decide_eq_false hset] at hst
            have HST := Aside0.mk hst
            have HOK : Aside0 (incOk m l i = false) := ⟨by unfold incOk; rw [hxx, decide_eq_false hset]; rfl⟩
            clear hst hset hx' hxx
            go_wp2_with (first | (go_at_call 129; (with_reducible refine (impl_isSet.calls (m : Int) x false _ HST.out).mono ?_); rintro e w' ⟨rfl, ⟨nd, rfl⟩⟩))
            go_ret
            refine ⟨?_, pw_below_drewN HB.out _⟩
            have : isSpN m l = false := by unfold isSpN; rw [all_range_false hlt HOK.out]; simp
            simp [HE.out, this]
        · obtain rfl : i = l.length := by omega
          have HV : Aside0 (∀ x ∈ l, 0 ≤ x ∧ x < 2 ^ m) := ⟨by
            intro x hx
            obtain ⟨j, hj, rfl⟩ := List.getElem_of_mem hx
            have := HI.out j hj
            simp only [incOk, Bool.and_eq_true, decide_eq_true_eq, List.getElem?_eq_getElem hj, Option.getD_some] at this
            exact this.1⟩
          have HV2 : Aside0 (∀ x ∈ l, 0 ≤ x ∧ x < 128) := ⟨fun x hx => ⟨(HV.out x hx).1, Int.lt_of_lt_of_le (HV.out x hx).2 (by
            have : (2 : Nat) ^ m ≤ 2 ^ 7 := Nat.pow_le_pow_right (by omega) hm7
            have h2 : ((2 ^ m : Nat) : Int) = 2 ^ m := by simp
            rw [← h2]; omega)⟩⟩
          go_wp2_with fail
          refine (family_calls (m : Int) A l c _ (Kd.C_below HR.out HB.out) HV2.out).mono ?_
          rintro e w1 ⟨g, rfl, hF, hb, hg⟩
          have HB0' := Aside0.mk (blk_below HB0.out hb)
          have HB' := Aside0.mk (below_step HB.out hb)
          have HF := Aside0.mk hF
          have HG := Aside0.mk hg
          clear hF hb hg hc0_0 hc0_1 HB0 HB
          have hc0_0 : w1.cell? ⟨w.heap.size, 0, none⟩ = some (.int .i64 (m : Int)) := (blk_cell HB0'.out 0).trans rfl
          have hc0_1 : w1.cell? ⟨w.heap.size, 1, none⟩ = some (.slice A l.length c) := (blk_cell HB0'.out 1).trans rfl
          have hf0 := HF.out.cell 0 (by omega)
          obtain ⟨b, hb⟩ : ∃ b, famOf l 0 = b := ⟨_, rfl⟩
          rw [hb] at hf0
          have HBV := Aside0.mk hb
          clear hb
          cases b
          · go_wp2_with fail
            go_quiet (fail)
            go_wp2
            go_ret
            refine ⟨?_, pw_below_drewN HB'.out _⟩
            have : isSpN m l = false := by unfold isSpN; rw [HBV.out]; simp
            simp [HE.out, this]
          · have hq : 2 ^ m - 1 < 128 := by
              have : (2 : Nat) ^ m ≤ 2 ^ 7 := Nat.pow_le_pow_right (by omega) hm7
              omega
            obtain ⟨q, hqq⟩ : ∃ q, 2 ^ m - 1 = q := ⟨_, rfl⟩
            have HAL := Aside0.mk (all_pure m l (by omega))
            rw [hqq] at hq HAL
            have HQ := Aside0.mk hqq
            clear hqq
            obtain ⟨b, hb⟩ : ∃ b, famOf l q = b := ⟨_, rfl⟩
            have HBQ := Aside0.mk hb
            clear hb
            cases b
            · go_wp2_with fail
              go_region_with (go_at_call 109; refine (impl_Space_all.calls (m : Int) A c l (q : Int) _ (Kd.C_drew (Kd.C_below HR.out HB'.out)) HC.out HAL.out).mono ?_; rintro e w2 ⟨rfl, hb⟩; have hF1 := Aside0.mk (HF.out.drew.below hb); have hb0 := Aside0.mk (blk_below (blk_drew HB0'.out) hb); have hbb := Aside0.mk (below_step (below_drew1 HB'.out) hb); have hcq := hF1.out.cell q hq; rw [HBQ.out] at hcq; clear hb)
              go_wp2
              go_ret
              refine ⟨?_, hbb.out⟩
              have : isSpN m l = false := by unfold isSpN; rw [HQ.out, HBQ.out]; simp
              simp [HE.out, this]
            · go_wp2_with fail
              go_region_with (go_at_call 109; refine (impl_Space_all.calls (m : Int) A c l (q : Int) _ (Kd.C_drew (Kd.C_below HR.out HB'.out)) HC.out HAL.out).mono ?_; rintro e w2 ⟨rfl, hb⟩; have hF1 := Aside0.mk (HF.out.drew.below hb); have hb0 := Aside0.mk (blk_below (blk_drew HB0'.out) hb); have hbb := Aside0.mk (below_step (below_drew1 HB'.out) hb); have hcq := hF1.out.cell q hq; rw [HBQ.out] at hcq; clear hb)
              clear hc0_0 hc0_1 hf0 hcq
              obtain ⟨w3, hw3⟩ : ∃ w3 : World, w3 = w2 := ⟨_, rfl⟩
              subst hw3
              have hc0_0 : w3.cell? ⟨w.heap.size, 0, none⟩ = some (.int .i64 (m : Int)) := (blk_cell hb0.out 0).trans rfl
              have hc0_1 : w3.cell? ⟨w.heap.size, 1, none⟩ = some (.slice A l.length c) := (blk_cell hb0.out 1).trans rfl
              go_wp2_with fail
              have HR2 := HR
              have HIN : Aside0 (isSpN m l = l.all (rowOk (famOf l) l)) := ⟨by
                unfold isSpN
                rw [decide_eq_true HL2.out, all_range_true (fun j hj => HI.out j hj), HBV.out, HQ.out, HBQ.out]; simp⟩
              clear HI HK HF hc0_0 hc0_1
              go_loopg [70] l.length (fun kq v70 w' => ∃ i : Nat, v70 = .int .i64 i ∧ i ≤ l.length ∧ Aside0 (kq = l.length - i) ∧ Aside0 (∀ j (hj : j < l.length), j < i → rowOk (famOf l) l l[j] = true) ∧ Aside0 (FamAt w' g (famOf l)) ∧ Aside0 (w'.heap[w.heap.size]? = some (.cells #[.int .i64 (m : Int), .slice A l.length c] 28 (0, 0))) ∧ Aside0 (Below w.heap.size w w'))
              case atStart => exact ⟨0, rfl, Nat.zero_le _, ⟨rfl⟩, ⟨fun j _ h => by omega⟩, hF1, hb0, hbb⟩
              case round =>
                clear hF1 hb0 hbb HB0' HB'
                obtain ⟨i, rfl, hi, HK, HI, HF, HB0, HB⟩ := hrel
                have hc0_0 : wr.cell? ⟨w.heap.size, 0, none⟩ = some (.int .i64 (m : Int)) := (blk_cell HB0.out 0).trans rfl
                have hc0_1 : wr.cell? ⟨w.heap.size, 1, none⟩ = some (.slice A l.length c) := (blk_cell HB0.out 1).trans rfl
                by_cases hlt : i < l.length
                · obtain ⟨ad, e1, hx⟩ := int_at HR.out i hlt
                  cases e1
                  replace hx := pw_cell_below HB.out hx
                  have hm := HV2.out (l[i]) (List.getElem_mem hlt)
                  obtain ⟨k, hk1⟩ := Int.eq_ofNat_of_zero_le hm.1
                  have hk2 : k < 128 := by have := hm.2; rw [hk1] at this; omega
                  have hgd : l[i]?.getD 0 = (k : Int) := by simp [hlt, hk1]
                  rw [hgd] at hx
                  have HK1 := Aside0.mk hk1
                  clear hm hk1 hgd
                  have hinl := inner_lt (famOf l) k
                  have HX := Aside0.mk (show l[i].toNat = k by rw [HK1.out]; simp)
                  have HRW : Aside0 (rowOk (famOf l) l l[i] = ((decide (l[i] = 0) || decide (inner (famOf l) k ≠ 0)) && orOk (famOf l) l k)) := ⟨by unfold rowOk; rw [HX.out]⟩
                  by_cases hk0 : k = 0 ∨ inner (famOf l) k ≠ 0
                  · have HRO : Aside0 (rowOk (famOf l) l l[i] = orOk (famOf l) l k) := ⟨by
                      rw [HRW.out]
                      rcases hk0 with h | h
                      · rw [decide_eq_true (show l[i] = 0 by rw [HK1.out, h]; rfl)]; simp
                      · rw [decide_eq_true h]; simp⟩
                    obtain ⟨v, hv⟩ : ∃ v, inner (famOf l) k = v := ⟨_, rfl⟩
                    have HVV := Aside0.mk hv
                    rw [hv] at hk0 hinl
                    clear hv
                    rcases Nat.eq_zero_or_pos k with h0 | h0
                    · have hkb : ((k : Int) != 0) = false := by simp [h0]
                      have HH0 := Aside0.mk h0
                      clear h0 hk0
                      go_wp2_with fail
                      have HF4 := HF
                      have HB04 := HB0
                      have HB4 := HB
                      clear HF HB0 HB
                      go_loopg [85] l.length (fun kq v85 w' => ∃ j : Nat, v85 = .int .i64 j ∧ j ≤ l.length ∧ Aside0 (kq = l.length - j) ∧ Aside0 (∀ j' (hj : j' < l.length), j' < j → famOf l (k ||| l[j'].toNat) = true) ∧ Aside0 (FamAt w' g (famOf l)) ∧ Aside0 (w'.heap[w.heap.size]? = some (.cells #[.int .i64 (m : Int), .slice (some ad) l.length c] 28 (0, 0))) ∧ Aside0 (Below w.heap.size w w'))
                      case atStart => exact ⟨0, rfl, Nat.zero_le _, ⟨rfl⟩, ⟨fun j _ h => by omega⟩, HF4, HB04, HB4⟩
                      case round =>
                        clear HF4 HB04 HB4 hc0_0 hc0_1
                        obtain ⟨j, rfl, hj, HKJ, HJ, HF5, HB05, HB5⟩ := hrel
                        have hc0_0 : wr.cell? ⟨w.heap.size, 0, none⟩ = some (.int .i64 (m : Int)) := (blk_cell HB05.out 0).trans rfl
                        have hc0_1 : wr.cell? ⟨w.heap.size, 1, none⟩ = some (.slice (some ad) l.length c) := (blk_cell HB05.out 1).trans rfl
                        by_cases hjt : j < l.length
                        · obtain ⟨ad', e2, hy⟩ := int_at HR.out j hjt
                          cases e2
                          replace hy := pw_cell_below HB5.out hy
                          have hm := HV2.out (l[j]) (List.getElem_mem hjt)
                          obtain ⟨y, hy1⟩ := Int.eq_ofNat_of_zero_le hm.1
                          have hy2 : y < 128 := by have := hm.2; rw [hy1] at this; omega
                          have hgd : l[j]?.getD 0 = (y : Int) := by simp [hjt, hy1]
                          rw [hgd] at hy
                          have hgo := go_or k y hk2 hy2
                          have hq2 : k ||| y < 128 := Nat.or_lt_two_pow (n := 7) hk2 hy2
                          obtain ⟨q2, hq2e⟩ : ∃ q2, k ||| y = q2 := ⟨_, rfl⟩
                          rw [hq2e] at hgo hq2
                          have hcq := HF5.out.cell q2 hq2
                          obtain ⟨b, hb⟩ : ∃ b, famOf l q2 = b := ⟨_, rfl⟩
                          rw [hb] at hcq
                          have HFY : Aside0 (famOf l (k ||| l[j].toNat) = b) := ⟨by rw [hy1, Int.toNat_natCast, hq2e, hb]⟩
                          clear hm hy1 hgd hq2e hb
                          cases b
                          · go_wp2
                            go_ret
                            refine ⟨?_, HB5.out⟩
                            have h1 : orOk (famOf l) l k = false := all_at_false hjt HFY.out
                            have : l.all (rowOk (famOf l) l) = false := all_at_false hlt (HRO.out.trans h1)
                            simp [HE.out, HIN.out, this]
                          · go_wp2
                            go_roundg (l.length - (j + 1))
                            case measure => have := HKJ.out; omega
                            case rel =>
                              exact ⟨j + 1, by go_num, by omega, ⟨rfl⟩, ⟨fun j' hj' h => by
                                rcases Nat.lt_or_ge j' j with h' | h'
                                · exact HJ.out j' hj' h'
                                · obtain rfl : j' = j := by omega
                                  exact HFY.out⟩, HF5, HB05, HB5⟩
                        · obtain rfl : j = l.length := by omega
                          go_wp2
                          go_roundg (l.length - (i + 1))
                          case measure => have := HK.out; omega
                          case rel =>
                            exact ⟨i + 1, by go_num, by omega, ⟨rfl⟩, ⟨fun j' hj' h => by
                              rcases Nat.lt_or_ge j' i with h' | h'
                              · exact HI.out j' hj' h'
                              · obtain rfl : j' = i := by omega
                                exact HRO.out.trans (all_at_true fun z hz => HJ.out z hz hz)⟩, HF5, HB05, HB5⟩
                    · have hkb : ((k : Int) != 0) = true := by simp; omega
                      have hv0 : 0 < v := by omega
                      have hvb : ((v : Int) == 0) = false := by simp; omega
                      clear hk0
                      go_wp2_with fail
                      refine (inner_calls g k (famOf l) wr hk2 HF.out).mono ?_
                      rintro e w4 ⟨rfl, hb4⟩
                      rw [HVV.out]
                      have hb04 := blk_below HB0.out hb4
                      have HB4 := Aside0.mk (below_step HB.out hb4)
                      have HF4 := Aside0.mk (HF.out.below hb4)
                      clear hc0_0 hc0_1 HF HB0 HB hb4
                      have hc0_0 : w4.cell? ⟨w.heap.size, 0, none⟩ = some (.int .i64 (m : Int)) := (blk_cell hb04 0).trans rfl
                      have hc0_1 : w4.cell? ⟨w.heap.size, 1, none⟩ = some (.slice (some ad) l.length c) := (blk_cell hb04 1).trans rfl
                      have HB04 := Aside0.mk hb04
                      clear hb04
                      go_wp2_with fail
                      go_loopg [85] l.length (fun kq v85 w' => ∃ j : Nat, v85 = .int .i64 j ∧ j ≤ l.length ∧ Aside0 (kq = l.length - j) ∧ Aside0 (∀ j' (hj : j' < l.length), j' < j → famOf l (k ||| l[j'].toNat) = true) ∧ Aside0 (FamAt w' g (famOf l)) ∧ Aside0 (w'.heap[w.heap.size]? = some (.cells #[.int .i64 (m : Int), .slice (some ad) l.length c] 28 (0, 0))) ∧ Aside0 (Below w.heap.size w w'))
                      case atStart => exact ⟨0, rfl, Nat.zero_le _, ⟨rfl⟩, ⟨fun j _ h => by omega⟩, HF4, HB04, HB4⟩
                      case round =>
                        clear HF4 HB04 HB4 hc0_0 hc0_1
                        obtain ⟨j, rfl, hj, HKJ, HJ, HF5, HB05, HB5⟩ := hrel
                        have hc0_0 : wr.cell? ⟨w.heap.size, 0, none⟩ = some (.int .i64 (m : Int)) := (blk_cell HB05.out 0).trans rfl
                        have hc0_1 : wr.cell? ⟨w.heap.size, 1, none⟩ = some (.slice (some ad) l.length c) := (blk_cell HB05.out 1).trans rfl
                        by_cases hjt : j < l.length
                        · obtain ⟨ad', e2, hy⟩ := int_at HR.out j hjt
                          cases e2
                          replace hy := pw_cell_below HB5.out hy
                          have hm := HV2.out (l[j]) (List.getElem_mem hjt)
                          obtain ⟨y, hy1⟩ := Int.eq_ofNat_of_zero_le hm.1
                          have hy2 : y < 128 := by have := hm.2; rw [hy1] at this; omega
                          have hgd : l[j]?.getD 0 = (y : Int) := by simp [hjt, hy1]
                          rw [hgd] at hy
                          have hgo := go_or k y hk2 hy2
                          have hq2 : k ||| y < 128 := Nat.or_lt_two_pow (n := 7) hk2 hy2
                          obtain ⟨q2, hq2e⟩ : ∃ q2, k ||| y = q2 := ⟨_, rfl⟩
                          rw [hq2e] at hgo hq2
                          have hcq := HF5.out.cell q2 hq2
                          obtain ⟨b, hb⟩ : ∃ b, famOf l q2 = b := ⟨_, rfl⟩
                          rw [hb] at hcq
                          have HFY : Aside0 (famOf l (k ||| l[j].toNat) = b) := ⟨by rw [hy1, Int.toNat_natCast, hq2e, hb]⟩
                          clear hm hy1 hgd hq2e hb
                          cases b
                          · go_wp2
                            go_ret
                            refine ⟨?_, HB5.out⟩
                            have h1 : orOk (famOf l) l k = false := all_at_false hjt HFY.out
                            have : l.all (rowOk (famOf l) l) = false := all_at_false hlt (HRO.out.trans h1)
                            simp [HE.out, HIN.out, this]
                          · go_wp2
                            go_roundg (l.length - (j + 1))
                            case measure => have := HKJ.out; omega
                            case rel =>
                              exact ⟨j + 1, by go_num, by omega, ⟨rfl⟩, ⟨fun j' hj' h => by
                                rcases Nat.lt_or_ge j' j with h' | h'
                                · exact HJ.out j' hj' h'
                                · obtain rfl : j' = j := by omega
                                  exact HFY.out⟩, HF5, HB05, HB5⟩
                        · obtain rfl : j = l.length := by omega
                          go_wp2
                          go_roundg (l.length - (i + 1))
                          case measure => have := HK.out; omega
                          case rel =>
                            exact ⟨i + 1, by go_num, by omega, ⟨rfl⟩, ⟨fun j' hj' h => by
                              rcases Nat.lt_or_ge j' i with h' | h'
                              · exact HI.out j' hj' h'
                              · obtain rfl : j' = i := by omega
                                exact HRO.out.trans (all_at_true fun z hz => HJ.out z hz hz)⟩, HF5, HB05, HB5⟩
                  · have h0 : 0 < k := by omega
                    have hv0 : inner (famOf l) k = 0 := by omega
                    have hkb : ((k : Int) != 0) = true := by simp; omega
                    have HRO : Aside0 (rowOk (famOf l) l l[i] = false) := ⟨by
                      rw [HRW.out, hv0, decide_eq_false (show ¬ l[i] = 0 by rw [HK1.out]; omega)]; simp⟩
                    have HVV := Aside0.mk hv0
                    clear hk0 hv0 hinl
                    go_wp2_with fail
                    refine (inner_calls g k (famOf l) wr hk2 HF.out).mono ?_
                    rintro e w4 ⟨rfl, hb4⟩
                    rw [HVV.out]
                    have HB4 := Aside0.mk (below_step HB.out hb4)
                    clear hb4
                    go_wp2
                    go_ret
                    refine ⟨?_, HB4.out⟩
                    have : l.all (rowOk (famOf l) l) = false := all_at_false hlt HRO.out
                    simp [HE.out, HIN.out, this]
                · obtain rfl : i = l.length := by omega
                  go_wp2
                  go_ret
                  refine ⟨?_, HB.out⟩
                  have : l.all (rowOk (famOf l) l) = true := all_at_true fun j hj => HI.out j hj hj
                  simp [HE.out, HIN.out, this]
  · have HS : Aside0 (impl_isSize.f n = some false) := ⟨by rw [isSize_pure, decide_eq_false h1]⟩
    have HE : Aside0 (isSpB n l = false) := ⟨if_neg h1⟩
    clear h1
    go_enter Try.func89, Try.ntmps89
    go_wp2_with fail
    go_quiet (first | (go_at_call 72; (with_reducible refine (impl_isSize.calls n false _ HS.out).mono ?_); rintro e w' ⟨rfl, ⟨nd, rfl⟩⟩; exact ⟨rfl, _, World.drewN_drewN _ _ _⟩))
    go_wp2
    go_ret
    exact ⟨by simp [HE.out], by repeat (first | exact Below.refl _ _ | apply pw_below_drewN | apply below_alloc)⟩

def impl_IsSpace.f (a0_0 : Int) (l0_1 : List Int) : Option Bool := some (isSpB a0_0 l0_1)
theorem impl_IsSpace.calls (a0_0 : Int) (A0_1 : Option Addr) (c0_1 : Nat) (l0_1 : List Int) (r : Bool) (w : World) (hr0_1 : Kd.C (Kd.int .i64) w A0_1 l0_1.length l0_1) (hc0_1 : l0_1.length ≤ c0_1) (h : impl_IsSpace.f a0_0 l0_1 = some r) :
    Calls Try.prog 89 #[.agg #[.int .i64 a0_0, .slice A0_1 l0_1.length c0_1]] w fun e w' => e = .returned (.bool r) ∧ Below w.heap.size w w' := by
  obtain rfl := Option.some.inj h
  exact IsSpace_calls a0_0 A0_1 c0_1 l0_1 w hr0_1 hc0_1
end Go.Proofs.Ytjhjphgdjhahlaa.P
