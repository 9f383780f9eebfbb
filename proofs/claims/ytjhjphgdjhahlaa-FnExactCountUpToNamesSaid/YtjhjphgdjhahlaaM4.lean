/- Texts of this claim, put together: XSpacesL, XSpaces, Q9, XFamily, XAlSpaces, XSame, XSp, XSpLeast, PureFnExactCountUpToNames, LawFnExactCountUpToNames. -/
import Derived.Test.YtjhjphgdjhahlaaM0
import Derived.Test.YtjhjphgdjhahlaaM2
import Derived.Test.YtjhjphgdjhahlaaM3
import Derived.Test.YtjhjphgdjhahlaaM1
import Derived.Test.YtjhjphgdjhahlaaRows
import Derived.WalkKit
import Derived.ProofKit
import Derived.OpenShut
import Derived.ShutString
import Derived.ChangeOld
import Derived.Below
import Derived.SizedLaws
/- impl's 'spaces' up to its sort: the loops, as printed for this claim (pr1.py); the sort by XSort. -/
namespace Go.Proofs.Ytjhjphgdjhahlaa.P
open Go.RowKit Go.Proofs.YtjhjphgdjhahlaaW.PrintWords Go.Proofs.YtjhjphgdjhahlaaW.PrintLast Go.Proofs.YtjhjphgdjhahlaaW.PrintMore
attribute [local go_sem] max2_int min2_int max_two min_two max_three min_three max_four min_four
set_option linter.unusedVariables false
set_option linter.unusedSimpArgs false
theorem infoSp : (Try.prog.info? 28).map (fun i => (i.zero, i.size, i.bytes)) = some (some (.agg #[(.int .i64 0), (.slice none 0 0)]), 2, 32) := by kernel_rfl
mutual
def spacesL.l0 : Nat → Int → List (S28) → Int → Int → Int → Option ((List (S28)))
  | 0, _, _, _, _, _ => none
  | k + 1, x0, x3, x4, x15, x16 => if x16 < x15 then (spacesL.l1 k x0 x3 x4 x16 1 x15 x16 x0 (([0] : List Int))) else (some x3)
def spacesL.l1 : Nat → Int → List (S28) → Int → Int → Int → Int → Int → Int → List Int → Option ((List (S28)))
  | 0, _, _, _, _, _, _, _, _, _ => none
  | k + 1, x0, x3, x4, x5, x7, x15, x16, x164000, x164001 => if x7 < x4 then (if 0 ≤ (wrap64 (x7 - 1)) then (if (Go.bits .and .i64 (shr .i64 x5 (wrap64 (x7 - 1))) 1) = 1 then (if x164001.length < 17592186044416 then (spacesL.l1 k x0 x3 x4 x5 (wrap64 (x7 + 1)) x15 x16 x164000 (x164001 ++ [x7])) else (none)) else (spacesL.l1 k x0 x3 x4 x5 (wrap64 (x7 + 1)) x15 x16 x164000 x164001)) else (none)) else (if x164001.length < 17592186044416 then ((some (x164001 ++ [x4] : List Int)).bind fun y167 => ((impl_IsSpace.f x164000 y167).bind fun t170 => (if t170 = true then (if x3.length < 4398046511104 then (spacesL.l0 k x0 (x3 ++ [(⟨x164000, y167⟩ : S28)]) x4 x15 (wrap64 (x16 + 1))) else (none)) else (spacesL.l0 k x0 x3 x4 x15 (wrap64 (x16 + 1)))))) else (none))
end
def spacesL.f (k : Nat) (a0 : Int) : Option ((List (S28))) := if 0 ≤ a0 then (if 0 ≤ (IntKind.u64.wrap ((shl .u64 1 a0) - 2)) then (spacesL.l0 k a0 (([] : List (S28))) (wrap64 ((shl .i64 1 a0) - 1)) (shl .i64 1 (IntKind.u64.wrap ((shl .u64 1 a0) - 2))) 0) else (none)) else (none)
theorem spacesL.mono_l : ∀ k, (∀ y0 y1 y2 y3 y4, LeO (spacesL.l0 k y0 y1 y2 y3 y4) (spacesL.l0 (k + 1) y0 y1 y2 y3 y4)) ∧ (∀ y0 y1 y2 y3 y4 y5 y6 y7 y8, LeO (spacesL.l1 k y0 y1 y2 y3 y4 y5 y6 y7 y8) (spacesL.l1 (k + 1) y0 y1 y2 y3 y4 y5 y6 y7 y8))
  | 0 => ⟨fun _ _ _ _ _ r h => by simp [spacesL.l0] at h, fun _ _ _ _ _ _ _ _ _ r h => by simp [spacesL.l1] at h⟩
  | k + 1 => by
    obtain ⟨ih0, ih1⟩ := spacesL.mono_l k
    refine ⟨?_, ?_⟩
    · intro y0 y1 y2 y3 y4
      unfold spacesL.l0
      repeat' first
      | (with_reducible exact ih0 _ _ _ _ _)
      | (with_reducible exact ih1 _ _ _ _ _ _ _ _ _)
      | (with_reducible exact LeO.refl _)
      | (with_reducible exact LeO.none _)
      | (with_reducible refine LeO.ite ?_ ?_)
      | (with_reducible refine LeO.bind ?_ (fun _ => ?_))
      | exact ih0 _ _ _ _ _
      | exact ih1 _ _ _ _ _ _ _ _ _
      | exact LeO.none _
      | refine LeO.ite ?_ ?_
      | refine LeO.bind ?_ (fun _ => ?_)
    · intro y0 y1 y2 y3 y4 y5 y6 y7 y8
      unfold spacesL.l1
      repeat' first
      | (with_reducible exact ih0 _ _ _ _ _)
      | (with_reducible exact ih1 _ _ _ _ _ _ _ _ _)
      | (with_reducible exact LeO.refl _)
      | (with_reducible exact LeO.none _)
      | (with_reducible refine LeO.ite ?_ ?_)
      | (with_reducible refine LeO.bind ?_ (fun _ => ?_))
      | exact ih0 _ _ _ _ _
      | exact ih1 _ _ _ _ _ _ _ _ _
      | exact LeO.none _
      | refine LeO.ite ?_ ?_
      | refine LeO.bind ?_ (fun _ => ?_)
theorem spacesL.mono : ∀ a0 k, LeO (spacesL.f k a0) (spacesL.f (k + 1) a0) := by
  intro a0 k
  obtain ⟨ih0, ih1⟩ := spacesL.mono_l k
  unfold spacesL.f
  repeat' first
      | (with_reducible exact ih0 _ _ _ _ _)
      | (with_reducible exact ih1 _ _ _ _ _ _ _ _ _)
      | (with_reducible exact LeO.refl _)
      | (with_reducible exact LeO.none _)
      | (with_reducible refine LeO.ite ?_ ?_)
      | (with_reducible refine LeO.bind ?_ (fun _ => ?_))
      | exact ih0 _ _ _ _ _
      | exact ih1 _ _ _ _ _ _ _ _ _
      | exact LeO.none _
      | refine LeO.ite ?_ ?_
      | refine LeO.bind ?_ (fun _ => ?_)
set_option maxHeartbeats 8000000 in
set_option maxRecDepth 100000 in
theorem spacesL.calls (k : Nat) (a0 : Int) (r : List (S28)) (w : World) (h : spacesL.f k a0 = some r) (hne : r ≠ []) (hlen : ∀ x ∈ r, x.f1.length < 4611686018427387904) (hrl : r.length < 4611686018427387904) :
    Calls Try.prog 85 #[.int .i64 a0] w fun e w' => ∃ v0_ : Value, ∃ ys, e = .returned (v0_) ∧ Kd.S k28 28 w' w.heap.size (fun _ => True) v0_ ys ∧ Below w.heap.size w w' ∧ ys.Perm r ∧ ys.Pairwise (fun a b => cmpL a.f1 b.f1 ≤ 0) := by
  have hu28 := Try.underlying28
  have HLEN := Aside0.mk hlen
  have HRL := Aside0.mk hrl
  have HNE := Aside0.mk hne
  clear hlen hrl hne
  have HB := Aside0.mk (Below.refl w.heap.size w)
  have H : (if 0 ≤ a0 then (if 0 ≤ (IntKind.u64.wrap ((shl .u64 1 a0) - 2)) then (spacesL.l0 k a0 (([] : List (S28))) (wrap64 ((shl .i64 1 a0) - 1)) (shl .i64 1 (IntKind.u64.wrap ((shl .u64 1 a0) - 2))) 0) else (none)) else (none)) = some r := h
  clear h
  obtain ⟨y157, hy157⟩ : ∃ y_ : List (S28), y_ = (([] : List (S28))) := ⟨_, rfl⟩
  replace H : (if 0 ≤ a0 then (if 0 ≤ (IntKind.u64.wrap ((shl .u64 1 a0) - 2)) then (spacesL.l0 k a0 y157 (wrap64 ((shl .i64 1 a0) - 1)) (shl .i64 1 (IntKind.u64.wrap ((shl .u64 1 a0) - 2))) 0) else (none)) else (none)) = some r := by first | (rw [hy157]; with_reducible exact H) | (have H2_ := (Option.bind_some _ _).symm.trans H; rw [hy157]; with_reducible exact H2_) | (have H2_ := (Option.bind_some _ _).symm.trans H; with_reducible exact H2_) | with_reducible exact H | (rw [hy157]; exact H) | exact H
  have Ny157 := Aside0.mk hy157
  clear hy157
  by_cases c2 : 0 ≤ a0
  · rw [if_pos c2] at H
    have c2b0 := eq_true c2
    have c2b1 : decide (0 ≤ a0) = true := decide_eq_true c2
    clear c2
    obtain ⟨ji3, hji3⟩ : ∃ j_ : Int, (shl .i64 1 a0) = j_ := ⟨_, rfl⟩
    replace H : (if 0 ≤ (IntKind.u64.wrap ((shl .u64 1 a0) - 2)) then (spacesL.l0 k a0 y157 (wrap64 ((ji3) - 1)) (shl .i64 1 (IntKind.u64.wrap ((shl .u64 1 a0) - 2))) 0) else (none)) = some r := by first | (rw [hji3] at H; exact H) | (simp only [hji3] at H ⊢; exact H)
    have hji3_ : (IntKind.i64.wrap (1 * 2 ^ min a0.toNat 64)) = ji3 := hji3
    have hji3z : a0 ≤ 64 → (IntKind.i64.wrap (1 * 2 ^ a0.toNat)) = ji3 := shl_small hji3
    have hji3u : (IntKind.i64.wrap (2 ^ min a0.toNat 64)) = ji3 := by have h_ := hji3_; rw [Int.one_mul] at h_; exact h_
    have hji3v : a0 ≤ 64 → (IntKind.i64.wrap (2 ^ a0.toNat)) = ji3 := fun hle_ => by have h_ := hji3z hle_; rw [Int.one_mul] at h_; exact h_
    have hji3y : (wrap64 (1 * 2 ^ min a0.toNat 64)) = ji3 := (i64_w _).symm.trans hji3_
    have hji3x : a0 ≤ 64 → (wrap64 (1 * 2 ^ a0.toNat)) = ji3 := fun h_ => (i64_w _).symm.trans (hji3z h_)
    have c4b0 := eq_true (of_decide_eq_true (by first | (with_reducible assumption) | assumption) : 0 ≤ a0)
    obtain ⟨ji5, hji5⟩ : ∃ j_ : Int, (shl .u64 1 a0) = j_ := ⟨_, rfl⟩
    replace H : (if 0 ≤ (IntKind.u64.wrap ((ji5) - 2)) then (spacesL.l0 k a0 y157 (wrap64 ((ji3) - 1)) (shl .i64 1 (IntKind.u64.wrap ((ji5) - 2))) 0) else (none)) = some r := by first | (rw [hji5] at H; exact H) | (simp only [hji5] at H ⊢; exact H)
    have hji5_ : (IntKind.u64.wrap (1 * 2 ^ min a0.toNat 64)) = ji5 := hji5
    have hji5z : a0 ≤ 64 → (IntKind.u64.wrap (1 * 2 ^ a0.toNat)) = ji5 := shl_small hji5
    have hji5u : (IntKind.u64.wrap (2 ^ min a0.toNat 64)) = ji5 := by have h_ := hji5_; rw [Int.one_mul] at h_; exact h_
    have hji5v : a0 ≤ 64 → (IntKind.u64.wrap (2 ^ a0.toNat)) = ji5 := fun hle_ => by have h_ := hji5z hle_; rw [Int.one_mul] at h_; exact h_
    obtain ⟨ji6, hji6⟩ : ∃ j_ : Int, (IntKind.u64.wrap ((ji5) - 2)) = j_ := ⟨_, rfl⟩
    replace H : (if 0 ≤ (ji6) then (spacesL.l0 k a0 y157 (wrap64 ((ji3) - 1)) (shl .i64 1 (ji6)) 0) else (none)) = some r := by first | (rw [hji6] at H; exact H) | (simp only [hji6] at H ⊢; exact H)
    by_cases c7 : 0 ≤ (ji6)
    · rw [if_pos c7] at H
      have c7b0 := eq_true c7
      have c7b1 : decide (0 ≤ (ji6)) = true := decide_eq_true c7
      clear c7
      obtain ⟨ji8, hji8⟩ : ∃ j_ : Int, (shl .i64 1 (ji6)) = j_ := ⟨_, rfl⟩
      replace H : (spacesL.l0 k a0 y157 (wrap64 ((ji3) - 1)) ji8 0) = some r := by first | (rw [hji8] at H; exact H) | (simp only [hji8] at H ⊢; exact H)
      have hji8_ : (IntKind.i64.wrap (1 * 2 ^ min (ji6).toNat 64)) = ji8 := hji8
      have hji8z : (ji6) ≤ 64 → (IntKind.i64.wrap (1 * 2 ^ (ji6).toNat)) = ji8 := shl_small hji8
      have hji8u : (IntKind.i64.wrap (2 ^ min (ji6).toNat 64)) = ji8 := by have h_ := hji8_; rw [Int.one_mul] at h_; exact h_
      have hji8v : (ji6) ≤ 64 → (IntKind.i64.wrap (2 ^ (ji6).toNat)) = ji8 := fun hle_ => by have h_ := hji8z hle_; rw [Int.one_mul] at h_; exact h_
      have hji8y : (wrap64 (1 * 2 ^ min (ji6).toNat 64)) = ji8 := (i64_w _).symm.trans hji8_
      have hji8x : (ji6) ≤ 64 → (wrap64 (1 * 2 ^ (ji6).toNat)) = ji8 := fun h_ => (i64_w _).symm.trans (hji8z h_)
      have H' := Aside0.mk H
      clear H
      go_enter Try.func85, Try.ntmps85
      try go_wp2
      have n0_ := Aside0.mk (below_drew1 HB.out)
      clear HB
      have HB := n0_
      clear n0_
      refine start_ (n := 6) (S := fun w' => True) (ds := []) #[false, false, false, false, false, false] (by kernel_rfl) rfl rfl trivial (fun hHeld => ?_)
      generalize w.drew = w9 at HB hHeld ⊢
      refine pure_ (i := 1) (N := some 9) (v := ?_) (a' := ?_) #[false, true, false, false, false, false] rfl rfl (by kernel_rfl) (fun _ _ _ h => h) (Or.inl ⟨by rfl, ?_⟩) ?_ ?_
      rotate_left
      · intro w'
        go_simp
        with_reducible rfl
      rotate_left
      · simp only [Act.put, List.setIfInBounds_toArray, List.set_cons_zero, List.set_cons_succ, i64_w, i32_w]
        rfl
      refine pure_ (i := 2) (N := some 10) (v := ?_) (a' := ?_) #[false, true, true, false, false, false] rfl rfl (by kernel_rfl) (fun _ _ _ h => h) (Or.inl ⟨by rfl, ?_⟩) ?_ ?_
      rotate_left
      · intro w'
        go_simp
        with_reducible rfl
      rotate_left
      · simp only [Act.put, List.setIfInBounds_toArray, List.set_cons_zero, List.set_cons_succ, i64_w, i32_w]
        rfl
      refine pure_ (i := 3) (N := some 11) (v := ?_) (a' := ?_) #[false, true, true, true, false, false] rfl rfl (by kernel_rfl) (fun _ _ _ h => h) (Or.inl ⟨by rfl, ?_⟩) ?_ ?_
      rotate_left
      · intro w'
        go_simp
        with_reducible rfl
      rotate_left
      · simp only [Act.put, List.setIfInBounds_toArray, List.set_cons_zero, List.set_cons_succ, i64_w, i32_w]
        rfl
      refine one_ (i := 0) (N := some 8) #[true, true, true, true, false, false] rfl rfl (by kernel_rfl) (by decide) (fun K hK => ?_)
      refine Kd.S_lit_step k28 _ 28 ?hg (N := 8) ?hd (xs := ([] : List (S28))) (inner := []) (ok := fun _ => True) (okp := fun _ => True) ?hr ?hp (fun _ hk => hk) trivial (Below.refl _ _) (Nat.le_refl _) (by simp) ?_; (case hd => rfl); (case hg => rfl); (case hr => first | (go_simp; done) | (go_simp; rfl)); (case hp => exact (Reps.none _ _))
      intro v158 w10 ho11 hb hg_ hnew_
      clear hg_ hnew_
      (first | rw [← Ny157.out] at ho11 | (simp only [Int.reduceToNat] at ho11; rw [← Ny157.out] at ho11))
      have n0_ := Aside0.mk (Kd.S_lower ho11 (below_size (by repeat (first | (with_reducible first | exact HB.out | apply below_alloc | apply pw_below_drewN | apply below_drew1) | exact HB.out))))
      have n1_ := Aside0.mk (below_step (by repeat (first | (with_reducible first | exact HB.out | apply below_alloc | apply pw_below_drewN | apply below_drew1) | exact HB.out)) hb)
      clear HB
      have HO159 := n0_
      have HB := n1_
      clear n0_ n1_
      clear hb ho11
      refine hK.out _ _ trivial (fun hHeld => ?_)
      clear hK K
      refine norm_ (a' := ?_) ?_ ?_
      rotate_left
      · show Act.put _ (some 8) _ = _
        simp only [Act.put, List.setIfInBounds_toArray, List.set_cons_zero, List.set_cons_succ, i64_w, i32_w]
        rfl
      refine pure_ (i := 4) (N := some 3) (v := ?_) (a' := ?_) #[true, true, true, true, true, false] rfl rfl (by kernel_rfl) (fun _ _ _ h => h) (Or.inl ⟨by rfl, ?_⟩) ?_ ?_
      rotate_left
      · intro w'
        go_simp
        with_reducible rfl
      rotate_left
      · simp only [Act.put, List.setIfInBounds_toArray, List.set_cons_zero, List.set_cons_succ, i64_w, i32_w]
        rfl
      refine pure_ (i := 5) (N := some 4) (v := ?_) (a' := ?_) #[true, true, true, true, true, true] rfl rfl (by kernel_rfl) (fun _ _ _ h => h) (Or.inl ⟨by rfl, ?_⟩) ?_ ?_
      rotate_left
      · intro w'
        go_simp
        with_reducible rfl
      rotate_left
      · simp only [Act.put, List.setIfInBounds_toArray, List.set_cons_zero, List.set_cons_succ, i64_w, i32_w]
        rfl
      refine done_ (by kernel_rfl) ?_
      try go_wp2
      go_loopg [3, 16] k (fun kq v3 v16 w' => ∃ (x3_1 : List (S28)) (x16_1 : Int), v16 = .int .i64 x16_1 ∧ Aside0 (spacesL.l0 kq a0 x3_1 (wrap64 ((ji3) - 1)) ji8 x16_1 = some r) ∧ Aside0 (kq ≤ k) ∧ Aside0 (Kd.S k28 28 w' w.heap.size (fun _ => True) v3 x3_1) ∧ Aside0 (Below w.heap.size w w'))
      case atStart => exact ⟨(y157), (0), (by first | rfl | (simp; done) | (simp [*]; done)), H', ⟨Nat.le_refl _⟩, ⟨by (with_reducible repeat (first | apply Kd.S_alloc | apply Kd.S_drewN | apply Kd.S_drew)); exact HO159.out⟩, ⟨by repeat (first | (with_reducible first | exact HB.out | apply below_alloc | apply pw_below_drewN | apply below_drew1) | exact HB.out)⟩⟩
      case round =>
        clear H'
        try clear c2
        try clear c2b0
        try clear c2b1
        try clear p2
        try clear c4
        try clear c4b0
        try clear p6
        try clear c7
        try clear c7b0
        try clear c7b1
        try clear c8
        obtain ⟨x3_1, x16_1, rfl, HA, HK1, HO_3, HB⟩ := hrel
        cases gk with
        | zero => exact absurd HA.out (by simp [spacesL.l0])
        | succ k1 =>
          have H := HA.out
          clear HA
          simp only [spacesL.l0] at H
          by_cases c12 : x16_1 < ji8
          · rw [if_pos c12] at H
            have c12b0 : decide (x16_1 < ji8) = true := decide_eq_true c12
            clear c12
            obtain ⟨y160, hy160⟩ : ∃ y_ : List Int, y_ = (([0] : List Int)) := ⟨_, rfl⟩
            replace H : (spacesL.l1 k1 a0 x3_1 (wrap64 ((ji3) - 1)) x16_1 1 ji8 x16_1 a0 y160) = some r := by first | (rw [hy160]; with_reducible exact H) | (have H2_ := (Option.bind_some _ _).symm.trans H; rw [hy160]; with_reducible exact H2_) | (have H2_ := (Option.bind_some _ _).symm.trans H; with_reducible exact H2_) | with_reducible exact H | (rw [hy160]; exact H) | exact H
            have Ny160 := Aside0.mk hy160
            clear hy160
            have H' := Aside0.mk H
            clear H
            go_wp2_with (first | ((with_reducible refine gate_dst (N := 20) rfl ?_); refine Kd.R_lit (Kd.int .i64) _ 3 ?hg (N := 20) ?hd (xs := ([0] : List Int)) (inner := [.int .i64 0]) (ok := fun _ => True) (okp := fun _ => True) ?hr ?hp (fun _ hk => hk) trivial (Below.refl _ _) (Nat.le_refl _) (by simp) ?_; (case hd => rfl); (case hg => rfl); (case hr => first | (go_simp; done) | (go_simp; rfl)); (case hp => exact (Reps.one (show Kd.M (Kd.int .i64) _ _ _ 0 [.int .i64 0] from rfl) (Reps.none _ _))); intro v161 w13 ho14 hb hg_ hnew_; clear hg_ hnew_; (first | rw [← Ny160.out] at ho14 | (simp only [Int.reduceToNat] at ho14; rw [← Ny160.out] at ho14)); have n0_ := Aside0.mk (Kd.S_elder' (by (with_reducible repeat (first | apply Kd.S_alloc | apply Kd.S_drewN | apply Kd.S_drew)); exact HO_3.out) (Kd.R_base ho14) hb); have n1_ := Aside0.mk (Kd.R_lower ho14 (below_size (by repeat (first | (with_reducible first | exact HB.out | apply below_alloc | apply pw_below_drewN | apply below_drew1) | exact HB.out)))); have n2_ := Aside0.mk (below_step (by repeat (first | (with_reducible first | exact HB.out | apply below_alloc | apply pw_below_drewN | apply below_drew1) | exact HB.out)) hb); clear HO_3; clear HB; have HO_3 := n0_; have HO162 := n1_; have HB := n2_; clear n0_ n1_ n2_; clear hb ho14; obtain ⟨Ao15, co15, eo15⟩ := Kd.R_slice HO162.out; subst eo15) | ((with_reducible refine gate_dst (N := 6) rfl ?_); refine box_event ?hg (N := 6) ?hd (cs := #[.int .i64 0, .slice none 0 0]) (t := 28) ?hr ?_; (case hd => rfl); (case hg => rfl); (case hr => first | (go_simp; done) | (go_simp; rfl)); intro gb163 hg w16 hbox hb; have n0_ := Aside0.mk (Kd.S_below (Kd.S_elderB (by (with_reducible repeat (first | apply Kd.S_alloc | apply Kd.S_drewN | apply Kd.S_drew)); exact HO_3.out) gb163 (Nat.le_of_eq hg.symm)) hb); have n1_ := Aside0.mk (Kd.R_below (by (with_reducible repeat (first | apply Kd.R_alloc | apply Kd.R_drewN | apply Kd.R_drew)); exact HO162.out) hb); have n2_ := Aside0.mk (below_step (by repeat (first | (with_reducible first | exact HB.out | apply below_alloc | apply pw_below_drewN | apply below_drew1) | exact HB.out)) hb); have n3_ := Aside0.mk (hbox); have n4_ := Aside0.mk ((by rw [hg]; exact (below_size (by repeat (first | (with_reducible first | exact HB.out | apply below_alloc | apply pw_below_drewN | apply below_drew1) | exact HB.out))) : w.heap.size ≤ gb163)); have n5_ := Aside0.mk ((by rw [hg]; exact (below_size (by repeat (first | (with_reducible first | exact HB.out | apply below_alloc | apply pw_below_drewN | apply below_drew1) | exact HB.out))) : w.heap.size ≤ gb163)); clear HO_3; clear HO162; clear HB; have HO_3 := n0_; have HO162 := n1_; have HB := n2_; have BK163 := n3_; have GW163 := n4_; have GE163 := n5_; clear n0_ n1_ n2_ n3_ n4_ n5_; clear hb hbox hg; have hcz17_0 : w16.cell? ⟨gb163, 0, none⟩ = some (.int .i64 0) := (blk_cell BK163.out 0).trans rfl; have hcz17_1 : w16.cell? ⟨gb163, 1, none⟩ = some (.slice none 0 0) := (blk_cell BK163.out 1).trans rfl; have hfz17_0 := blk_frozen BK163.out 0; have hfz17_1 := blk_frozen BK163.out 1))
            go_loopg [7] k1 (fun kq v7 w' => ∃ (x7_2 : Int) (x164001_2 : List Int) (u164001 : Value), v7 = .int .i64 x7_2 ∧ Aside0 (spacesL.l1 kq a0 x3_1 (wrap64 ((ji3) - 1)) x16_1 x7_2 ji8 x16_1 a0 x164001_2 = some r) ∧ Aside0 (kq ≤ k1) ∧ Aside0 (Kd.S k28 28 w' w.heap.size (fun k_ => some k_ ≠ (u164001 : Value).ownBlock ∧ k_ ≠ gb163) u3 x3_1) ∧ Aside0 (Kd.R (Kd.int .i64) 3 w' w.heap.size (fun _ => True) u164001 x164001_2) ∧ Aside0 (w'.heap[gb163]? = some (.cells #[.int .i64 a0, u164001] 28 (0, 0))) ∧ Aside0 (Below w.heap.size w w'))
            case atStart => exact ⟨(1), (y160), (.slice Ao15 y160.length co15), (by first | rfl | (simp; done) | (simp [*]; done)), H', ⟨Nat.le_refl _⟩, ⟨by (with_reducible repeat (first | apply Kd.S_alloc | apply Kd.S_drewN | apply Kd.S_drew)); exact Kd.S_mono (Kd.S_far (p := ⟨gb163, 1, none⟩) (Kd.S_far (p := ⟨gb163, 0, none⟩) (Kd.S_mono HO_3.out (fun k_ hk => (⟨hk, hk.2⟩ : _ ∧ k_ ≠ gb163))) (fun _ hk => hk.2) (.int .i64 a0)) (fun _ hk => hk.2) (.slice Ao15 y160.length co15)) (fun _ hk => ⟨hk.1.1.2, hk.1.2⟩)⟩, ⟨by (with_reducible repeat (first | apply Kd.R_alloc | apply Kd.R_drewN | apply Kd.R_drew)); exact Kd.R_mono (Kd.R_far (p := ⟨gb163, 1, none⟩) (Kd.R_far (p := ⟨gb163, 0, none⟩) (Kd.R_types HO162.out BK163.out (by decide)) (fun _ hk => hk.2) (.int .i64 a0)) (fun _ hk => hk.2) (.slice Ao15 y160.length co15)) (fun _ hk => trivial)⟩, ⟨by (with_reducible repeat (first | refine blk_drewN ?_ _ | refine blk_drew ?_ | refine blk_alloc ?_ _)); refine blk_put (cs := #[.int .i64 a0, .slice none 0 0]) ?_ 1 _ rfl; (with_reducible repeat (first | refine blk_drewN ?_ _ | refine blk_drew ?_ | refine blk_alloc ?_ _)); refine blk_put (cs := #[.int .i64 0, .slice none 0 0]) ?_ 0 _ rfl; (with_reducible repeat (first | refine blk_drewN ?_ _ | refine blk_drew ?_ | refine blk_alloc ?_ _)); exact BK163.out⟩, ⟨by repeat (first | (with_reducible first | exact HB.out | apply below_alloc | apply pw_below_drewN | apply below_drew1 | refine below_set ?_ GE163.out) | exact HB.out)⟩⟩
            case round =>
              clear H'
              try clear c1
              try clear c2
              try clear c2b0
              try clear c2b1
              try clear p2
              try clear c4
              try clear c4b0
              try clear p6
              try clear c7
              try clear c7b0
              try clear c7b1
              try clear c8
              try clear c12
              try clear c12b0
              try clear hcz17_0
              try clear hcz17_1
              try clear hfz17_0
              try clear hfz17_1
              try clear p2
              try clear p6
              obtain ⟨x7_2, x164001_2, u164001, rfl, HA, HK2, HO_3, HO_164001, BK163, HB⟩ := hrel
              cases gk with
              | zero => exact absurd HA.out (by simp [spacesL.l1])
              | succ k2 =>
                have H := HA.out
                clear HA
                simp only [spacesL.l1] at H
                by_cases c18 : x7_2 < (wrap64 ((ji3) - 1))
                · rw [if_pos c18] at H
                  have c18b0 : decide (x7_2 < (wrap64 ((ji3) - 1))) = true := decide_eq_true c18
                  clear c18
                  obtain ⟨ji19, hji19⟩ : ∃ j_ : Int, (wrap64 (x7_2 - 1)) = j_ := ⟨_, rfl⟩
                  replace H : (if 0 ≤ (ji19) then (if (Go.bits .and .i64 (shr .i64 x16_1 (ji19)) 1) = 1 then (if x164001_2.length < 17592186044416 then (spacesL.l1 k2 a0 x3_1 (wrap64 ((ji3) - 1)) x16_1 (wrap64 (x7_2 + 1)) ji8 x16_1 a0 (x164001_2 ++ [x7_2])) else (none)) else (spacesL.l1 k2 a0 x3_1 (wrap64 ((ji3) - 1)) x16_1 (wrap64 (x7_2 + 1)) ji8 x16_1 a0 x164001_2)) else (none)) = some r := by first | (rw [hji19] at H; exact H) | (simp only [hji19] at H ⊢; exact H)
                  have hji19w : (IntKind.i64.wrap (x7_2 - 1)) = ji19 := (i64_w _).trans hji19
                  by_cases c20 : 0 ≤ (ji19)
                  · rw [if_pos c20] at H
                    have c20b0 := eq_true c20
                    have c20b1 : decide (0 ≤ (ji19)) = true := decide_eq_true c20
                    clear c20
                    obtain ⟨ji21, hji21⟩ : ∃ j_ : Int, (shr .i64 x16_1 (ji19)) = j_ := ⟨_, rfl⟩
                    replace H : (if (Go.bits .and .i64 (ji21) 1) = 1 then (if x164001_2.length < 17592186044416 then (spacesL.l1 k2 a0 x3_1 (wrap64 ((ji3) - 1)) x16_1 (wrap64 (x7_2 + 1)) ji8 x16_1 a0 (x164001_2 ++ [x7_2])) else (none)) else (spacesL.l1 k2 a0 x3_1 (wrap64 ((ji3) - 1)) x16_1 (wrap64 (x7_2 + 1)) ji8 x16_1 a0 x164001_2)) = some r := by first | (rw [hji21] at H; exact H) | (simp only [hji21] at H ⊢; exact H)
                    have hji21_ : (x16_1 / 2 ^ min (ji19).toNat 64) = ji21 := hji21
                    have hji21z : (ji19) ≤ 64 → (x16_1 / 2 ^ (ji19).toNat) = ji21 := shr_small hji21
                    by_cases c22 : (Go.bits .and .i64 (ji21) 1) = 1
                    · rw [if_pos c22] at H
                      have c22b0 : ((Go.bits .and .i64 (ji21) 1) == 1) = true := beq_iff_eq.mpr c22
                      have c22b1 : ((Go.bits .and .i64 (ji21) 1) != 1) = false := bne_eq_false_iff_eq.mpr c22
                      clear c22
                      by_cases c23 : x164001_2.length < 17592186044416
                      · rw [if_pos c23] at H
                        have LMc23 := Aside0.mk c23
                        clear c23
                        obtain ⟨y164, hy164⟩ : ∃ y_ : List Int, y_ = (x164001_2 ++ [x7_2]) := ⟨_, rfl⟩
                        replace H : (spacesL.l1 k2 a0 x3_1 (wrap64 ((ji3) - 1)) x16_1 (wrap64 (x7_2 + 1)) ji8 x16_1 a0 y164) = some r := by first | (rw [hy164]; with_reducible exact H) | (have H2_ := (Option.bind_some _ _).symm.trans H; rw [hy164]; with_reducible exact H2_) | (have H2_ := (Option.bind_some _ _).symm.trans H; with_reducible exact H2_) | with_reducible exact H | (rw [hy164]; exact H) | exact H
                        have Ny164 := Aside0.mk hy164
                        clear hy164
                        have H' := Aside0.mk H
                        clear H
                        have hcz24_0 : wr.cell? ⟨gb163, 0, none⟩ = some (.int .i64 a0) := (blk_cell BK163.out 0).trans rfl
                        have hcz24_1 : wr.cell? ⟨gb163, 1, none⟩ = some (u164001) := (blk_cell BK163.out 1).trans rfl
                        have hfz24_0 := blk_frozen BK163.out 0
                        have hfz24_1 := blk_frozen BK163.out 1
                        go_wp2_with (first | ((with_reducible refine gate_builtin (b := .append) (xs := #[.tmp 34, .tmp 36]) rfl ?_); at_builtin; refine Kd.R_append (Kd.int .i64) (w0 := w) w.heap.size rfl (.tmp 34) (.tmp 36) 22 3 (.int .i64 0) 8 rfl Try.underlying22 info3 rfl (by decide) (by omega) u164001 x164001_2 x7_2 [.int .i64 x7_2] (fun _ => True) (fun _ => False) rfl rfl ?aP (fun _ hk => hk.elim) ?aF ?aO ?aB ?aS ?aL ?_; (case aP => exact rfl); (case aB => exact (by repeat (first | (with_reducible first | exact HB.out | apply below_alloc | apply pw_below_drewN | apply below_drew1 | refine below_set ?_ GE163.out) | exact HB.out))); (case aF => exact (fun _ _ => trivial)); (case aO => exact (by (with_reducible repeat (first | apply Kd.R_alloc | apply Kd.R_drewN | apply Kd.R_drew)); exact HO_164001.out)); (case aS => exact (below_size (by repeat (first | (with_reducible first | exact HB.out | apply below_alloc | apply pw_below_drewN | apply below_drew1 | refine below_set ?_ GE163.out) | exact HB.out)))); (case aL => have := LMc23.out; omega); intro v165 w25 ho hb hg hat; rw [← Ny164.out] at ho; have n0_ := Aside0.mk (Kd.S_after (ok := (fun k_ => k_ ≠ gb163)) (by (with_reducible repeat (first | apply Kd.S_alloc | apply Kd.S_drewN | apply Kd.S_drew)); exact Kd.S_mono HO_3.out (fun _ hk => ⟨hk.2, hk.1⟩)) hg hat); have n1_ := Aside0.mk (blk_grown (g := gb163) (o := .cells #[.int .i64 a0, u164001] 28 (0, 0)) (by (with_reducible repeat (first | refine blk_drewN ?_ _ | refine blk_drew ?_ | refine blk_alloc ?_ _)); exact BK163.out) hg (Kd.R_ne HO_164001.out BK163.out (by decide))); have n2_ := Aside0.mk (hb); have n3_ := Aside0.mk (ho); clear HO_3; clear BK163; clear HB; clear HO_164001; have HO_3 := n0_; have BK163 := n1_; have HB := n2_; have HO166 := n3_; clear n0_ n1_ n2_ n3_; clear ho hb hg hat; obtain ⟨Ao26, co26, eo26⟩ := Kd.R_slice HO166.out; subst eo26; have hcz27_0 : w25.cell? ⟨gb163, 0, none⟩ = some (.int .i64 a0) := (blk_cell BK163.out 0).trans rfl; have hcz27_1 : w25.cell? ⟨gb163, 1, none⟩ = some (u164001) := (blk_cell BK163.out 1).trans rfl; have hfz27_0 := blk_frozen BK163.out 0; have hfz27_1 := blk_frozen BK163.out 1))
                        go_roundg k2
                        case measure => have := HK1.out; have := HK2.out; omega
                        case rel => exact ⟨(wrap64 (x7_2 + 1)), (y164), (.slice Ao26 y164.length co26), (by first | rfl | (simp; done) | (simp [*]; done)), H', ⟨by have := HK1.out; have := HK2.out; omega⟩, ⟨by (with_reducible repeat (first | apply Kd.S_alloc | apply Kd.S_drewN | apply Kd.S_drew)); exact Kd.S_mono (Kd.S_far (p := ⟨gb163, 1, none⟩) (Kd.S_mono HO_3.out (fun k_ hk => (⟨hk, hk.1⟩ : _ ∧ k_ ≠ gb163))) (fun _ hk => hk.2) (.slice Ao26 y164.length co26)) (fun _ hk => ⟨hk.1.2, hk.1.1⟩)⟩, ⟨by (with_reducible repeat (first | apply Kd.R_alloc | apply Kd.R_drewN | apply Kd.R_drew)); exact Kd.R_mono (Kd.R_far (p := ⟨gb163, 1, none⟩) (Kd.R_types HO166.out BK163.out (by decide)) (fun _ hk => hk.2) (.slice Ao26 y164.length co26)) (fun _ hk => trivial)⟩, ⟨by (with_reducible repeat (first | refine blk_drewN ?_ _ | refine blk_drew ?_ | refine blk_alloc ?_ _)); refine blk_put (cs := #[.int .i64 a0, u164001]) ?_ 1 _ rfl; (with_reducible repeat (first | refine blk_drewN ?_ _ | refine blk_drew ?_ | refine blk_alloc ?_ _)); exact BK163.out⟩, ⟨by repeat (first | (with_reducible first | exact HB.out | apply below_alloc | apply pw_below_drewN | apply below_drew1 | refine below_set ?_ GE163.out) | exact HB.out)⟩⟩
                      · rw [if_neg c23] at H
                        exact absurd H (by simp)
                    · rw [if_neg c22] at H
                      have c22b0 : ((Go.bits .and .i64 (ji21) 1) == 1) = false := beq_eq_false_iff_ne.mpr c22
                      have c22b1 : ((Go.bits .and .i64 (ji21) 1) != 1) = true := bne_iff_ne.mpr c22
                      have H' := Aside0.mk H
                      clear H
                      go_wp2
                      go_roundg k2
                      case measure => have := HK1.out; have := HK2.out; omega
                      case rel => exact ⟨(wrap64 (x7_2 + 1)), (x164001_2), (u164001), (by first | rfl | (simp; done) | (simp [*]; done)), H', ⟨by have := HK1.out; have := HK2.out; omega⟩, ⟨by (with_reducible repeat (first | apply Kd.S_alloc | apply Kd.S_drewN | apply Kd.S_drew)); exact HO_3.out⟩, ⟨by (with_reducible repeat (first | apply Kd.R_alloc | apply Kd.R_drewN | apply Kd.R_drew)); exact HO_164001.out⟩, ⟨by (with_reducible repeat (first | refine blk_drewN ?_ _ | refine blk_drew ?_ | refine blk_alloc ?_ _)); exact BK163.out⟩, ⟨by repeat (first | (with_reducible first | exact HB.out | apply below_alloc | apply pw_below_drewN | apply below_drew1 | refine below_set ?_ GE163.out) | exact HB.out)⟩⟩
                  · rw [if_neg c20] at H
                    exact absurd H (by simp)
                · rw [if_neg c18] at H
                  have c18b0 : decide (x7_2 < (wrap64 ((ji3) - 1))) = false := decide_eq_false c18
                  clear c18
                  by_cases c28 : x164001_2.length < 17592186044416
                  · rw [if_pos c28] at H
                    have LMc28 := Aside0.mk c28
                    clear c28
                    obtain ⟨y167, hy167⟩ : ∃ y_ : List Int, y_ = (x164001_2 ++ [(wrap64 ((ji3) - 1))]) := ⟨_, rfl⟩
                    replace H : ((impl_IsSpace.f a0 y167).bind fun t170 => (if t170 = true then (if x3_1.length < 4398046511104 then (spacesL.l0 k2 a0 (x3_1 ++ [(⟨a0, y167⟩ : S28)]) (wrap64 ((ji3) - 1)) ji8 (wrap64 (x16_1 + 1))) else (none)) else (spacesL.l0 k2 a0 x3_1 (wrap64 ((ji3) - 1)) ji8 (wrap64 (x16_1 + 1))))) = some r := by first | (rw [hy167]; with_reducible exact H) | (have H2_ := (Option.bind_some _ _).symm.trans H; rw [hy167]; with_reducible exact H2_) | (have H2_ := (Option.bind_some _ _).symm.trans H; with_reducible exact H2_) | with_reducible exact H | (rw [hy167]; exact H) | exact H
                    have Ny167 := Aside0.mk hy167
                    clear hy167
                    replace H := Option.bind_eq_some_iff.mp H
                    obtain ⟨t170, A290, H⟩ := H
                    replace H : (if t170 = true then (if x3_1.length < 4398046511104 then (spacesL.l0 k2 a0 (x3_1 ++ [(⟨a0, y167⟩ : S28)]) (wrap64 ((ji3) - 1)) ji8 (wrap64 (x16_1 + 1))) else (none)) else (spacesL.l0 k2 a0 x3_1 (wrap64 ((ji3) - 1)) ji8 (wrap64 (x16_1 + 1)))) = some r := H
                    have A29 := Aside0.mk A290
                    clear A290
                    by_cases c30 : t170 = true
                    · subst c30
                      have H1 : (if x3_1.length < 4398046511104 then (spacesL.l0 k2 a0 (x3_1 ++ [(⟨a0, y167⟩ : S28)]) (wrap64 ((ji3) - 1)) ji8 (wrap64 (x16_1 + 1))) else (none)) = some r := by rw [if_pos rfl] at H; exact H
                      clear H
                      have H := H1
                      clear H1
                      by_cases c31 : x3_1.length < 4398046511104
                      · rw [if_pos c31] at H
                        have LMc31 := Aside0.mk c31
                        clear c31
                        obtain ⟨y171, hy171⟩ : ∃ y_ : List (S28), y_ = (x3_1 ++ [(⟨a0, y167⟩ : S28)]) := ⟨_, rfl⟩
                        replace H : (spacesL.l0 k2 a0 y171 (wrap64 ((ji3) - 1)) ji8 (wrap64 (x16_1 + 1))) = some r := by first | (rw [hy171]; with_reducible exact H) | (have H2_ := (Option.bind_some _ _).symm.trans H; rw [hy171]; with_reducible exact H2_) | (have H2_ := (Option.bind_some _ _).symm.trans H; with_reducible exact H2_) | with_reducible exact H | (rw [hy171]; exact H) | exact H
                        have Ny171 := Aside0.mk hy171
                        clear hy171
                        have H' := Aside0.mk H
                        clear H
                        have hcz32_0 : wr.cell? ⟨gb163, 0, none⟩ = some (.int .i64 a0) := (blk_cell BK163.out 0).trans rfl
                        have hcz32_1 : wr.cell? ⟨gb163, 1, none⟩ = some (u164001) := (blk_cell BK163.out 1).trans rfl
                        have hfz32_0 := blk_frozen BK163.out 0
                        have hfz32_1 := blk_frozen BK163.out 1
                        go_wp2_with (first | ((with_reducible refine gate_builtin (b := .append) (xs := #[.tmp 40, .tmp 42]) rfl ?_); at_builtin; refine Kd.R_append (Kd.int .i64) (w0 := w) w.heap.size rfl (.tmp 40) (.tmp 42) 22 3 (.int .i64 0) 8 rfl Try.underlying22 info3 rfl (by decide) (by omega) u164001 x164001_2 (wrap64 ((ji3) - 1)) [.int .i64 (wrap64 ((ji3) - 1))] (fun _ => True) (fun _ => False) rfl rfl ?aP (fun _ hk => hk.elim) ?aF ?aO ?aB ?aS ?aL ?_; (case aP => exact rfl); (case aB => exact (by repeat (first | (with_reducible first | exact HB.out | apply below_alloc | apply pw_below_drewN | apply below_drew1 | refine below_set ?_ GE163.out) | exact HB.out))); (case aF => exact (fun _ _ => trivial)); (case aO => exact (by (with_reducible repeat (first | apply Kd.R_alloc | apply Kd.R_drewN | apply Kd.R_drew)); exact HO_164001.out)); (case aS => exact (below_size (by repeat (first | (with_reducible first | exact HB.out | apply below_alloc | apply pw_below_drewN | apply below_drew1 | refine below_set ?_ GE163.out) | exact HB.out)))); (case aL => have := LMc28.out; omega); intro v168 w33 ho hb hg hat; rw [← Ny167.out] at ho; have n0_ := Aside0.mk (Kd.S_after (ok := (fun k_ => k_ ≠ gb163)) (by (with_reducible repeat (first | apply Kd.S_alloc | apply Kd.S_drewN | apply Kd.S_drew)); exact Kd.S_mono HO_3.out (fun _ hk => ⟨hk.2, hk.1⟩)) hg hat); have n1_ := Aside0.mk (blk_grown (g := gb163) (o := .cells #[.int .i64 a0, u164001] 28 (0, 0)) (by (with_reducible repeat (first | refine blk_drewN ?_ _ | refine blk_drew ?_ | refine blk_alloc ?_ _)); exact BK163.out) hg (Kd.R_ne HO_164001.out BK163.out (by decide))); have n2_ := Aside0.mk (hb); have n3_ := Aside0.mk (ho); clear HO_3; clear BK163; clear HB; clear HO_164001; have HO_3 := n0_; have BK163 := n1_; have HB := n2_; have HO169 := n3_; clear n0_ n1_ n2_ n3_; clear ho hb hg hat; obtain ⟨Ao34, co34, eo34⟩ := Kd.R_slice HO169.out; subst eo34; have hcz35_0 : w33.cell? ⟨gb163, 0, none⟩ = some (.int .i64 a0) := (blk_cell BK163.out 0).trans rfl; have hcz35_1 : w33.cell? ⟨gb163, 1, none⟩ = some (u164001) := (blk_cell BK163.out 1).trans rfl; have hfz35_0 := blk_frozen BK163.out 0; have hfz35_1 := blk_frozen BK163.out 1) | ((with_reducible refine gate_callee (f := 89) rfl ?_); refine goesL_ (some 46) rfl rfl Try.func89 (by kernel_rfl) rfl #[.agg #[.int .i64 a0, .slice Ao34 y167.length co34]] rfl (by (try simp only [List.map_toArray, List.map_cons, List.map_nil]); first | done | rfl | (simp only [List.length_drop, List.length_take]; rfl)) ?_; (with_reducible refine (impl_IsSpace.calls a0 _ _ y167 true _ ?side1 ?side2 A29.out).mono ?_); (case side1 => refine (Kd.R_reads' (e := 3) (base := w.heap.size) (ok := fun k_ => True) (n := y167.length) (c := co34) ?_).2.2; exact (by (with_reducible repeat (first | apply Kd.R_alloc | apply Kd.R_drewN | apply Kd.R_drew)); exact (Kd.R_mono (Kd.R_far (p := ⟨gb163, 1, none⟩) (Kd.R_types HO169.out BK163.out (by decide)) (fun _ hk => hk.2) (.slice Ao34 y167.length co34)) (fun _ h_ => h_.1)))); (case side2 => exact (Kd.R_reads' HO169.out).2.1); rintro e w36 ⟨rfl, hb⟩; refine ⟨_, rfl, ?_⟩; have n0_ := Aside0.mk (Kd.S_below (by (with_reducible repeat (first | apply Kd.S_alloc | apply Kd.S_drewN | apply Kd.S_drew)); exact (Kd.S_mono (Kd.S_far (p := ⟨gb163, 1, none⟩) (Kd.S_mono HO_3.out (fun k_ hk => (⟨hk, hk.1⟩ : _ ∧ k_ ≠ gb163))) (fun _ hk => hk.2) (.slice Ao34 y167.length co34)) (fun _ h_ => h_.1))) hb); have n1_ := Aside0.mk (Kd.R_below (by (with_reducible repeat (first | apply Kd.R_alloc | apply Kd.R_drewN | apply Kd.R_drew)); exact (Kd.R_mono (Kd.R_far (p := ⟨gb163, 1, none⟩) (Kd.R_types HO169.out BK163.out (by decide)) (fun _ hk => hk.2) (.slice Ao34 y167.length co34)) (fun _ h_ => h_.1))) hb); have n2_ := Aside0.mk (blk_below (g := gb163) (o := .cells #[.int .i64 a0, .slice Ao34 y167.length co34] 28 (0, 0)) (by (with_reducible repeat (first | refine blk_drewN ?_ _ | refine blk_drew ?_ | refine blk_alloc ?_ _)); refine blk_put (cs := #[.int .i64 a0, u164001]) ?_ 1 _ rfl; (with_reducible repeat (first | refine blk_drewN ?_ _ | refine blk_drew ?_ | refine blk_alloc ?_ _)); exact BK163.out) hb); have n3_ := Aside0.mk (below_step (by repeat (first | (with_reducible first | exact HB.out | apply below_alloc | apply pw_below_drewN | apply below_drew1 | refine below_set ?_ GE163.out) | exact HB.out)) hb); clear HO_3; clear HO169; clear BK163; clear HB; have HO_3 := n0_; have HO169 := n1_; have BK163 := n2_; have HB := n3_; clear n0_ n1_ n2_ n3_; (try clear hb); (try clear hb2); (try clear hk); (try clear hi); have hcz37_0 : w36.cell? ⟨gb163, 0, none⟩ = some (.int .i64 a0) := (blk_cell BK163.out 0).trans rfl; have hcz37_1 : w36.cell? ⟨gb163, 1, none⟩ = some (.slice Ao34 y167.length co34) := (blk_cell BK163.out 1).trans rfl; have hfz37_0 := blk_frozen BK163.out 0; have hfz37_1 := blk_frozen BK163.out 1) | ((with_reducible refine gate_builtin (b := .append) (xs := #[.tmp 47, .tmp 49]) rfl ?_); at_builtin; refine Kd.S_append k28 (w0 := w) w.heap.size rfl (.tmp 47) (.tmp 49) 59 28 (.agg #[(.int .i64 0), (.slice none 0 0)]) 32 rfl Try.underlying59 infoSp rfl (by decide) (by omega) u3 x3_1 (⟨a0, y167⟩ : S28) [.int .i64 a0, .slice Ao34 y167.length co34] (fun k_ => k_ ≠ gb163) (fun k_ => some k_ = (.slice Ao34 y167.length co34 : Value).ownBlock) rfl rfl ?aP (fun k_ hk_ => ((Kd.R_mono (ok' := fun k_ => ((fun k_ => k_ ≠ gb163)) k_ ∧ some k_ ≠ (u3 : Value).ownBlock) (Kd.R_types (Kd.R_apart' (HO169.out) (Kd.S_typed HO_3.out) (by decide)) BK163.out (by decide)) (fun k_ hk => ⟨hk.2, hk.1.2⟩))).1 k_ hk_.symm) ?aF ?aO ?aB ?aS ?aL ?_; (case aP => exact k28_mkM _ _ _ (⟨a0, y167⟩ : S28) (Kd.R_mono (Kd.R_tight rfl (Kd.R_mono (ok' := fun k_ => ((fun k_ => k_ ≠ gb163)) k_ ∧ some k_ ≠ (u3 : Value).ownBlock) (Kd.R_types (Kd.R_apart' (HO169.out) (Kd.S_typed HO_3.out) (by decide)) BK163.out (by decide)) (fun k_ hk => ⟨hk.2, hk.1.2⟩))) (fun _ h_ => h_))); (case aB => exact (by repeat (first | (with_reducible first | exact HB.out | apply below_alloc | apply pw_below_drewN | apply below_drew1 | refine below_set ?_ GE163.out) | exact HB.out))); (case aF => exact (fun k_ hk => Kd.freshB (g := gb163) (o := .cells #[.int .i64 a0, .slice Ao34 y167.length co34] 28 (0, 0)) (by (with_reducible repeat (first | refine blk_drewN ?_ _ | refine blk_drew ?_ | refine blk_alloc ?_ _)); exact BK163.out) k_ hk)); (case aO => exact (by (with_reducible repeat (first | apply Kd.S_alloc | apply Kd.S_drewN | apply Kd.S_drew)); exact Kd.S_mono HO_3.out (fun k_ hk => ⟨hk.1, fun e_ => hk.2 e_⟩))); (case aS => exact (below_size (by repeat (first | (with_reducible first | exact HB.out | apply below_alloc | apply pw_below_drewN | apply below_drew1 | refine below_set ?_ GE163.out) | exact HB.out)))); (case aL => have := LMc31.out; omega); intro v172 w38 ho hb hg hat; rw [← Ny171.out] at ho; have n0_ := Aside0.mk (blk_grown (g := gb163) (o := .cells #[.int .i64 a0, .slice Ao34 y167.length co34] 28 (0, 0)) (by (with_reducible repeat (first | refine blk_drewN ?_ _ | refine blk_drew ?_ | refine blk_alloc ?_ _)); exact BK163.out) hg (Kd.S_away HO_3.out (fun _ hk => hk.1))); have n1_ := Aside0.mk (hb); have n2_ := Aside0.mk (ho); clear BK163; clear HB; clear HO_3; clear HO169; have BK163 := n0_; have HB := n1_; have HO173 := n2_; clear n0_ n1_ n2_; clear ho hb hg hat))
                        go_roundg k2
                        case measure => have := HK1.out; have := HK2.out; omega
                        case rel => exact ⟨(y171), (wrap64 (x16_1 + 1)), (by first | rfl | (simp; done) | (simp [*]; done)), H', ⟨by have := HK1.out; have := HK2.out; omega⟩, ⟨by (with_reducible repeat (first | apply Kd.S_alloc | apply Kd.S_drewN | apply Kd.S_drew)); exact Kd.S_mono HO173.out (fun _ hk => trivial)⟩, ⟨by repeat (first | (with_reducible first | exact HB.out | apply below_alloc | apply pw_below_drewN | apply below_drew1 | refine below_set ?_ GE163.out) | exact HB.out)⟩⟩
                      · rw [if_neg c31] at H
                        exact absurd H (by simp)
                    · replace c30 := Bool.eq_false_iff.mpr c30
                      subst c30
                      have H1 : (spacesL.l0 k2 a0 x3_1 (wrap64 ((ji3) - 1)) ji8 (wrap64 (x16_1 + 1))) = some r := by rw [if_neg (show ¬ (false = true) by decide)] at H; exact H
                      clear H
                      have H := H1
                      clear H1
                      have H' := Aside0.mk H
                      clear H
                      have hcz39_0 : wr.cell? ⟨gb163, 0, none⟩ = some (.int .i64 a0) := (blk_cell BK163.out 0).trans rfl
                      have hcz39_1 : wr.cell? ⟨gb163, 1, none⟩ = some (u164001) := (blk_cell BK163.out 1).trans rfl
                      have hfz39_0 := blk_frozen BK163.out 0
                      have hfz39_1 := blk_frozen BK163.out 1
                      go_wp2_with (first | ((with_reducible refine gate_builtin (b := .append) (xs := #[.tmp 40, .tmp 42]) rfl ?_); at_builtin; refine Kd.R_append (Kd.int .i64) (w0 := w) w.heap.size rfl (.tmp 40) (.tmp 42) 22 3 (.int .i64 0) 8 rfl Try.underlying22 info3 rfl (by decide) (by omega) u164001 x164001_2 (wrap64 ((ji3) - 1)) [.int .i64 (wrap64 ((ji3) - 1))] (fun _ => True) (fun _ => False) rfl rfl ?aP (fun _ hk => hk.elim) ?aF ?aO ?aB ?aS ?aL ?_; (case aP => exact rfl); (case aB => exact (by repeat (first | (with_reducible first | exact HB.out | apply below_alloc | apply pw_below_drewN | apply below_drew1 | refine below_set ?_ GE163.out) | exact HB.out))); (case aF => exact (fun _ _ => trivial)); (case aO => exact (by (with_reducible repeat (first | apply Kd.R_alloc | apply Kd.R_drewN | apply Kd.R_drew)); exact HO_164001.out)); (case aS => exact (below_size (by repeat (first | (with_reducible first | exact HB.out | apply below_alloc | apply pw_below_drewN | apply below_drew1 | refine below_set ?_ GE163.out) | exact HB.out)))); (case aL => have := LMc28.out; omega); intro v168 w40 ho hb hg hat; rw [← Ny167.out] at ho; have n0_ := Aside0.mk (Kd.S_after (ok := (fun k_ => k_ ≠ gb163)) (by (with_reducible repeat (first | apply Kd.S_alloc | apply Kd.S_drewN | apply Kd.S_drew)); exact Kd.S_mono HO_3.out (fun _ hk => ⟨hk.2, hk.1⟩)) hg hat); have n1_ := Aside0.mk (blk_grown (g := gb163) (o := .cells #[.int .i64 a0, u164001] 28 (0, 0)) (by (with_reducible repeat (first | refine blk_drewN ?_ _ | refine blk_drew ?_ | refine blk_alloc ?_ _)); exact BK163.out) hg (Kd.R_ne HO_164001.out BK163.out (by decide))); have n2_ := Aside0.mk (hb); have n3_ := Aside0.mk (ho); clear HO_3; clear BK163; clear HB; clear HO_164001; have HO_3 := n0_; have BK163 := n1_; have HB := n2_; have HO169 := n3_; clear n0_ n1_ n2_ n3_; clear ho hb hg hat; obtain ⟨Ao41, co41, eo41⟩ := Kd.R_slice HO169.out; subst eo41; have hcz42_0 : w40.cell? ⟨gb163, 0, none⟩ = some (.int .i64 a0) := (blk_cell BK163.out 0).trans rfl; have hcz42_1 : w40.cell? ⟨gb163, 1, none⟩ = some (u164001) := (blk_cell BK163.out 1).trans rfl; have hfz42_0 := blk_frozen BK163.out 0; have hfz42_1 := blk_frozen BK163.out 1) | ((with_reducible refine gate_callee (f := 89) rfl ?_); refine goesL_ (some 46) rfl rfl Try.func89 (by kernel_rfl) rfl #[.agg #[.int .i64 a0, .slice Ao41 y167.length co41]] rfl (by (try simp only [List.map_toArray, List.map_cons, List.map_nil]); first | done | rfl | (simp only [List.length_drop, List.length_take]; rfl)) ?_; (with_reducible refine (impl_IsSpace.calls a0 _ _ y167 false _ ?side1 ?side2 A29.out).mono ?_); (case side1 => refine (Kd.R_reads' (e := 3) (base := w.heap.size) (ok := fun k_ => True) (n := y167.length) (c := co41) ?_).2.2; exact (by (with_reducible repeat (first | apply Kd.R_alloc | apply Kd.R_drewN | apply Kd.R_drew)); exact (Kd.R_mono (Kd.R_far (p := ⟨gb163, 1, none⟩) (Kd.R_types HO169.out BK163.out (by decide)) (fun _ hk => hk.2) (.slice Ao41 y167.length co41)) (fun _ h_ => h_.1)))); (case side2 => exact (Kd.R_reads' HO169.out).2.1); rintro e w43 ⟨rfl, hb⟩; refine ⟨_, rfl, ?_⟩; have n0_ := Aside0.mk (Kd.S_below (by (with_reducible repeat (first | apply Kd.S_alloc | apply Kd.S_drewN | apply Kd.S_drew)); exact (Kd.S_mono (Kd.S_far (p := ⟨gb163, 1, none⟩) (Kd.S_mono HO_3.out (fun k_ hk => (⟨hk, hk.1⟩ : _ ∧ k_ ≠ gb163))) (fun _ hk => hk.2) (.slice Ao41 y167.length co41)) (fun _ h_ => h_.1))) hb); have n1_ := Aside0.mk (Kd.R_below (by (with_reducible repeat (first | apply Kd.R_alloc | apply Kd.R_drewN | apply Kd.R_drew)); exact (Kd.R_mono (Kd.R_far (p := ⟨gb163, 1, none⟩) (Kd.R_types HO169.out BK163.out (by decide)) (fun _ hk => hk.2) (.slice Ao41 y167.length co41)) (fun _ h_ => h_.1))) hb); have n2_ := Aside0.mk (blk_below (g := gb163) (o := .cells #[.int .i64 a0, .slice Ao41 y167.length co41] 28 (0, 0)) (by (with_reducible repeat (first | refine blk_drewN ?_ _ | refine blk_drew ?_ | refine blk_alloc ?_ _)); refine blk_put (cs := #[.int .i64 a0, u164001]) ?_ 1 _ rfl; (with_reducible repeat (first | refine blk_drewN ?_ _ | refine blk_drew ?_ | refine blk_alloc ?_ _)); exact BK163.out) hb); have n3_ := Aside0.mk (below_step (by repeat (first | (with_reducible first | exact HB.out | apply below_alloc | apply pw_below_drewN | apply below_drew1 | refine below_set ?_ GE163.out) | exact HB.out)) hb); clear HO_3; clear HO169; clear BK163; clear HB; have HO_3 := n0_; have HO169 := n1_; have BK163 := n2_; have HB := n3_; clear n0_ n1_ n2_ n3_; (try clear hb); (try clear hb2); (try clear hk); (try clear hi)))
                      go_roundg k2
                      case measure => have := HK1.out; have := HK2.out; omega
                      case rel => exact ⟨(x3_1), (wrap64 (x16_1 + 1)), (by first | rfl | (simp; done) | (simp [*]; done)), H', ⟨by have := HK1.out; have := HK2.out; omega⟩, ⟨by (with_reducible repeat (first | apply Kd.S_alloc | apply Kd.S_drewN | apply Kd.S_drew)); exact Kd.S_mono HO_3.out (fun _ hk => trivial)⟩, ⟨by repeat (first | (with_reducible first | exact HB.out | apply below_alloc | apply pw_below_drewN | apply below_drew1 | refine below_set ?_ GE163.out) | exact HB.out)⟩⟩
                  · rw [if_neg c28] at H
                    exact absurd H (by simp)
          · rw [if_neg c12] at H
            have c12b0 : decide (x16_1 < ji8) = false := decide_eq_false c12
            clear c12
            obtain rfl := Option.some.inj H
            have HW1 := HO_3.out
            have HS := Aside0.mk HW1
            clear HW1
            go_wp2_with fail
            refine (sort_calls _ w.heap.size _ _ HS.out HNE.out HLEN.out HRL.out).mono ?_
            rintro e w' ⟨rfl, ys, hs, hp, ho, hk⟩
            have HS2 := Aside0.mk hs
            have HP := Aside0.mk hp
            have HO := Aside0.mk ho
            have HK := Aside0.mk hk
            clear hs hp ho hk
            go_wp2_with fail
            go_ret
            exact ⟨_, ys, rfl, HS2.out, KB.to_below ((KB.of_below HB.out (fun j => w.heap.size ≤ j)).then_ HK.out (fun _ _ hj => hj)) (fun j hj hn => by omega), HP.out, HO.out⟩
    · rw [if_neg c7] at H
      exact absurd H (by simp)
  · rw [if_neg c2] at H
    exact absurd H (by simp)
end Go.Proofs.Ytjhjphgdjhahlaa.P
/- impl's 'spaces': what it makes. -/
namespace Go.Proofs.Ytjhjphgdjhahlaa.P
open Go.RowKit Go.Proofs.YtjhjphgdjhahlaaW.PrintWords Go.Proofs.YtjhjphgdjhahlaaW.PrintLast Go.Proofs.YtjhjphgdjhahlaaW.PrintMore
set_option linter.unusedVariables false

/-- the sets between that of no items and that of all, that a number tells -/
def midM (m k : Nat) : List Int := ((List.range k).filter (fun i => m.testBit i)).map fun i => ((i + 1 : Nat) : Int)
def setsM (n m : Nat) : List Int := [0] ++ midM m (2 ^ n - 2) ++ [((2 ^ n - 1 : Nat) : Int)]
def goodM (n m : Nat) : Bool := isSpB n (setsM n m)
def rawS (n c : Nat) : List S28 := ((List.range c).filter (goodM n)).map fun m => ⟨(n : Int), setsM n m⟩
def rawSpaces (n : Nat) : List S28 := rawS n (2 ^ (2 ^ n - 2))
theorem midM_succ (m i : Nat) : midM m (i + 1) = if m.testBit i then midM m i ++ [((i + 1 : Nat) : Int)] else midM m i := by
  unfold midM; rw [List.range_succ, List.filter_append]; cases h : m.testBit i <;> simp [h]
theorem midM_len (m i : Nat) : (midM m i).length ≤ i := by
  have := List.length_filter_le (fun i => m.testBit i) (List.range i); simpa [midM] using this
theorem rawS_succ (n c : Nat) : rawS n (c + 1) = rawS n c ++ if goodM n c then [⟨(n : Int), setsM n c⟩] else [] := by
  unfold rawS; rw [List.range_succ, List.filter_append]; cases h : goodM n c <;> simp [h]
theorem rawS_len (n c : Nat) : (rawS n c).length ≤ c := by
  have := List.length_filter_le (goodM n) (List.range c); simpa [rawS] using this
theorem rawS_f0 (n c : Nat) : ∀ x ∈ rawS n c, x.f0 = (n : Int) := by
  intro x hx
  simp only [rawS, List.mem_map] at hx
  obtain ⟨m, _, rfl⟩ := hx; rfl
theorem wraps_i64 (n : Int) (h0 : 0 ≤ n) (h1 : n < 2 ^ 60) : IntKind.i64.wrap n = n := by rw [IntKind.wrap_i64]; omega
theorem bit_one (m i : Nat) (hm : m < 2 ^ 60) (hi : i < 60) : Go.bits .and .i64 (shr .i64 (m : Int) (i : Int)) 1 = if m.testBit i then 1 else 0 := by
  have e : shr .i64 (m : Int) (i : Int) = ((m / 2 ^ i : Nat) : Int) := by
    unfold shr; rw [Nat.min_eq_left (by simp [IntKind.bits]; omega)]; simp
  have hlt : m / 2 ^ i < 2 ^ 60 := Nat.lt_of_le_of_lt (Nat.div_le_self _ _) hm
  have h := bits_mask .i64 60 (by decide) wraps_i64 1 (by decide) ((m / 2 ^ i : Nat) : Int) (Int.natCast_nonneg _) (by omega)
  rw [show ((2 : Int) ^ 1 - 1) = 1 from rfl, show ((2 : Int) ^ 1) = 2 from rfl] at h
  rw [e, h, Nat.testBit_eq_decide_div_mod_eq]
  by_cases hd : m / 2 ^ i % 2 = 1
  · simp only [hd, decide_true, if_true]; omega
  · simp only [hd, decide_false, Bool.false_eq_true, if_false]; omega
theorem pow_small (n : Nat) (h1 : 1 ≤ n) (h4 : n ≤ 4) : 2 ≤ 2 ^ n ∧ 2 ^ n ≤ 16 ∧ 1 ≤ 2 ^ (2 ^ n - 2) ∧ 2 ^ (2 ^ n - 2) ≤ 16384 := by
  have : ∀ n, n ≤ 4 → 1 ≤ n → 2 ≤ 2 ^ n ∧ 2 ^ n ≤ 16 ∧ 1 ≤ 2 ^ (2 ^ n - 2) ∧ 2 ^ (2 ^ n - 2) ≤ 16384 := by decide
  exact this n h4 h1

section
variable (n : Nat) (h1 : 1 ≤ n) (h4 : n ≤ 4)
include h1 h4
theorem spacesL_l1 (m : Nat) (hm : m < 16384) (l3 : List S28) (h3 : l3.length ≤ 16384) (x15 : Int) (r : List S28) (hq : Ev (fun k => spacesL.l0 k (n : Int) (l3 ++ if goodM n m then [⟨(n : Int), setsM n m⟩] else []) ((2 ^ n - 1 : Nat) : Int) x15 ((m + 1 : Nat) : Int)) r) :
    ∀ (j i : Nat), i + j = 2 ^ n - 2 → Ev (fun k => spacesL.l1 k (n : Int) l3 ((2 ^ n - 1 : Nat) : Int) (m : Int) ((i + 1 : Nat) : Int) x15 (m : Int) (n : Int) ([0] ++ midM m i)) r := by
  obtain ⟨p1, p2, _, _⟩ := pow_small n h1 h4
  intro j
  induction j with
  | zero =>
    intro i hi
    obtain rfl : i = 2 ^ n - 2 := by omega
    refine Ev.step (fun k => spacesL.l1.eq_2 _ _ _ _ _ _ _ _ _ k) ?_
    have hlen : ([0] ++ midM m (2 ^ n - 2)).length < 17592186044416 := by have := midM_len m (2 ^ n - 2); simp; omega
    have ew : wrap64 ((m : Int) + 1) = ((m + 1 : Nat) : Int) := by rw [wrap_small (by omega) (by omega)]; omega
    refine Ev.neg (by omega) (Ev.pos hlen ?_)
    simp only [Option.bind_some, ew]
    refine Ev.bind (a := goodM n m) (Ev.now _) ?_
    cases hg : goodM n m with
    | true =>
      rw [hg] at hq
      refine Ev.pos rfl (Ev.pos (by omega) ?_)
      exact hq
    | false =>
      rw [hg] at hq
      refine Ev.neg (by simp) ?_
      simpa using hq
  | succ j ih =>
    intro i hi
    refine Ev.step (fun k => spacesL.l1.eq_2 _ _ _ _ _ _ _ _ _ k) ?_
    have e1 : wrap64 (((i + 1 : Nat) : Int) - 1) = (i : Int) := by unfold wrap64; omega
    have e2 : wrap64 (((i + 1 : Nat) : Int) + 1) = ((i + 1 + 1 : Nat) : Int) := by unfold wrap64; omega
    have hlen : ([0] ++ midM m i).length < 17592186044416 := by have := midM_len m i; simp; omega
    have h2 := ih (i + 1) (by omega)
    rw [midM_succ] at h2
    simp only [e1, e2, bit_one m i (by omega) (by omega)]
    refine Ev.pos (by omega) (Ev.pos (by omega) ?_)
    cases hb : m.testBit i with
    | true =>
      rw [hb] at h2
      refine Ev.pos (by simp) (Ev.pos hlen ?_)
      simpa using h2
    | false =>
      rw [hb] at h2
      refine Ev.neg (by simp) ?_
      simpa using h2
theorem spacesL_l0 : ∀ (j c : Nat), c + j = 2 ^ (2 ^ n - 2) → Ev (fun k => spacesL.l0 k (n : Int) (rawS n c) ((2 ^ n - 1 : Nat) : Int) ((2 ^ (2 ^ n - 2) : Nat) : Int) (c : Int)) (rawSpaces n) := by
  obtain ⟨p1, p2, p3, p4⟩ := pow_small n h1 h4
  intro j
  induction j with
  | zero =>
    intro c hc
    obtain rfl : c = 2 ^ (2 ^ n - 2) := by omega
    refine Ev.step (fun k => spacesL.l0.eq_2 _ _ _ _ _ k) (Ev.neg (by omega) (Ev.now _))
  | succ j ih =>
    intro c hc
    refine Ev.step (fun k => spacesL.l0.eq_2 _ _ _ _ _ k) (Ev.pos (by omega) ?_)
    have h2 := ih (c + 1) (by omega)
    rw [rawS_succ] at h2
    have := spacesL_l1 n h1 h4 c (by omega) (rawS n c) (by have := rawS_len n c; omega) _ _ h2 (2 ^ n - 2) 0 (by omega)
    exact this
theorem spacesL_pure : Ev (fun k => spacesL.f k (n : Int)) (rawSpaces n) := by
  have hf : ∀ n, n ≤ 4 → 1 ≤ n → 0 ≤ IntKind.u64.wrap ((shl .u64 1 ((n : Nat) : Int)) - 2) ∧ wrap64 ((shl .i64 1 (n : Int)) - 1) = ((2 ^ n - 1 : Nat) : Int) ∧ shl .i64 1 (IntKind.u64.wrap ((shl .u64 1 (n : Int)) - 2)) = ((2 ^ (2 ^ n - 2) : Nat) : Int) := by decide +kernel
  obtain ⟨q1, q2, q3⟩ := hf n h4 h1
  refine Ev.congr (fun k => spacesL.f.eq_1 k _) (Ev.pos (by omega) (Ev.pos q1 ?_))
  rw [q2, q3]
  exact spacesL_l0 n h1 h4 (2 ^ (2 ^ n - 2)) 0 (by omega)
theorem rawSpaces_ne : rawSpaces n ≠ [] := by
  have hf : ∀ n, n ≤ 4 → 1 ≤ n → goodM n (2 ^ (2 ^ n - 2) - 1) = true := by decide +kernel
  have hg := hf n h4 h1
  obtain ⟨p1, p2, p3, p4⟩ := pow_small n h1 h4
  have : (⟨(n : Int), setsM n (2 ^ (2 ^ n - 2) - 1)⟩ : S28) ∈ rawSpaces n := by
    unfold rawSpaces rawS
    exact List.mem_map.2 ⟨_, List.mem_filter.2 ⟨by simp; omega, hg⟩, rfl⟩
  intro h; rw [h] at this; cases this
theorem rawSpaces_f1 : ∀ x ∈ rawSpaces n, x.f1.length < 4611686018427387904 := by
  obtain ⟨p1, p2, p3, p4⟩ := pow_small n h1 h4
  intro x hx
  simp only [rawSpaces, rawS, List.mem_map] at hx
  obtain ⟨m, _, rfl⟩ := hx
  have := midM_len m (2 ^ n - 2)
  simp [setsM]; omega
end
def leS (a b : S28) : Bool := decide (cmpL a.f1 b.f1 ≤ 0)
/-- all spaces of so many items, in order -/
def allSp (n : Nat) : List S28 := (rawSpaces n).mergeSort leS
theorem leS_trans (a b c : S28) (h : leS a b = true) (h' : leS b c = true) : leS a c = true := by
  simp only [leS, decide_eq_true_eq] at *
  exact (cmpL_trans _ _ _ h h').1
theorem leS_total (a b : S28) : (leS a b || leS b a) = true := by
  simp only [leS, Bool.or_eq_true, decide_eq_true_eq]
  have := cmpL_neg a.f1 b.f1; omega
theorem sorted_is {n c : Nat} {xs ys : List S28} (hp : xs.Perm ys) (hx : xs.Pairwise (fun a b => leS a b = true)) (hy : ys.Pairwise (fun a b => leS a b = true)) (hn : ∀ x ∈ xs, x.f0 = (n : Int)) : xs = ys := by
  refine List.Perm.eq_of_pairwise (le := fun a b => leS a b = true) ?_ hx hy hp
  intro a b ha hb h1 h2
  simp only [leS, decide_eq_true_eq] at h1 h2
  have := cmpL_neg a.f1 b.f1
  have e : a.f1 = b.f1 := cmpL_eq (by omega)
  have e0 : a.f0 = b.f0 := (hn a ha).trans (hn b (hp.mem_iff.2 hb)).symm
  cases a; cases b; simp_all
def impl_spaces.f (a0 : Int) : Option (List S28) := if 1 ≤ a0 ∧ a0 ≤ 4 then some (allSp a0.toNat) else none
theorem impl_spaces.calls (a0 : Int) (r : List S28) (w : World) (h : impl_spaces.f a0 = some r) :
    Calls Try.prog 85 #[.int .i64 a0] w fun e w' => ∃ v0_ : Value, e = .returned (v0_) ∧ Kd.S k28 28 w' w.heap.size (fun _ => True) v0_ r ∧ Below w.heap.size w w' := by
  unfold impl_spaces.f at h
  by_cases ha : 1 ≤ a0 ∧ a0 ≤ 4
  · rw [if_pos ha] at h
    obtain rfl := Option.some.inj h
    obtain ⟨n, rfl⟩ : ∃ n : Nat, a0 = n := ⟨a0.toNat, by omega⟩
    have h1 : 1 ≤ n := by omega
    have h4 : n ≤ 4 := by omega
    rw [show ((n : Int)).toNat = n by omega]
    obtain ⟨k, hk⟩ := (spacesL_pure n h1 h4).rounds
    have hl : (rawSpaces n).length ≤ 16384 := Nat.le_trans (rawS_len _ _) (pow_small n h1 h4).2.2.2
    refine (spacesL.calls k (n : Int) _ w hk (rawSpaces_ne n h1 h4) (rawSpaces_f1 n h1 h4) (by omega)).mono ?_
    rintro e w' ⟨v, ys, rfl, hS, hb, hp, ho⟩
    refine ⟨v, rfl, ?_, hb⟩
    have : ys = allSp n := by
      refine sorted_is (n := n) (c := 0) (hp.trans (List.mergeSort_perm _ _).symm) ?_ (List.pairwise_mergeSort leS_trans leS_total _) (fun x hx => rawS_f0 n _ x (hp.mem_iff.1 hx))
      exact ho.imp (fun h => by simpa [leS] using h)
    rw [← this]; exact hS
  · rw [if_neg ha] at h; cases h
end Go.Proofs.Ytjhjphgdjhahlaa.P
-- PRINTED by print.py (a twelfth state) out of the translation. Not trusted: Lean checks it.
namespace Go.Proofs.Ytjhjphgdjhahlaa.P
open Go.RowKit Go.Proofs.YtjhjphgdjhahlaaW.PrintWords Go.Proofs.YtjhjphgdjhahlaaW.PrintLast Go.Proofs.YtjhjphgdjhahlaaW.PrintMore
attribute [local go_sem] max2_int min2_int max_two min_two max_three min_three max_four min_four   -- for this text's walks alone
set_option linter.unusedVariables false
set_option linter.unusedSimpArgs false

/-! ### impl_CountUpToNames: function 45 -/
def impl_CountUpToNames.l0 : Nat → Int → List (S28) → Int → Int → Option (Int × Bool)
  | 0, _, _, _, _ => none
  | k + 1, x4, x11, x12, x13 => if x13 < x12 then (if 0 ≤ x13 then (if x13 < (x11.length : Int) then ((impl_leastNamed.f ((rd_T28 x11 x13).f0) ((rd_T28 x11 x13).f1)).bind fun bt314 => ((impl_compare.f k ((rd_T28 x11 x13).f0) ((rd_T28 x11 x13).f1) bt314.1 bt314.2).bind fun t318 => (if t318 = 0 then (impl_CountUpToNames.l0 k (wrap64 (x4 + 1)) x11 x12 (wrap64 (x13 + 1))) else (impl_CountUpToNames.l0 k x4 x11 x12 (wrap64 (x13 + 1)))))) else (none)) else (none)) else (some (x4, true))
def impl_CountUpToNames.f (k : Nat) (a0 : Int) : Option (Int × Bool) := (impl_within.f a0 1 4).bind fun t308 => (if t308 = true then ((impl_spaces.f a0).bind fun t309 => (impl_CountUpToNames.l0 k 0 t309 (t309.length : Int) 0)) else (some (0, false)))
theorem impl_CountUpToNames.mono_l : ∀ k, (∀ y0 y1 y2 y3, LeO (impl_CountUpToNames.l0 k y0 y1 y2 y3) (impl_CountUpToNames.l0 (k + 1) y0 y1 y2 y3))
  | 0 => fun _ _ _ _ r h => by simp [impl_CountUpToNames.l0] at h
  | k + 1 => by
    have ih0 := impl_CountUpToNames.mono_l k
    · intro y0 y1 y2 y3
      unfold impl_CountUpToNames.l0
      repeat' first
      | (with_reducible exact ih0 _ _ _ _)
      | (with_reducible exact impl_compare.mono _ _ _ _ _)
      | (with_reducible exact LeO.refl _)
      | (with_reducible exact LeO.none _)
      | (with_reducible refine LeO.ite ?_ ?_)
      | (with_reducible refine LeO.bind ?_ (fun _ => ?_))
      | exact ih0 _ _ _ _
      | exact impl_compare.mono _ _ _ _ _
      | exact LeO.none _
      | refine LeO.ite ?_ ?_
      | refine LeO.bind ?_ (fun _ => ?_)
theorem impl_CountUpToNames.mono : ∀ a0 k, LeO (impl_CountUpToNames.f k a0) (impl_CountUpToNames.f (k + 1) a0) := by
  intro a0 k
  have ih0 := impl_CountUpToNames.mono_l k
  unfold impl_CountUpToNames.f
  repeat' first
      | (with_reducible exact ih0 _ _ _ _)
      | (with_reducible exact impl_compare.mono _ _ _ _ _)
      | (with_reducible exact LeO.refl _)
      | (with_reducible exact LeO.none _)
      | (with_reducible refine LeO.ite ?_ ?_)
      | (with_reducible refine LeO.bind ?_ (fun _ => ?_))
      | exact ih0 _ _ _ _
      | exact impl_compare.mono _ _ _ _ _
      | exact LeO.none _
      | refine LeO.ite ?_ ?_
      | refine LeO.bind ?_ (fun _ => ?_)
set_option maxHeartbeats 8000000 in
set_option maxRecDepth 100000 in
theorem impl_CountUpToNames.calls (k : Nat) (a0 : Int) (r1 : Int) (r2 : Bool) (w : World) (h : impl_CountUpToNames.f k a0 = some (r1, r2)) :
    Calls Try.prog 45 #[.int .i64 a0] w fun e w' => e = .returned (.tuple #[.int .i64 r1, .bool r2]) ∧ Below w.heap.size w w' := by
  have hu28 := Try.underlying28
  have HB := Aside0.mk (Below.refl w.heap.size w)
  have H : ((impl_within.f a0 1 4).bind fun t308 => (if t308 = true then ((impl_spaces.f a0).bind fun t309 => (impl_CountUpToNames.l0 k 0 t309 (t309.length : Int) 0)) else (some (0, false)))) = some (r1, r2) := h
  clear h
  replace H := Option.bind_eq_some_iff.mp H
  obtain ⟨t308, A20, H⟩ := H
  replace H : (if t308 = true then ((impl_spaces.f a0).bind fun t309 => (impl_CountUpToNames.l0 k 0 t309 (t309.length : Int) 0)) else (some (0, false))) = some (r1, r2) := H
  have A2 := Aside0.mk A20
  clear A20
  by_cases c3 : t308 = true
  · subst c3
    have H1 : ((impl_spaces.f a0).bind fun t309 => (impl_CountUpToNames.l0 k 0 t309 (t309.length : Int) 0)) = some (r1, r2) := by rw [if_pos rfl] at H; exact H
    clear H
    have H := H1
    clear H1
    replace H := Option.bind_eq_some_iff.mp H
    obtain ⟨t309, A40, H⟩ := H
    replace H : (impl_CountUpToNames.l0 k 0 t309 (t309.length : Int) 0) = some (r1, r2) := H
    have A4 := Aside0.mk A40
    clear A40
    have H' := Aside0.mk H
    clear H
    go_enter Try.func45, Try.ntmps45
    go_wp2_with (first | ((with_reducible refine gate_callee (f := 74) rfl ?_); refine goesL_ (some 8) rfl rfl Try.func74 (by kernel_rfl) rfl #[.int .i64 a0, .int .i64 1, .int .i64 4] rfl (by (try simp only [List.map_toArray, List.map_cons, List.map_nil]); first | done | rfl | (simp only [List.length_drop, List.length_take]; rfl)) ?_; (with_reducible refine (impl_within.calls a0 1 4 true _ A2.out).mono ?_); rintro e w' ⟨rfl, ⟨nd, rfl⟩⟩; refine ⟨_, rfl, ?_⟩) | ((with_reducible refine gate_callee (f := 85) rfl ?_); refine goesL_ (some 11) rfl rfl Try.func85 (by kernel_rfl) rfl #[.int .i64 a0] rfl (by (try simp only [List.map_toArray, List.map_cons, List.map_nil]); first | done | rfl | (simp only [List.length_drop, List.length_take]; rfl)) ?_; (with_reducible refine (impl_spaces.calls a0 t309 _ A4.out).mono ?_); rintro e w5 ⟨v310, rfl, ho0, hb⟩; refine ⟨_, rfl, ?_⟩; have n0_ := Aside0.mk (Kd.S_lower ho0 (below_size (by repeat (first | (with_reducible first | exact HB.out | apply below_alloc | apply pw_below_drewN | apply below_drew1) | exact HB.out)))); have n1_ := Aside0.mk (below_step (by repeat (first | (with_reducible first | exact HB.out | apply below_alloc | apply pw_below_drewN | apply below_drew1) | exact HB.out)) hb); clear HB; have HO311 := n0_; have HB := n1_; clear n0_ n1_; (try clear hb); (try clear hb2); (try clear hk); (try clear hi); (try clear ho0); obtain ⟨Ao6, co6, eo6⟩ := Kd.S_slice HO311.out; subst eo6))
    go_loopg [4, 13] k (fun kq v4 v13 w' => ∃ (x4_1 : Int) (x13_1 : Int), v4 = .int .i64 x4_1 ∧ v13 = .int .i64 x13_1 ∧ Aside0 (impl_CountUpToNames.l0 kq x4_1 t309 (t309.length : Int) x13_1 = some (r1, r2)) ∧ Aside0 (kq ≤ k) ∧ Aside0 (Kd.S k28 28 w' w.heap.size (fun _ => True) (.slice Ao6 t309.length co6) t309) ∧ Aside0 (Below w.heap.size w w'))
    case atStart => exact ⟨(0), (0), (by first | rfl | (simp; done) | (simp [*]; done)), (by first | rfl | (simp; done) | (simp [*]; done)), H', ⟨Nat.le_refl _⟩, ⟨by (with_reducible repeat (first | apply Kd.S_alloc | apply Kd.S_drewN | apply Kd.S_drew)); exact HO311.out⟩, ⟨by repeat (first | (with_reducible first | exact HB.out | apply below_alloc | apply pw_below_drewN | apply below_drew1) | exact HB.out)⟩⟩
    case round =>
      clear H'
      try clear p2
      try clear c3
      try clear c4
      obtain ⟨x4_1, x13_1, rfl, rfl, HA, HK1, HO_11, HB⟩ := hrel
      cases gk with
      | zero => exact absurd HA.out (by simp [impl_CountUpToNames.l0])
      | succ k1 =>
        have H := HA.out
        clear HA
        simp only [impl_CountUpToNames.l0] at H
        by_cases c7 : x13_1 < (t309.length : Int)
        · rw [if_pos c7] at H
          have c7b0 : decide (x13_1 < (t309.length : Int)) = true := decide_eq_true c7
          clear c7
          by_cases c8 : 0 ≤ x13_1
          · rw [if_pos c8] at H
            have c8b0 : decide (0 ≤ x13_1) = true := decide_eq_true c8
            clear c8
            by_cases c9 : x13_1 < (t309.length : Int)
            · rw [if_pos c9] at H
              have c9b0 : decide (x13_1 < (t309.length : Int)) = true := decide_eq_true c9
              clear c9
              replace H := Option.bind_eq_some_iff.mp H
              obtain ⟨⟨t314, t315⟩, A100, H⟩ := H
              replace H : ((impl_compare.f k1 ((rd_T28 t309 x13_1).f0) ((rd_T28 t309 x13_1).f1) t314 t315).bind fun t318 => (if t318 = 0 then (impl_CountUpToNames.l0 k1 (wrap64 (x4_1 + 1)) t309 (t309.length : Int) (wrap64 (x13_1 + 1))) else (impl_CountUpToNames.l0 k1 x4_1 t309 (t309.length : Int) (wrap64 (x13_1 + 1))))) = some (r1, r2) := H
              have A10 := Aside0.mk A100
              clear A100
              replace H := Option.bind_eq_some_iff.mp H
              obtain ⟨t318, A110, H⟩ := H
              replace H : (if t318 = 0 then (impl_CountUpToNames.l0 k1 (wrap64 (x4_1 + 1)) t309 (t309.length : Int) (wrap64 (x13_1 + 1))) else (impl_CountUpToNames.l0 k1 x4_1 t309 (t309.length : Int) (wrap64 (x13_1 + 1)))) = some (r1, r2) := H
              have A11 := Aside0.mk A110
              clear A110
              by_cases c12 : t318 = 0
              · rw [if_pos c12] at H
                have c12b0 : (t318 == 0) = true := beq_iff_eq.mpr c12
                have c12b1 : (t318 != 0) = false := bne_eq_false_iff_eq.mpr c12
                clear c12
                have H' := Aside0.mk H
                clear H
                have p312 : 0 ≤ (x13_1 : Int) := of_decide_eq_true (by first | (with_reducible assumption) | assumption)
                have q312 : x13_1 < (t309.length : Int) := of_decide_eq_true (by first | (with_reducible assumption) | assumption)
                obtain ⟨ad312, A312_1, c312_1, e312, hx312_0, hx312_1, hl312_1, hi312_1⟩ := at_T28 (Kd.S_reads' HO_11.out).2.2 x13_1 p312 q312
                cases e312
                obtain ⟨ce312, hce312, hMe312, hcc312⟩ := Kd.S_get HO_11.out z28 x13_1 p312 (by first | exact q312 | exact of_decide_eq_true (by first | (with_reducible assumption) | assumption) | (have e_ := (Kd.S_reads' HO_11.out).1; omega))
                obtain ⟨ve312_1, rfl, ge312_1⟩ := k28_openM hMe312
                have hv312_1 := hcc312 1 _ rfl
                rw [add_field _ _ 1 (by omega)] at hv312_1
                replace hv312_1 := Option.some.inj (hv312_1.symm.trans hx312_1)
                rw [hv312_1] at ge312_1
                have HL312_1 := Aside0.mk (show Kd.R (Kd.int .i64) 3 _ _ _ _ ((rd_T28 t309 x13_1).f1) from ge312_1)
                clear hv312_1 ge312_1
                clear hcc312 hce312
                have HR312_1 := Aside0.mk hi312_1
                have HC312_1 := Aside0.mk hl312_1
                clear hi312_1 hl312_1
                replace p312 := eq_true p312
                replace q312 := eq_true q312
                try go_wp2_with (first | ((with_reducible refine gate_dst (N := 6) rfl ?_); refine box_event ?hg (N := 6) ?hd (cs := #[.int .i64 0, .slice none 0 0]) (t := 28) ?hr ?_; (case hd => rfl); (case hg => rfl); (case hr => first | (go_simp; done) | (go_simp; rfl)); intro gb313 hg w13 hbox hb; have n0_ := Aside0.mk (Kd.S_below (Kd.S_elderB (by (with_reducible repeat (first | apply Kd.S_alloc | apply Kd.S_drewN | apply Kd.S_drew)); exact HO_11.out) gb313 (Nat.le_of_eq hg.symm)) hb); have n1_ := Aside0.mk (Kd.R_below (by (with_reducible repeat (first | apply Kd.R_alloc | apply Kd.R_drewN | apply Kd.R_drew)); exact HL312_1.out) hb); have n2_ := Aside0.mk (Kd.C_below (by repeat (first | (with_reducible exact HR312_1.out) | (with_reducible refine Kd.C_alloc ?_ _) | (with_reducible refine Kd.C_drewN ?_ _) | (with_reducible refine Kd.C_drew ?_) | exact HR312_1.out)) hb); have n3_ := Aside0.mk (below_step (by repeat (first | (with_reducible first | exact HB.out | apply below_alloc | apply pw_below_drewN | apply below_drew1) | exact HB.out)) hb); have n4_ := Aside0.mk (hbox); have n5_ := Aside0.mk ((by rw [hg]; exact (below_size (by repeat (first | (with_reducible first | exact HB.out | apply below_alloc | apply pw_below_drewN | apply below_drew1) | exact HB.out))) : w.heap.size ≤ gb313)); have n6_ := Aside0.mk ((by rw [hg]; exact (below_size (by repeat (first | (with_reducible first | exact HB.out | apply below_alloc | apply pw_below_drewN | apply below_drew1) | exact HB.out))) : w.heap.size ≤ gb313)); clear HO_11; clear HL312_1; clear HR312_1; clear HB; have HO_11 := n0_; have HL312_1 := n1_; have HR312_1 := n2_; have HB := n3_; have BK313 := n4_; have GW313 := n5_; have GE313 := n6_; clear n0_ n1_ n2_ n3_ n4_ n5_ n6_; clear hb hbox hg; have hcz14_0 : w13.cell? ⟨gb313, 0, none⟩ = some (.int .i64 0) := (blk_cell BK313.out 0).trans rfl; have hcz14_1 : w13.cell? ⟨gb313, 1, none⟩ = some (.slice none 0 0) := (blk_cell BK313.out 1).trans rfl; have hfz14_0 := blk_frozen BK313.out 0; have hfz14_1 := blk_frozen BK313.out 1))
                have n0_ : Aside0 (Kd.S k28 28 ((w13.setCell ⟨gb313, 0, none⟩ (.int .i64 ((rd_T28 t309 x13_1).f0))).setCell ⟨gb313, 1, none⟩ (.slice A312_1 ((rd_T28 t309 x13_1).f1).length c312_1)) w.heap.size (fun k_ => k_ ≠ gb313) (.slice (some ad312) t309.length co6) t309) := ⟨by (with_reducible repeat (first | apply Kd.S_alloc | apply Kd.S_drewN | apply Kd.S_drew)); exact Kd.S_mono (Kd.S_far (p := ⟨gb313, 1, none⟩) (Kd.S_far (p := ⟨gb313, 0, none⟩) (Kd.S_mono HO_11.out (fun k_ hk => (⟨hk, hk.2⟩ : _ ∧ k_ ≠ gb313))) (fun _ hk => hk.2) (.int .i64 ((rd_T28 t309 x13_1).f0))) (fun _ hk => hk.2) (.slice A312_1 ((rd_T28 t309 x13_1).f1).length c312_1)) (fun _ hk => hk.1.2)⟩
                have n1_ : Aside0 (Kd.R (Kd.int .i64) 3 ((w13.setCell ⟨gb313, 0, none⟩ (.int .i64 ((rd_T28 t309 x13_1).f0))).setCell ⟨gb313, 1, none⟩ (.slice A312_1 ((rd_T28 t309 x13_1).f1).length c312_1)) w.heap.size (fun k_ => some k_ ≠ (.slice (some ad312) t309.length co6 : Value).ownBlock) (.slice A312_1 ((rd_T28 t309 x13_1).f1).length c312_1) ((rd_T28 t309 x13_1).f1)) := ⟨by (with_reducible repeat (first | apply Kd.R_alloc | apply Kd.R_drewN | apply Kd.R_drew)); exact Kd.R_mono (Kd.R_far (p := ⟨gb313, 1, none⟩) (Kd.R_far (p := ⟨gb313, 0, none⟩) (Kd.R_types HL312_1.out BK313.out (by decide)) (fun _ hk => hk.2) (.int .i64 ((rd_T28 t309 x13_1).f0))) (fun _ hk => hk.2) (.slice A312_1 ((rd_T28 t309 x13_1).f1).length c312_1)) (fun _ hk => hk.1.2)⟩
                have n2_ : Aside0 (((w13.setCell ⟨gb313, 0, none⟩ (.int .i64 ((rd_T28 t309 x13_1).f0))).setCell ⟨gb313, 1, none⟩ (.slice A312_1 ((rd_T28 t309 x13_1).f1).length c312_1)).heap[gb313]? = some (.cells #[.int .i64 ((rd_T28 t309 x13_1).f0), .slice A312_1 ((rd_T28 t309 x13_1).f1).length c312_1] 28 (0, 0))) := ⟨by (with_reducible repeat (first | refine blk_drewN ?_ _ | refine blk_drew ?_ | refine blk_alloc ?_ _)); refine blk_put (cs := #[.int .i64 ((rd_T28 t309 x13_1).f0), .slice none 0 0]) ?_ 1 _ rfl; (with_reducible repeat (first | refine blk_drewN ?_ _ | refine blk_drew ?_ | refine blk_alloc ?_ _)); refine blk_put (cs := #[.int .i64 0, .slice none 0 0]) ?_ 0 _ rfl; (with_reducible repeat (first | refine blk_drewN ?_ _ | refine blk_drew ?_ | refine blk_alloc ?_ _)); exact BK313.out⟩
                have n3_ : Aside0 (Below w.heap.size w ((w13.setCell ⟨gb313, 0, none⟩ (.int .i64 ((rd_T28 t309 x13_1).f0))).setCell ⟨gb313, 1, none⟩ (.slice A312_1 ((rd_T28 t309 x13_1).f1).length c312_1))) := ⟨by repeat (first | (with_reducible first | exact HB.out | apply below_alloc | apply pw_below_drewN | apply below_drew1 | refine below_set ?_ GE313.out) | exact HB.out)⟩
                (try clear HO_11)
                (try clear HL312_1)
                (try clear BK313)
                (try clear HB)
                generalize ((w13.setCell ⟨gb313, 0, none⟩ (.int .i64 ((rd_T28 t309 x13_1).f0))).setCell ⟨gb313, 1, none⟩ (.slice A312_1 ((rd_T28 t309 x13_1).f1).length c312_1)) = w15 at n0_ n1_ n2_ n3_ ⊢
                have HO_11 := n0_
                have HL312_1 := n1_
                have BK313 := n2_
                have HB := n3_
                clear n0_ n1_ n2_ n3_
                have n0_ := Aside0.mk (Kd.S_drew HO_11.out)
                have n1_ := Aside0.mk (Kd.R_drew HL312_1.out)
                have n2_ := Aside0.mk (blk_drew BK313.out)
                have n3_ := Aside0.mk (below_drew1 HB.out)
                clear HO_11
                clear HL312_1
                clear BK313
                clear HB
                have HO_11 := n0_
                have HL312_1 := n1_
                have BK313 := n2_
                have HB := n3_
                clear n0_ n1_ n2_ n3_
                refine start_ (n := 5) (S := fun w' => w'.cell? ⟨gb313, 0, none⟩ = some (.int .i64 ((rd_T28 t309 x13_1).f0)) ∧ w'.cell? ⟨gb313, 1, none⟩ = some (.slice A312_1 ((rd_T28 t309 x13_1).f1).length c312_1)) (ds := []) #[false, false, false, false, false] (by kernel_rfl) rfl rfl ⟨(blk_cell BK313.out 0).trans rfl, (blk_cell BK313.out 1).trans rfl⟩ (fun hHeld => ?_)
                generalize w15.drew = w16 at HO_11 HL312_1 BK313 HB hHeld ⊢
                refine take_ (i := 0) (N := some 17) (v := ?_) (a' := ?_) #[true, false, false, false, false] rfl rfl (by kernel_rfl) (fun _ _ _ h => h) (Or.inl ⟨by rfl, ?_⟩) hHeld ?_ ?_
                rotate_left
                · rintro w' ⟨s0, s1⟩
                  go_simp
                  with_reducible rfl
                rotate_left
                · simp only [Act.put, List.setIfInBounds_toArray, List.set_cons_zero, List.set_cons_succ, i64_w, i32_w]
                  rfl
                refine take_ (i := 1) (N := some 18) (v := ?_) (a' := ?_) #[true, true, false, false, false] rfl rfl (by kernel_rfl) (fun _ _ _ h => h) (Or.inl ⟨by rfl, ?_⟩) hHeld ?_ ?_
                rotate_left
                · rintro w' ⟨s0, s1⟩
                  go_simp
                  with_reducible rfl
                rotate_left
                · simp only [Act.put, List.setIfInBounds_toArray, List.set_cons_zero, List.set_cons_succ, i64_w, i32_w]
                  rfl
                refine one_ (i := 2) (N := some 19) #[true, true, true, false, false] rfl rfl (by kernel_rfl) (by decide) (fun K hK => ?_)
                refine goes_ Try.func53 (by kernel_rfl) rfl #[.agg #[.int .i64 ((rd_T28 t309 x13_1).f0), .slice A312_1 ((rd_T28 t309 x13_1).f1).length c312_1]] (by rfl) rfl rfl (by (try simp only [List.map_toArray, List.map_cons, List.map_nil]); first | done | rfl | (simp only [List.length_drop, List.length_take]; rfl)) ?_
                with_reducible refine (impl_leastNamed.calls ((rd_T28 t309 x13_1).f0) _ _ ((rd_T28 t309 x13_1).f1) t314 t315 _ ?side1 ?side2 A10.out).mono ?_
                (case side1 => repeat (first | exact ((Kd.R_reads' (by (with_reducible repeat (first | apply Kd.R_alloc | apply Kd.R_drewN | apply Kd.R_drew)); exact HL312_1.out)).2.2) | (with_reducible refine Kd.C_alloc ?_ _) | (with_reducible refine Kd.C_drewN ?_ _) | (with_reducible refine Kd.C_drew ?_)))
                (case side2 => exact HC312_1.out)
                rintro e w17 ⟨v316, rfl, ho0, hb⟩
                refine ⟨_, rfl, ?_⟩
                have n0_ := Aside0.mk (Kd.S_elder' (by (with_reducible repeat (first | apply Kd.S_alloc | apply Kd.S_drewN | apply Kd.S_drew)); exact HO_11.out) (Kd.R_base ho0) hb)
                have n1_ := Aside0.mk (Kd.R_elder' (by (with_reducible repeat (first | apply Kd.R_alloc | apply Kd.R_drewN | apply Kd.R_drew)); exact HL312_1.out) (Kd.R_base ho0) hb)
                have n2_ := Aside0.mk (Kd.R_lower (Kd.R_new' ho0 (Kd.R_lt (by (with_reducible repeat (first | apply Kd.R_alloc | apply Kd.R_drewN | apply Kd.R_drew)); exact HL312_1.out))) (below_size (by repeat (first | (with_reducible first | exact HB.out | apply below_alloc | apply pw_below_drewN | apply below_drew1 | refine below_set ?_ GE313.out) | exact HB.out))))
                have n3_ := Aside0.mk (blk_below (g := gb313) (o := .cells #[.int .i64 ((rd_T28 t309 x13_1).f0), .slice A312_1 ((rd_T28 t309 x13_1).f1).length c312_1] 28 (0, 0)) (by (with_reducible repeat (first | refine blk_drewN ?_ _ | refine blk_drew ?_ | refine blk_alloc ?_ _)); exact BK313.out) hb)
                have n4_ := Aside0.mk (below_step (by repeat (first | (with_reducible first | exact HB.out | apply below_alloc | apply pw_below_drewN | apply below_drew1 | refine below_set ?_ GE313.out) | exact HB.out)) hb)
                clear HO_11
                clear HL312_1
                clear BK313
                clear HB
                have HO_11 := n0_
                have HL312_1 := n1_
                have HO317 := n2_
                have BK313 := n3_
                have HB := n4_
                clear n0_ n1_ n2_ n3_ n4_
                (try clear hb)
                (try clear hb2)
                (try clear hk)
                (try clear hi)
                (try clear ho0)
                obtain ⟨Ao18, co18, eo18⟩ := Kd.R_slice HO317.out
                (first | subst eo18 | (injection eo18 with f1_ f2_ f3_; have f4_ := f1_.symm; have f5_ := f3_.symm; clear f1_ f2_ f3_; subst f4_; subst f5_))
                refine hK.out _ _ ⟨(blk_cell BK313.out 0).trans rfl, (blk_cell BK313.out 1).trans rfl⟩ (fun hHeld => ?_)
                clear hK K
                refine norm_ (a' := ?_) ?_ ?_
                rotate_left
                · show Act.put _ (some 19) _ = _
                  simp only [Act.put, List.setIfInBounds_toArray, List.set_cons_zero, List.set_cons_succ, i64_w, i32_w]
                  rfl
                refine one_ (i := 3) (N := some 20) #[true, true, true, true, false] rfl rfl (by kernel_rfl) (by decide) (fun K hK => ?_)
                refine goes_ Try.func52 (by kernel_rfl) rfl #[.agg #[.int .i64 ((rd_T28 t309 x13_1).f0), .slice A312_1 ((rd_T28 t309 x13_1).f1).length c312_1], .agg #[.int .i64 t314, .slice Ao18 t315.length co18]] (by rfl) rfl rfl (by (try simp only [List.map_toArray, List.map_cons, List.map_nil]); first | done | rfl | (simp only [List.length_drop, List.length_take]; rfl)) ?_
                with_reducible refine (impl_compare.calls k1 ((rd_T28 t309 x13_1).f0) _ _ ((rd_T28 t309 x13_1).f1) t314 _ _ t315 t318 _ ?side1 ?side2 ?side3 ?side4 A11.out).mono ?_
                (case side1 => repeat (first | exact ((Kd.R_reads' (by (with_reducible repeat (first | apply Kd.R_alloc | apply Kd.R_drewN | apply Kd.R_drew)); exact HL312_1.out)).2.2) | (with_reducible refine Kd.C_alloc ?_ _) | (with_reducible refine Kd.C_drewN ?_ _) | (with_reducible refine Kd.C_drew ?_)))
                (case side2 => exact HC312_1.out)
                (case side3 => repeat (first | exact (Kd.R_reads' HO317.out).2.2 | (with_reducible refine Kd.C_alloc ?_ _) | (with_reducible refine Kd.C_drewN ?_ _) | (with_reducible refine Kd.C_drew ?_)))
                (case side4 => exact (Kd.R_reads' HO317.out).2.1)
                rintro e w19 ⟨rfl, hb⟩
                refine ⟨_, rfl, ?_⟩
                have n0_ := Aside0.mk (Kd.S_below (by (with_reducible repeat (first | apply Kd.S_alloc | apply Kd.S_drewN | apply Kd.S_drew)); exact HO_11.out) hb)
                have n1_ := Aside0.mk (Kd.R_below (by (with_reducible repeat (first | apply Kd.R_alloc | apply Kd.R_drewN | apply Kd.R_drew)); exact HL312_1.out) hb)
                have n2_ := Aside0.mk (Kd.R_below (by (with_reducible repeat (first | apply Kd.R_alloc | apply Kd.R_drewN | apply Kd.R_drew)); exact HO317.out) hb)
                have n3_ := Aside0.mk (blk_below (g := gb313) (o := .cells #[.int .i64 ((rd_T28 t309 x13_1).f0), .slice A312_1 ((rd_T28 t309 x13_1).f1).length c312_1] 28 (0, 0)) (by (with_reducible repeat (first | refine blk_drewN ?_ _ | refine blk_drew ?_ | refine blk_alloc ?_ _)); exact BK313.out) hb)
                have n4_ := Aside0.mk (below_step (by repeat (first | (with_reducible first | exact HB.out | apply below_alloc | apply pw_below_drewN | apply below_drew1 | refine below_set ?_ GE313.out) | exact HB.out)) hb)
                clear HO_11
                clear HL312_1
                clear HO317
                clear BK313
                clear HB
                have HO_11 := n0_
                have HL312_1 := n1_
                have HO317 := n2_
                have BK313 := n3_
                have HB := n4_
                clear n0_ n1_ n2_ n3_ n4_
                (try clear hb)
                (try clear hb2)
                (try clear hk)
                (try clear hi)
                refine hK.out _ _ ⟨(blk_cell BK313.out 0).trans rfl, (blk_cell BK313.out 1).trans rfl⟩ (fun hHeld => ?_)
                clear hK K
                refine norm_ (a' := ?_) ?_ ?_
                rotate_left
                · show Act.put _ (some 20) _ = _
                  simp only [Act.put, List.setIfInBounds_toArray, List.set_cons_zero, List.set_cons_succ, i64_w, i32_w]
                  rfl
                refine pure_ (i := 4) (N := some 21) (v := ?_) (a' := ?_) #[true, true, true, true, true] rfl rfl (by kernel_rfl) (fun _ _ _ h => h) (Or.inl ⟨by rfl, ?_⟩) ?_ ?_
                rotate_left
                · intro w'
                  go_simp
                  with_reducible rfl
                rotate_left
                · simp only [Act.put, List.setIfInBounds_toArray, List.set_cons_zero, List.set_cons_succ, i64_w, i32_w]
                  rfl
                refine done_ (by kernel_rfl) ?_
                try go_wp2
                go_roundg k1
                case measure => have := HK1.out; omega
                case rel => exact ⟨(wrap64 (x4_1 + 1)), (wrap64 (x13_1 + 1)), (by first | rfl | (simp; done) | (simp [*]; done)), (by first | rfl | (simp; done) | (simp [*]; done)), H', ⟨by have := HK1.out; omega⟩, ⟨by (with_reducible repeat (first | apply Kd.S_alloc | apply Kd.S_drewN | apply Kd.S_drew)); exact Kd.S_mono HO_11.out (fun _ hk => trivial)⟩, ⟨by repeat (first | (with_reducible first | exact HB.out | apply below_alloc | apply pw_below_drewN | apply below_drew1 | refine below_set ?_ GE313.out) | exact HB.out)⟩⟩
              · rw [if_neg c12] at H
                have c12b0 : (t318 == 0) = false := beq_eq_false_iff_ne.mpr c12
                have c12b1 : (t318 != 0) = true := bne_iff_ne.mpr c12
                have H' := Aside0.mk H
                clear H
                have p312 : 0 ≤ (x13_1 : Int) := of_decide_eq_true (by first | (with_reducible assumption) | assumption)
                have q312 : x13_1 < (t309.length : Int) := of_decide_eq_true (by first | (with_reducible assumption) | assumption)
                obtain ⟨ad312, A312_1, c312_1, e312, hx312_0, hx312_1, hl312_1, hi312_1⟩ := at_T28 (Kd.S_reads' HO_11.out).2.2 x13_1 p312 q312
                cases e312
                obtain ⟨ce312, hce312, hMe312, hcc312⟩ := Kd.S_get HO_11.out z28 x13_1 p312 (by first | exact q312 | exact of_decide_eq_true (by first | (with_reducible assumption) | assumption) | (have e_ := (Kd.S_reads' HO_11.out).1; omega))
                obtain ⟨ve312_1, rfl, ge312_1⟩ := k28_openM hMe312
                have hv312_1 := hcc312 1 _ rfl
                rw [add_field _ _ 1 (by omega)] at hv312_1
                replace hv312_1 := Option.some.inj (hv312_1.symm.trans hx312_1)
                rw [hv312_1] at ge312_1
                have HL312_1 := Aside0.mk (show Kd.R (Kd.int .i64) 3 _ _ _ _ ((rd_T28 t309 x13_1).f1) from ge312_1)
                clear hv312_1 ge312_1
                clear hcc312 hce312
                have HR312_1 := Aside0.mk hi312_1
                have HC312_1 := Aside0.mk hl312_1
                clear hi312_1 hl312_1
                replace p312 := eq_true p312
                replace q312 := eq_true q312
                try go_wp2_with (first | ((with_reducible refine gate_dst (N := 6) rfl ?_); refine box_event ?hg (N := 6) ?hd (cs := #[.int .i64 0, .slice none 0 0]) (t := 28) ?hr ?_; (case hd => rfl); (case hg => rfl); (case hr => first | (go_simp; done) | (go_simp; rfl)); intro gb313 hg w20 hbox hb; have n0_ := Aside0.mk (Kd.S_below (Kd.S_elderB (by (with_reducible repeat (first | apply Kd.S_alloc | apply Kd.S_drewN | apply Kd.S_drew)); exact HO_11.out) gb313 (Nat.le_of_eq hg.symm)) hb); have n1_ := Aside0.mk (Kd.R_below (by (with_reducible repeat (first | apply Kd.R_alloc | apply Kd.R_drewN | apply Kd.R_drew)); exact HL312_1.out) hb); have n2_ := Aside0.mk (Kd.C_below (by repeat (first | (with_reducible exact HR312_1.out) | (with_reducible refine Kd.C_alloc ?_ _) | (with_reducible refine Kd.C_drewN ?_ _) | (with_reducible refine Kd.C_drew ?_) | exact HR312_1.out)) hb); have n3_ := Aside0.mk (below_step (by repeat (first | (with_reducible first | exact HB.out | apply below_alloc | apply pw_below_drewN | apply below_drew1) | exact HB.out)) hb); have n4_ := Aside0.mk (hbox); have n5_ := Aside0.mk ((by rw [hg]; exact (below_size (by repeat (first | (with_reducible first | exact HB.out | apply below_alloc | apply pw_below_drewN | apply below_drew1) | exact HB.out))) : w.heap.size ≤ gb313)); have n6_ := Aside0.mk ((by rw [hg]; exact (below_size (by repeat (first | (with_reducible first | exact HB.out | apply below_alloc | apply pw_below_drewN | apply below_drew1) | exact HB.out))) : w.heap.size ≤ gb313)); clear HO_11; clear HL312_1; clear HR312_1; clear HB; have HO_11 := n0_; have HL312_1 := n1_; have HR312_1 := n2_; have HB := n3_; have BK313 := n4_; have GW313 := n5_; have GE313 := n6_; clear n0_ n1_ n2_ n3_ n4_ n5_ n6_; clear hb hbox hg; have hcz21_0 : w20.cell? ⟨gb313, 0, none⟩ = some (.int .i64 0) := (blk_cell BK313.out 0).trans rfl; have hcz21_1 : w20.cell? ⟨gb313, 1, none⟩ = some (.slice none 0 0) := (blk_cell BK313.out 1).trans rfl; have hfz21_0 := blk_frozen BK313.out 0; have hfz21_1 := blk_frozen BK313.out 1))
                have n0_ : Aside0 (Kd.S k28 28 ((w20.setCell ⟨gb313, 0, none⟩ (.int .i64 ((rd_T28 t309 x13_1).f0))).setCell ⟨gb313, 1, none⟩ (.slice A312_1 ((rd_T28 t309 x13_1).f1).length c312_1)) w.heap.size (fun k_ => k_ ≠ gb313) (.slice (some ad312) t309.length co6) t309) := ⟨by (with_reducible repeat (first | apply Kd.S_alloc | apply Kd.S_drewN | apply Kd.S_drew)); exact Kd.S_mono (Kd.S_far (p := ⟨gb313, 1, none⟩) (Kd.S_far (p := ⟨gb313, 0, none⟩) (Kd.S_mono HO_11.out (fun k_ hk => (⟨hk, hk.2⟩ : _ ∧ k_ ≠ gb313))) (fun _ hk => hk.2) (.int .i64 ((rd_T28 t309 x13_1).f0))) (fun _ hk => hk.2) (.slice A312_1 ((rd_T28 t309 x13_1).f1).length c312_1)) (fun _ hk => hk.1.2)⟩
                have n1_ : Aside0 (Kd.R (Kd.int .i64) 3 ((w20.setCell ⟨gb313, 0, none⟩ (.int .i64 ((rd_T28 t309 x13_1).f0))).setCell ⟨gb313, 1, none⟩ (.slice A312_1 ((rd_T28 t309 x13_1).f1).length c312_1)) w.heap.size (fun k_ => some k_ ≠ (.slice (some ad312) t309.length co6 : Value).ownBlock) (.slice A312_1 ((rd_T28 t309 x13_1).f1).length c312_1) ((rd_T28 t309 x13_1).f1)) := ⟨by (with_reducible repeat (first | apply Kd.R_alloc | apply Kd.R_drewN | apply Kd.R_drew)); exact Kd.R_mono (Kd.R_far (p := ⟨gb313, 1, none⟩) (Kd.R_far (p := ⟨gb313, 0, none⟩) (Kd.R_types HL312_1.out BK313.out (by decide)) (fun _ hk => hk.2) (.int .i64 ((rd_T28 t309 x13_1).f0))) (fun _ hk => hk.2) (.slice A312_1 ((rd_T28 t309 x13_1).f1).length c312_1)) (fun _ hk => hk.1.2)⟩
                have n2_ : Aside0 (((w20.setCell ⟨gb313, 0, none⟩ (.int .i64 ((rd_T28 t309 x13_1).f0))).setCell ⟨gb313, 1, none⟩ (.slice A312_1 ((rd_T28 t309 x13_1).f1).length c312_1)).heap[gb313]? = some (.cells #[.int .i64 ((rd_T28 t309 x13_1).f0), .slice A312_1 ((rd_T28 t309 x13_1).f1).length c312_1] 28 (0, 0))) := ⟨by (with_reducible repeat (first | refine blk_drewN ?_ _ | refine blk_drew ?_ | refine blk_alloc ?_ _)); refine blk_put (cs := #[.int .i64 ((rd_T28 t309 x13_1).f0), .slice none 0 0]) ?_ 1 _ rfl; (with_reducible repeat (first | refine blk_drewN ?_ _ | refine blk_drew ?_ | refine blk_alloc ?_ _)); refine blk_put (cs := #[.int .i64 0, .slice none 0 0]) ?_ 0 _ rfl; (with_reducible repeat (first | refine blk_drewN ?_ _ | refine blk_drew ?_ | refine blk_alloc ?_ _)); exact BK313.out⟩
                have n3_ : Aside0 (Below w.heap.size w ((w20.setCell ⟨gb313, 0, none⟩ (.int .i64 ((rd_T28 t309 x13_1).f0))).setCell ⟨gb313, 1, none⟩ (.slice A312_1 ((rd_T28 t309 x13_1).f1).length c312_1))) := ⟨by repeat (first | (with_reducible first | exact HB.out | apply below_alloc | apply pw_below_drewN | apply below_drew1 | refine below_set ?_ GE313.out) | exact HB.out)⟩
                (try clear HO_11)
                (try clear HL312_1)
                (try clear BK313)
                (try clear HB)
                generalize ((w20.setCell ⟨gb313, 0, none⟩ (.int .i64 ((rd_T28 t309 x13_1).f0))).setCell ⟨gb313, 1, none⟩ (.slice A312_1 ((rd_T28 t309 x13_1).f1).length c312_1)) = w22 at n0_ n1_ n2_ n3_ ⊢
                have HO_11 := n0_
                have HL312_1 := n1_
                have BK313 := n2_
                have HB := n3_
                clear n0_ n1_ n2_ n3_
                have n0_ := Aside0.mk (Kd.S_drew HO_11.out)
                have n1_ := Aside0.mk (Kd.R_drew HL312_1.out)
                have n2_ := Aside0.mk (blk_drew BK313.out)
                have n3_ := Aside0.mk (below_drew1 HB.out)
                clear HO_11
                clear HL312_1
                clear BK313
                clear HB
                have HO_11 := n0_
                have HL312_1 := n1_
                have BK313 := n2_
                have HB := n3_
                clear n0_ n1_ n2_ n3_
                refine start_ (n := 5) (S := fun w' => w'.cell? ⟨gb313, 0, none⟩ = some (.int .i64 ((rd_T28 t309 x13_1).f0)) ∧ w'.cell? ⟨gb313, 1, none⟩ = some (.slice A312_1 ((rd_T28 t309 x13_1).f1).length c312_1)) (ds := []) #[false, false, false, false, false] (by kernel_rfl) rfl rfl ⟨(blk_cell BK313.out 0).trans rfl, (blk_cell BK313.out 1).trans rfl⟩ (fun hHeld => ?_)
                generalize w22.drew = w23 at HO_11 HL312_1 BK313 HB hHeld ⊢
                refine take_ (i := 0) (N := some 17) (v := ?_) (a' := ?_) #[true, false, false, false, false] rfl rfl (by kernel_rfl) (fun _ _ _ h => h) (Or.inl ⟨by rfl, ?_⟩) hHeld ?_ ?_
                rotate_left
                · rintro w' ⟨s0, s1⟩
                  go_simp
                  with_reducible rfl
                rotate_left
                · simp only [Act.put, List.setIfInBounds_toArray, List.set_cons_zero, List.set_cons_succ, i64_w, i32_w]
                  rfl
                refine take_ (i := 1) (N := some 18) (v := ?_) (a' := ?_) #[true, true, false, false, false] rfl rfl (by kernel_rfl) (fun _ _ _ h => h) (Or.inl ⟨by rfl, ?_⟩) hHeld ?_ ?_
                rotate_left
                · rintro w' ⟨s0, s1⟩
                  go_simp
                  with_reducible rfl
                rotate_left
                · simp only [Act.put, List.setIfInBounds_toArray, List.set_cons_zero, List.set_cons_succ, i64_w, i32_w]
                  rfl
                refine one_ (i := 2) (N := some 19) #[true, true, true, false, false] rfl rfl (by kernel_rfl) (by decide) (fun K hK => ?_)
                refine goes_ Try.func53 (by kernel_rfl) rfl #[.agg #[.int .i64 ((rd_T28 t309 x13_1).f0), .slice A312_1 ((rd_T28 t309 x13_1).f1).length c312_1]] (by rfl) rfl rfl (by (try simp only [List.map_toArray, List.map_cons, List.map_nil]); first | done | rfl | (simp only [List.length_drop, List.length_take]; rfl)) ?_
                with_reducible refine (impl_leastNamed.calls ((rd_T28 t309 x13_1).f0) _ _ ((rd_T28 t309 x13_1).f1) t314 t315 _ ?side1 ?side2 A10.out).mono ?_
                (case side1 => repeat (first | exact ((Kd.R_reads' (by (with_reducible repeat (first | apply Kd.R_alloc | apply Kd.R_drewN | apply Kd.R_drew)); exact HL312_1.out)).2.2) | (with_reducible refine Kd.C_alloc ?_ _) | (with_reducible refine Kd.C_drewN ?_ _) | (with_reducible refine Kd.C_drew ?_)))
                (case side2 => exact HC312_1.out)
                rintro e w24 ⟨v316, rfl, ho0, hb⟩
                refine ⟨_, rfl, ?_⟩
                have n0_ := Aside0.mk (Kd.S_elder' (by (with_reducible repeat (first | apply Kd.S_alloc | apply Kd.S_drewN | apply Kd.S_drew)); exact HO_11.out) (Kd.R_base ho0) hb)
                have n1_ := Aside0.mk (Kd.R_elder' (by (with_reducible repeat (first | apply Kd.R_alloc | apply Kd.R_drewN | apply Kd.R_drew)); exact HL312_1.out) (Kd.R_base ho0) hb)
                have n2_ := Aside0.mk (Kd.R_lower (Kd.R_new' ho0 (Kd.R_lt (by (with_reducible repeat (first | apply Kd.R_alloc | apply Kd.R_drewN | apply Kd.R_drew)); exact HL312_1.out))) (below_size (by repeat (first | (with_reducible first | exact HB.out | apply below_alloc | apply pw_below_drewN | apply below_drew1 | refine below_set ?_ GE313.out) | exact HB.out))))
                have n3_ := Aside0.mk (blk_below (g := gb313) (o := .cells #[.int .i64 ((rd_T28 t309 x13_1).f0), .slice A312_1 ((rd_T28 t309 x13_1).f1).length c312_1] 28 (0, 0)) (by (with_reducible repeat (first | refine blk_drewN ?_ _ | refine blk_drew ?_ | refine blk_alloc ?_ _)); exact BK313.out) hb)
                have n4_ := Aside0.mk (below_step (by repeat (first | (with_reducible first | exact HB.out | apply below_alloc | apply pw_below_drewN | apply below_drew1 | refine below_set ?_ GE313.out) | exact HB.out)) hb)
                clear HO_11
                clear HL312_1
                clear BK313
                clear HB
                have HO_11 := n0_
                have HL312_1 := n1_
                have HO317 := n2_
                have BK313 := n3_
                have HB := n4_
                clear n0_ n1_ n2_ n3_ n4_
                (try clear hb)
                (try clear hb2)
                (try clear hk)
                (try clear hi)
                (try clear ho0)
                obtain ⟨Ao25, co25, eo25⟩ := Kd.R_slice HO317.out
                (first | subst eo25 | (injection eo25 with f1_ f2_ f3_; have f4_ := f1_.symm; have f5_ := f3_.symm; clear f1_ f2_ f3_; subst f4_; subst f5_))
                refine hK.out _ _ ⟨(blk_cell BK313.out 0).trans rfl, (blk_cell BK313.out 1).trans rfl⟩ (fun hHeld => ?_)
                clear hK K
                refine norm_ (a' := ?_) ?_ ?_
                rotate_left
                · show Act.put _ (some 19) _ = _
                  simp only [Act.put, List.setIfInBounds_toArray, List.set_cons_zero, List.set_cons_succ, i64_w, i32_w]
                  rfl
                refine one_ (i := 3) (N := some 20) #[true, true, true, true, false] rfl rfl (by kernel_rfl) (by decide) (fun K hK => ?_)
                refine goes_ Try.func52 (by kernel_rfl) rfl #[.agg #[.int .i64 ((rd_T28 t309 x13_1).f0), .slice A312_1 ((rd_T28 t309 x13_1).f1).length c312_1], .agg #[.int .i64 t314, .slice Ao25 t315.length co25]] (by rfl) rfl rfl (by (try simp only [List.map_toArray, List.map_cons, List.map_nil]); first | done | rfl | (simp only [List.length_drop, List.length_take]; rfl)) ?_
                with_reducible refine (impl_compare.calls k1 ((rd_T28 t309 x13_1).f0) _ _ ((rd_T28 t309 x13_1).f1) t314 _ _ t315 t318 _ ?side1 ?side2 ?side3 ?side4 A11.out).mono ?_
                (case side1 => repeat (first | exact ((Kd.R_reads' (by (with_reducible repeat (first | apply Kd.R_alloc | apply Kd.R_drewN | apply Kd.R_drew)); exact HL312_1.out)).2.2) | (with_reducible refine Kd.C_alloc ?_ _) | (with_reducible refine Kd.C_drewN ?_ _) | (with_reducible refine Kd.C_drew ?_)))
                (case side2 => exact HC312_1.out)
                (case side3 => repeat (first | exact (Kd.R_reads' HO317.out).2.2 | (with_reducible refine Kd.C_alloc ?_ _) | (with_reducible refine Kd.C_drewN ?_ _) | (with_reducible refine Kd.C_drew ?_)))
                (case side4 => exact (Kd.R_reads' HO317.out).2.1)
                rintro e w26 ⟨rfl, hb⟩
                refine ⟨_, rfl, ?_⟩
                have n0_ := Aside0.mk (Kd.S_below (by (with_reducible repeat (first | apply Kd.S_alloc | apply Kd.S_drewN | apply Kd.S_drew)); exact HO_11.out) hb)
                have n1_ := Aside0.mk (Kd.R_below (by (with_reducible repeat (first | apply Kd.R_alloc | apply Kd.R_drewN | apply Kd.R_drew)); exact HL312_1.out) hb)
                have n2_ := Aside0.mk (Kd.R_below (by (with_reducible repeat (first | apply Kd.R_alloc | apply Kd.R_drewN | apply Kd.R_drew)); exact HO317.out) hb)
                have n3_ := Aside0.mk (blk_below (g := gb313) (o := .cells #[.int .i64 ((rd_T28 t309 x13_1).f0), .slice A312_1 ((rd_T28 t309 x13_1).f1).length c312_1] 28 (0, 0)) (by (with_reducible repeat (first | refine blk_drewN ?_ _ | refine blk_drew ?_ | refine blk_alloc ?_ _)); exact BK313.out) hb)
                have n4_ := Aside0.mk (below_step (by repeat (first | (with_reducible first | exact HB.out | apply below_alloc | apply pw_below_drewN | apply below_drew1 | refine below_set ?_ GE313.out) | exact HB.out)) hb)
                clear HO_11
                clear HL312_1
                clear HO317
                clear BK313
                clear HB
                have HO_11 := n0_
                have HL312_1 := n1_
                have HO317 := n2_
                have BK313 := n3_
                have HB := n4_
                clear n0_ n1_ n2_ n3_ n4_
                (try clear hb)
                (try clear hb2)
                (try clear hk)
                (try clear hi)
                refine hK.out _ _ ⟨(blk_cell BK313.out 0).trans rfl, (blk_cell BK313.out 1).trans rfl⟩ (fun hHeld => ?_)
                clear hK K
                refine norm_ (a' := ?_) ?_ ?_
                rotate_left
                · show Act.put _ (some 20) _ = _
                  simp only [Act.put, List.setIfInBounds_toArray, List.set_cons_zero, List.set_cons_succ, i64_w, i32_w]
                  rfl
                refine pure_ (i := 4) (N := some 21) (v := ?_) (a' := ?_) #[true, true, true, true, true] rfl rfl (by kernel_rfl) (fun _ _ _ h => h) (Or.inl ⟨by rfl, ?_⟩) ?_ ?_
                rotate_left
                · intro w'
                  go_simp
                  with_reducible rfl
                rotate_left
                · simp only [Act.put, List.setIfInBounds_toArray, List.set_cons_zero, List.set_cons_succ, i64_w, i32_w]
                  rfl
                refine done_ (by kernel_rfl) ?_
                try go_wp2
                go_roundg k1
                case measure => have := HK1.out; omega
                case rel => exact ⟨(x4_1), (wrap64 (x13_1 + 1)), (by first | rfl | (simp; done) | (simp [*]; done)), (by first | rfl | (simp; done) | (simp [*]; done)), H', ⟨by have := HK1.out; omega⟩, ⟨by (with_reducible repeat (first | apply Kd.S_alloc | apply Kd.S_drewN | apply Kd.S_drew)); exact Kd.S_mono HO_11.out (fun _ hk => trivial)⟩, ⟨by repeat (first | (with_reducible first | exact HB.out | apply below_alloc | apply pw_below_drewN | apply below_drew1 | refine below_set ?_ GE313.out) | exact HB.out)⟩⟩
            · rw [if_neg c9] at H
              exact absurd H (by simp)
          · rw [if_neg c8] at H
            exact absurd H (by simp)
        · rw [if_neg c7] at H
          have c7b0 : decide (x13_1 < (t309.length : Int)) = false := decide_eq_false c7
          clear c7
          simp only [Option.some.injEq, Prod.mk.injEq] at H
          obtain ⟨rfl, rfl⟩ := H
          go_wp2
          go_ret2
          exact ⟨by first | rfl | (simp [errW_none, errW_some] <;> rfl) | (simp [*, errW_none, errW_some] <;> rfl), by repeat (first | (with_reducible first | exact HB.out | apply below_alloc | apply pw_below_drewN | apply below_drew1) | exact HB.out)⟩
  · replace c3 := Bool.eq_false_iff.mpr c3
    subst c3
    have H1 : (some (0, false)) = some (r1, r2) := by rw [if_neg (show ¬ (false = true) by decide)] at H; exact H
    clear H
    have H := H1
    clear H1
    simp only [Option.some.injEq, Prod.mk.injEq] at H
    obtain ⟨rfl, rfl⟩ := H
    go_enter Try.func45, Try.ntmps45
    go_wp2_with (first | ((with_reducible refine gate_callee (f := 74) rfl ?_); refine goesL_ (some 8) rfl rfl Try.func74 (by kernel_rfl) rfl #[.int .i64 a0, .int .i64 1, .int .i64 4] rfl (by (try simp only [List.map_toArray, List.map_cons, List.map_nil]); first | done | rfl | (simp only [List.length_drop, List.length_take]; rfl)) ?_; (with_reducible refine (impl_within.calls a0 1 4 false _ A2.out).mono ?_); rintro e w' ⟨rfl, ⟨nd, rfl⟩⟩; refine ⟨_, rfl, ?_⟩))
    go_ret2
    exact ⟨by first | rfl | (simp [errW_none, errW_some] <;> rfl) | (simp [*, errW_none, errW_some] <;> rfl), by repeat (first | (with_reducible first | exact HB.out | apply below_alloc | apply pw_below_drewN | apply below_drew1) | exact HB.out)⟩

/-! ### laws_FnExactCountUpToNames: function 11 -/
def laws_FnExactCountUpToNames.f (k : Nat) (a0 : Int) : Option (Bool) := (spec_CountUpToNames.f k a0).bind fun bt319 => ((impl_CountUpToNames.f k a0).bind fun bt321 => (if bt321.1 = bt319.1 then (if (bt321.2 != bt319.2) = true then (some false) else (some true)) else (some false)))
theorem laws_FnExactCountUpToNames.mono : ∀ a0 k, LeO (laws_FnExactCountUpToNames.f k a0) (laws_FnExactCountUpToNames.f (k + 1) a0) := by
  intro a0 k
  unfold laws_FnExactCountUpToNames.f
  repeat' first
      | (with_reducible exact impl_CountUpToNames.mono _ _)
      | (with_reducible exact spec_CountUpToNames.mono _ _)
      | (with_reducible exact LeO.refl _)
      | (with_reducible exact LeO.none _)
      | (with_reducible refine LeO.ite ?_ ?_)
      | (with_reducible refine LeO.bind ?_ (fun _ => ?_))
      | exact impl_CountUpToNames.mono _ _
      | exact spec_CountUpToNames.mono _ _
      | exact LeO.none _
      | refine LeO.ite ?_ ?_
      | refine LeO.bind ?_ (fun _ => ?_)
set_option maxHeartbeats 8000000 in
set_option maxRecDepth 100000 in
theorem laws_FnExactCountUpToNames.calls (k : Nat) (a0 : Int) (r : Bool) (w : World) (h : laws_FnExactCountUpToNames.f k a0 = some r) :
    Calls Try.prog 11 #[.int .i64 a0] w fun e w' => e = .returned (.bool r) ∧ Below w.heap.size w w' := by
  have HB := Aside0.mk (Below.refl w.heap.size w)
  have H : ((spec_CountUpToNames.f k a0).bind fun bt319 => ((impl_CountUpToNames.f k a0).bind fun bt321 => (if bt321.1 = bt319.1 then (if (bt321.2 != bt319.2) = true then (some false) else (some true)) else (some false)))) = some r := h
  clear h
  replace H := Option.bind_eq_some_iff.mp H
  obtain ⟨⟨t319, t320⟩, A20, H⟩ := H
  replace H : ((impl_CountUpToNames.f k a0).bind fun bt321 => (if bt321.1 = t319 then (if (bt321.2 != t320) = true then (some false) else (some true)) else (some false))) = some r := H
  have A2 := Aside0.mk A20
  clear A20
  replace H := Option.bind_eq_some_iff.mp H
  obtain ⟨⟨t321, t322⟩, A30, H⟩ := H
  replace H : (if t321 = t319 then (if (t322 != t320) = true then (some false) else (some true)) else (some false)) = some r := H
  have A3 := Aside0.mk A30
  clear A30
  by_cases c4 : t321 = t319
  · rw [if_pos c4] at H
    have c4b0 : (t321 == t319) = true := beq_iff_eq.mpr c4
    have c4b1 : (t321 != t319) = false := bne_eq_false_iff_eq.mpr c4
    clear c4
    by_cases c5 : (t322 != t320) = true
    · rw [if_pos c5] at H
      have c5b0 : (t322 != t320) = true := c5
      (try (have c5b1 : decide (t322 = t320) = false := by simpa using c5))
      (try (have c5b2 : (t322 == t320) = false := by simpa using c5))
      (try (have c5b3 : ¬ (t322 = t320) := by simpa using c5))
      clear c5
      obtain rfl := Option.some.inj H
      go_enter Try.func11, Try.ntmps11
      go_wp2_with (first | ((with_reducible refine gate_callee (f := 44) rfl ?_); refine goesL_ (some 9) rfl rfl Try.func44 (by kernel_rfl) rfl #[.int .i64 a0] rfl (by (try simp only [List.map_toArray, List.map_cons, List.map_nil]); first | done | rfl | (simp only [List.length_drop, List.length_take]; rfl)) ?_; (with_reducible refine (spec_CountUpToNames.calls k a0 t319 t320 _ A2.out).mono ?_); rintro e w6 ⟨rfl, hb⟩; refine ⟨_, rfl, ?_⟩; have n0_ := Aside0.mk (below_step (by repeat (first | (with_reducible first | exact HB.out | apply below_alloc | apply pw_below_drewN | apply below_drew1) | exact HB.out)) hb); clear HB; have HB := n0_; clear n0_; (try clear hb); (try clear hb2); (try clear hk); (try clear hi)) | ((with_reducible refine gate_callee (f := 45) rfl ?_); refine goesL_ (some 14) rfl rfl Try.func45 (by kernel_rfl) rfl #[.int .i64 a0] rfl (by (try simp only [List.map_toArray, List.map_cons, List.map_nil]); first | done | rfl | (simp only [List.length_drop, List.length_take]; rfl)) ?_; (with_reducible refine (impl_CountUpToNames.calls k a0 t321 t322 _ A3.out).mono ?_); rintro e w7 ⟨rfl, hb⟩; refine ⟨_, rfl, ?_⟩; have n0_ := Aside0.mk (below_step (by repeat (first | (with_reducible first | exact HB.out | apply below_alloc | apply pw_below_drewN | apply below_drew1) | exact HB.out)) hb); clear HB; have HB := n0_; clear n0_; (try clear hb); (try clear hb2); (try clear hk); (try clear hi)))
      go_ret
      exact ⟨by first | rfl | (simp [errW_none, errW_some] <;> rfl) | (simp [*, errW_none, errW_some] <;> rfl), by repeat (first | (with_reducible first | exact HB.out | apply below_alloc | apply pw_below_drewN | apply below_drew1) | exact HB.out)⟩
    · rw [if_neg c5] at H
      have c5b0 : (t322 != t320) = false := by simpa using c5
      (try (have c5b1 : decide (t322 = t320) = true := by simpa using c5))
      (try (have c5b2 : (t322 == t320) = true := by simpa using c5))
      clear c5
      obtain rfl := Option.some.inj H
      go_enter Try.func11, Try.ntmps11
      go_wp2_with (first | ((with_reducible refine gate_callee (f := 44) rfl ?_); refine goesL_ (some 9) rfl rfl Try.func44 (by kernel_rfl) rfl #[.int .i64 a0] rfl (by (try simp only [List.map_toArray, List.map_cons, List.map_nil]); first | done | rfl | (simp only [List.length_drop, List.length_take]; rfl)) ?_; (with_reducible refine (spec_CountUpToNames.calls k a0 t319 t320 _ A2.out).mono ?_); rintro e w8 ⟨rfl, hb⟩; refine ⟨_, rfl, ?_⟩; have n0_ := Aside0.mk (below_step (by repeat (first | (with_reducible first | exact HB.out | apply below_alloc | apply pw_below_drewN | apply below_drew1) | exact HB.out)) hb); clear HB; have HB := n0_; clear n0_; (try clear hb); (try clear hb2); (try clear hk); (try clear hi)) | ((with_reducible refine gate_callee (f := 45) rfl ?_); refine goesL_ (some 14) rfl rfl Try.func45 (by kernel_rfl) rfl #[.int .i64 a0] rfl (by (try simp only [List.map_toArray, List.map_cons, List.map_nil]); first | done | rfl | (simp only [List.length_drop, List.length_take]; rfl)) ?_; (with_reducible refine (impl_CountUpToNames.calls k a0 t321 t322 _ A3.out).mono ?_); rintro e w9 ⟨rfl, hb⟩; refine ⟨_, rfl, ?_⟩; have n0_ := Aside0.mk (below_step (by repeat (first | (with_reducible first | exact HB.out | apply below_alloc | apply pw_below_drewN | apply below_drew1) | exact HB.out)) hb); clear HB; have HB := n0_; clear n0_; (try clear hb); (try clear hb2); (try clear hk); (try clear hi)))
      go_ret
      exact ⟨by first | rfl | (simp [errW_none, errW_some] <;> rfl) | (simp [*, errW_none, errW_some] <;> rfl), by repeat (first | (with_reducible first | exact HB.out | apply below_alloc | apply pw_below_drewN | apply below_drew1) | exact HB.out)⟩
  · rw [if_neg c4] at H
    have c4b0 : (t321 == t319) = false := beq_eq_false_iff_ne.mpr c4
    have c4b1 : (t321 != t319) = true := bne_iff_ne.mpr c4
    obtain rfl := Option.some.inj H
    go_enter Try.func11, Try.ntmps11
    go_wp2_with (first | ((with_reducible refine gate_callee (f := 44) rfl ?_); refine goesL_ (some 9) rfl rfl Try.func44 (by kernel_rfl) rfl #[.int .i64 a0] rfl (by (try simp only [List.map_toArray, List.map_cons, List.map_nil]); first | done | rfl | (simp only [List.length_drop, List.length_take]; rfl)) ?_; (with_reducible refine (spec_CountUpToNames.calls k a0 t319 t320 _ A2.out).mono ?_); rintro e w10 ⟨rfl, hb⟩; refine ⟨_, rfl, ?_⟩; have n0_ := Aside0.mk (below_step (by repeat (first | (with_reducible first | exact HB.out | apply below_alloc | apply pw_below_drewN | apply below_drew1) | exact HB.out)) hb); clear HB; have HB := n0_; clear n0_; (try clear hb); (try clear hb2); (try clear hk); (try clear hi)) | ((with_reducible refine gate_callee (f := 45) rfl ?_); refine goesL_ (some 14) rfl rfl Try.func45 (by kernel_rfl) rfl #[.int .i64 a0] rfl (by (try simp only [List.map_toArray, List.map_cons, List.map_nil]); first | done | rfl | (simp only [List.length_drop, List.length_take]; rfl)) ?_; (with_reducible refine (impl_CountUpToNames.calls k a0 t321 t322 _ A3.out).mono ?_); rintro e w11 ⟨rfl, hb⟩; refine ⟨_, rfl, ?_⟩; have n0_ := Aside0.mk (below_step (by repeat (first | (with_reducible first | exact HB.out | apply below_alloc | apply pw_below_drewN | apply below_drew1) | exact HB.out)) hb); clear HB; have HB := n0_; clear n0_; (try clear hb); (try clear hb2); (try clear hk); (try clear hi)))
    go_ret
    exact ⟨by first | rfl | (simp [errW_none, errW_some] <;> rfl) | (simp [*, errW_none, errW_some] <;> rfl), by repeat (first | (with_reducible first | exact HB.out | apply below_alloc | apply pw_below_drewN | apply below_drew1) | exact HB.out)⟩

/-- THE ONE PURE STATEMENT of laws_FnExactCountUpToNames: yours. -/
def laws_FnExactCountUpToNames.Pure : Prop := ∀ (a0 : Int), (Lit.int .i64 a0).wf = true → ∃ k, laws_FnExactCountUpToNames.f k a0 = some true
theorem laws_FnExactCountUpToNames.walk (P : laws_FnExactCountUpToNames.Pure) (a0 : Int) (w : World) (w0 : (Lit.int .i64 a0).wf = true) :
    Calls Try.prog 11 #[.int .i64 a0] w fun e w' => e = .returned (.bool true) ∧ Below w.heap.size w w' := by
  obtain ⟨k, h⟩ := P a0 w0
  refine (laws_FnExactCountUpToNames.calls k a0 true w h).mono ?_
  rintro e w' ⟨rfl, hd⟩
  exact ⟨rfl, hd⟩

end Go.Proofs.Ytjhjphgdjhahlaa.P
/- spec's 'alGood' at the families of sets that a number tells. -/
namespace Go.Proofs.Ytjhjphgdjhahlaa.P
open Go.RowKit Go.Proofs.YtjhjphgdjhahlaaW.PrintWords Go.Proofs.YtjhjphgdjhahlaaW.PrintLast Go.Proofs.YtjhjphgdjhahlaaW.PrintMore
set_option linter.unusedVariables false

theorem isSpB_row {n : Nat} {l : List Int} {x : Int} (hx : x ∈ l) (hp : 0 < x) (hz : inner (famOf l) x.toNat = 0) : isSpB n l = false := by
  have : l.all (rowOk (famOf l) l) = false := by
    rw [List.all_eq_false]
    refine ⟨x, hx, ?_⟩
    unfold rowOk
    simp [hz]; omega
  unfold isSpB
  split
  · unfold isSpN; rw [this]; simp
  · rfl
theorem alGood_from (n : Nat) (hn : n < 8) (l : List Int) (hs : l.Pairwise (· < ·)) (hb : ∀ x ∈ l, 0 ≤ x ∧ x < 2 ^ n) (hl : l.length < 1152921504606846976) (hne : 1 ≤ l.length) : ∀ (m i : Nat), i + m = (l.drop 1).length →
    Ev (fun k => spec_alGood.l0 k (l.drop 1) ((l.drop 1).length : Int) (i : Int) (n : Int) l) (isSpB n l) := by
  intro m
  induction m with
  | zero =>
    intro i hi
    refine Ev.step (fun k => spec_alGood.l0.eq_2 _ _ _ _ _ k) (Ev.neg (by omega) ?_)
    exact Ev.bind (spGood_pure n l hl) (Ev.now _)
  | succ m ih =>
    intro i hi
    have hil : i < (l.drop 1).length := by omega
    have hil2 : i + 1 < l.length := by simp at hil; omega
    have he : (l.drop 1)[i] = l[i + 1] := by simp
    obtain ⟨x, hx, hx1, hx2⟩ := el_nat l n hn hs hb hl (i + 1) hil2
    have h2 := ih (i + 1) (by omega)
    have hlb : i < 1152921504606846976 := by omega
    have ew : wrap64 ((i : Int) + 1) = ((i + 1 : Nat) : Int) := by rw [wrap_small (by omega) (by omega)]; omega
    refine Ev.step (fun k => spec_alGood.l0.eq_2 _ _ _ _ _ k) ?_
    refine Ev.pos (by omega) (Ev.pos (by omega) (Ev.pos (by omega) (Ev.bind (by rw [rd_at _ i hil, he, hx]; exact spInner_pure l x hx1 hs hl) ?_)))
    simp only [ew]
    by_cases hz : inner (famOf l) x = 0
    · refine Ev.pos (by omega) (Ev.one ?_)
      have hp : l[0] < l[i + 1] := List.pairwise_iff_getElem.1 hs 0 (i + 1) (by omega) hil2 (by omega)
      have h0 := (hb _ (List.getElem_mem (show 0 < l.length by omega))).1
      exact (isSpB_row (n := n) (x := l[i + 1]) (List.getElem_mem _) (by omega) (by rw [hx2]; exact hz)).symm
    · refine Ev.neg (by omega) ?_
      exact h2
theorem alGood_pure (n : Nat) (hn : n < 8) (l : List Int) (hs : l.Pairwise (· < ·)) (hb : ∀ x ∈ l, 0 ≤ x ∧ x < 2 ^ n) (hl : l.length < 1152921504606846976) (hne : 1 ≤ l.length) : Ev (fun k => spec_alGood.f k (n : Int) l) (isSpB n l) := by
  refine Ev.congr (fun k => spec_alGood.f.eq_1 k _ _) (Ev.pos (by omega) ?_)
  exact alGood_from n hn l hs hb hl hne (l.drop 1).length 0 (by omega)

theorem midM_mem {m k : Nat} {x : Int} (h : x ∈ midM m k) : 1 ≤ x ∧ x ≤ k := by
  simp only [midM, List.mem_map, List.mem_filter, List.mem_range] at h
  obtain ⟨i, ⟨hi, _⟩, rfl⟩ := h
  omega
theorem midM_rising (m k : Nat) : (midM m k).Pairwise (· < ·) := by
  unfold midM
  rw [List.pairwise_map]
  exact (List.pairwise_lt_range.filter _).imp (fun h => by omega)
theorem setsM_rising (n m : Nat) (h1 : 1 ≤ n) : (setsM n m).Pairwise (· < ·) := by
  have hp : 2 ≤ 2 ^ n := by
    have : 2 ^ 1 ≤ 2 ^ n := Nat.pow_le_pow_right (by omega) h1
    simpa using this
  unfold setsM
  rw [List.append_assoc, List.singleton_append, List.pairwise_cons, List.pairwise_append]
  refine ⟨?_, midM_rising _ _, List.pairwise_singleton _ _, ?_⟩
  · intro x hx
    rcases List.mem_append.1 hx with h | h
    · have := midM_mem h; omega
    · simp at h; omega
  · intro x hx y hy
    have := midM_mem hx
    simp at hy; omega
theorem setsM_in (n m : Nat) (h1 : 1 ≤ n) : ∀ x ∈ setsM n m, 0 ≤ x ∧ x < 2 ^ n := by
  have hp : 2 ≤ 2 ^ n := by
    have : 2 ^ 1 ≤ 2 ^ n := Nat.pow_le_pow_right (by omega) h1
    simpa using this
  have hc : ((2 ^ n : Nat) : Int) = 2 ^ n := by simp
  intro x hx
  rw [← hc]
  simp only [setsM, List.mem_append, List.mem_singleton] at hx
  rcases hx with (h | h) | h
  · omega
  · have := midM_mem h; omega
  · omega
theorem setsM_len (n m : Nat) (h1 : 1 ≤ n) (h4 : n ≤ 4) : (setsM n m).length ≤ 16 ∧ 1 ≤ (setsM n m).length := by
  obtain ⟨p1, p2, _, _⟩ := pow_small n h1 h4
  have := midM_len m (2 ^ n - 2)
  simp [setsM]; omega
end Go.Proofs.Ytjhjphgdjhahlaa.P
/- spec's list of all spaces: the same as impl's, sorted. -/
namespace Go.Proofs.Ytjhjphgdjhahlaa.P
open Go.RowKit Go.Proofs.YtjhjphgdjhahlaaW.PrintWords Go.Proofs.YtjhjphgdjhahlaaW.PrintLast Go.Proofs.YtjhjphgdjhahlaaW.PrintMore
set_option linter.unusedVariables false

def upS (n c : Nat) : List S28 := (rawS n c).mergeSort leS
theorem upS_len (n c : Nat) : (upS n c).length ≤ c := by unfold upS; rw [List.length_mergeSort]; exact rawS_len n c
theorem upS_mem {n c : Nat} {x : S28} (h : x ∈ upS n c) : x ∈ rawS n c := (List.mergeSort_perm _ _).mem_iff.1 h
theorem upS_sorted (n c : Nat) : (upS n c).Pairwise (fun a b => leS a b = true) := List.pairwise_mergeSort leS_trans leS_total _
theorem rawS_f1 {n c : Nat} (h1 : 1 ≤ n) (h4 : n ≤ 4) : ∀ x ∈ rawS n c, x.f1.length ≤ 16 := by
  intro x hx
  simp only [rawS, List.mem_map] at hx
  obtain ⟨m, _, rfl⟩ := hx
  exact (setsM_len n m h1 h4).1
theorem upS_put (n c i : Nat) (s : S28) (hi : i ≤ (upS n c).length) (hs : s.f0 = (n : Int)) (hg : rawS n (c + 1) = rawS n c ++ [s]) (hb : ∀ j (h : j < (upS n c).length), i ≤ j → cmpL s.f1 (upS n c)[j].f1 < 0) (ha : i = 0 ∨ ∃ h : i - 1 < (upS n c).length, ¬ cmpL s.f1 (upS n c)[i - 1].f1 < 0) :
    (upS n c).take i ++ [s] ++ (upS n c).drop i = upS n (c + 1) := by
  have hp : ((upS n c).take i ++ [s] ++ (upS n c).drop i).Perm (rawS n (c + 1)) := by
    rw [hg]
    have h1 : ((upS n c).take i ++ [s] ++ (upS n c).drop i).Perm ((upS n c).take i ++ (upS n c).drop i ++ [s]) := by
      rw [List.append_assoc, List.append_assoc]
      exact List.Perm.append_left _ List.perm_append_comm
    rw [List.take_append_drop] at h1
    exact h1.trans ((List.mergeSort_perm _ _).append_right _)
  refine sorted_is (n := n) (c := 0) (hp.trans (List.mergeSort_perm _ _).symm) ?_ (upS_sorted n (c + 1)) (fun x hx => rawS_f0 n (c + 1) x (hp.mem_iff.1 hx))
  have hso := upS_sorted n c
  have hat : ∀ p q (hp : p < (upS n c).length) (hq : q < (upS n c).length), p ≤ q → leS (upS n c)[p] (upS n c)[q] = true := fun p q hp hq h => by
    rcases Nat.lt_or_ge p q with h' | h'
    · exact List.pairwise_iff_getElem.1 hso p q hp hq h'
    · obtain rfl : p = q := by omega
      simp [leS, cmpL_self]
  rw [List.append_assoc, List.singleton_append, List.pairwise_append, List.pairwise_cons]
  refine ⟨hso.sublist (List.take_sublist _ _), ⟨?_, hso.sublist (List.drop_sublist _ _)⟩, ?_⟩
  · intro x hx
    obtain ⟨j, hj, rfl⟩ := List.getElem_of_mem hx
    rw [List.getElem_drop]
    have := hb (i + j) (by simp at hj; omega) (by omega)
    simp only [leS, decide_eq_true_eq]; omega
  · intro x hx y hy
    obtain ⟨j, hj, rfl⟩ := List.getElem_of_mem hx
    have hj2 : j < i ∧ j < (upS n c).length := by simp at hj; omega
    rw [List.getElem_take]
    have hxs : leS (upS n c)[j] s = true := by
      rcases ha with rfl | ⟨h, hn⟩
      · omega
      · refine leS_trans _ _ _ (hat j (i - 1) hj2.2 h (by omega)) ?_
        have := cmpL_neg s.f1 (upS n c)[i - 1].f1
        simp only [leS, decide_eq_true_eq]; omega
    rcases List.mem_cons.1 hy with rfl | hy
    · exact hxs
    · obtain ⟨q, hq, rfl⟩ := List.getElem_of_mem hy
      rw [List.getElem_drop]
      exact hat j (i + q) hj2.2 (by simp at hq; omega) (by omega)

section
variable (n : Nat) (h1 : 1 ≤ n) (h4 : n ≤ 4)
include h1 h4
set_option linter.unusedSectionVars false
theorem alSpaces_l2 (c : Nat) (hc : c < 16384) (hg : goodM n c = true) (r : List S28) (hq : Ev (fun k => spec_alSpaces.l0 k (n : Int) ((2 ^ n - 1 : Nat) : Int) (upS n (c + 1)) ((c + 1 : Nat) : Int)) r) :
    ∀ (i : Nat), i ≤ (upS n c).length → (∀ j (h : j < (upS n c).length), i ≤ j → cmpL (setsM n c) (upS n c)[j].f1 < 0) → Ev (fun k => spec_alSpaces.l2 k (n : Int) ((2 ^ n - 1 : Nat) : Int) (upS n c) (c : Int) (i : Int) (n : Int) (setsM n c)) r := by
  have hlen := upS_len n c
  have hraw : rawS n (c + 1) = rawS n c ++ [⟨(n : Int), setsM n c⟩] := by rw [rawS_succ, hg]; rfl
  have ew : wrap64 ((c : Int) + 1) = ((c + 1 : Nat) : Int) := by unfold wrap64; omega
  -- the end, wherever it comes
  have hend : ∀ i, i ≤ (upS n c).length → (∀ j (h : j < (upS n c).length), i ≤ j → cmpL (setsM n c) (upS n c)[j].f1 < 0) → (i = 0 ∨ ∃ h : i - 1 < (upS n c).length, ¬ cmpL (setsM n c) (upS n c)[i - 1].f1 < 0) →
      Ev (fun k => spec_alSpaces.l0 k (n : Int) ((2 ^ n - 1 : Nat) : Int) ([] ++ (upS n c).take i ++ [⟨(n : Int), setsM n c⟩] ++ (upS n c).drop i) (wrap64 ((c : Int) + 1))) r := fun i hi hb ha => by
    have e := upS_put n c i ⟨(n : Int), setsM n c⟩ hi rfl hraw hb ha
    rw [List.nil_append, e, ew]; exact hq
  intro i
  induction i with
  | zero =>
    intro hi hb
    refine Ev.step (fun k => spec_alSpaces.l2.eq_2 _ _ _ _ _ _ _ k) (Ev.neg (by omega) ?_)
    have := hend 0 hi hb (.inl rfl)
    simp only [Option.bind_some]
    refine Ev.pos (by omega) (Ev.pos (by omega) ?_)
    refine Ev.pos (by simp) (Ev.pos (by simp) (Ev.pos (by simp; omega) ?_))
    simpa using this
  | succ i ih =>
    intro hi hb
    have hil : i < (upS n c).length := by omega
    have e1 : wrap64 (((i + 1 : Nat) : Int) - 1) = (i : Int) := by unfold wrap64; omega
    have er : rd_T28 (upS n c) (i : Int) = (upS n c)[i] := by unfold rd_T28; simp [hil]
    have hs16 := (setsM_len n c h1 h4).1
    have hu16 := rawS_f1 h1 h4 _ (upS_mem (List.getElem_mem hil))
    refine Ev.step (fun k => spec_alSpaces.l2.eq_2 _ _ _ _ _ _ _ k) (Ev.pos (by omega) ?_)
    simp only [e1]
    refine Ev.pos (by omega) (Ev.pos (by omega) (Ev.bind (by rw [er]; exact alBefore_pure _ _ (by omega) (by omega)) ?_))
    by_cases hbf : cmpL (setsM n c) (upS n c)[i].f1 < 0
    · rw [show decide (cmpL (setsM n c) (upS n c)[i].f1 < 0) = true by simpa using hbf]
      refine Ev.pos rfl ?_
      exact ih (by omega) (fun j h hij => by
        rcases Nat.lt_or_ge i j with h' | h'
        · exact hb j h (by omega)
        · obtain rfl : j = i := by omega
          exact hbf)
    · rw [show decide (cmpL (setsM n c) (upS n c)[i].f1 < 0) = false by simpa using hbf]
      refine Ev.neg (by simp) ?_
      have := hend (i + 1) hi hb (.inr ⟨by omega, by simpa using hbf⟩)
      simp only [Option.bind_some]
      refine Ev.pos (by omega) (Ev.pos (by omega) ?_)
      refine Ev.pos (by simp; omega) (Ev.pos (by simp; omega) (Ev.pos (by simp; omega) ?_))
      rw [Int.toNat_natCast]
      exact this
theorem alSpaces_l1 (m : Nat) (hm : m < 16384) (r : List S28) (hq : Ev (fun k => spec_alSpaces.l0 k (n : Int) ((2 ^ n - 1 : Nat) : Int) (upS n (m + 1)) ((m + 1 : Nat) : Int)) r) :
    ∀ (j i : Nat), i + j = 2 ^ n - 2 → Ev (fun k => spec_alSpaces.l1 k (n : Int) ((2 ^ n - 1 : Nat) : Int) (upS n m) (m : Int) ((i + 1 : Nat) : Int) (n : Int) ([0] ++ midM m i)) r := by
  obtain ⟨p1, p2, _, _⟩ := pow_small n h1 h4
  intro j
  induction j with
  | zero =>
    intro i hi
    obtain rfl : i = 2 ^ n - 2 := by omega
    refine Ev.step (fun k => spec_alSpaces.l1.eq_2 _ _ _ _ _ _ _ k) ?_
    have hlen : ([0] ++ midM m (2 ^ n - 2)).length < 17592186044416 := by have := midM_len m (2 ^ n - 2); simp; omega
    have ew : wrap64 ((m : Int) + 1) = ((m + 1 : Nat) : Int) := by unfold wrap64; omega
    have hsl := setsM_len n m h1 h4
    refine Ev.neg (by omega) (Ev.pos hlen ?_)
    simp only [Option.bind_some]
    refine Ev.bind (alGood_pure n (by omega) (setsM n m) (setsM_rising n m h1) (setsM_in n m h1) (by omega) (by omega)) ?_
    change Ev (fun k => if goodM n m = true then _ else _) r
    cases hg : goodM n m with
    | true =>
      refine Ev.pos rfl ?_
      exact alSpaces_l2 n h1 h4 m hm hg r hq _ (Nat.le_refl _) (fun j h hj => by omega)
    | false =>
      refine Ev.neg (by simp) ?_
      have e : upS n (m + 1) = upS n m := by unfold upS; rw [rawS_succ, hg]; simp
      rw [e] at hq
      rw [ew]; exact hq
  | succ j ih =>
    intro i hi
    refine Ev.step (fun k => spec_alSpaces.l1.eq_2 _ _ _ _ _ _ _ k) ?_
    have e1 : wrap64 (((i + 1 : Nat) : Int) - 1) = (i : Int) := by unfold wrap64; omega
    have e2 : wrap64 (((i + 1 : Nat) : Int) + 1) = ((i + 1 + 1 : Nat) : Int) := by unfold wrap64; omega
    have hlen : ([0] ++ midM m i).length < 17592186044416 := by have := midM_len m i; simp; omega
    have h2 := ih (i + 1) (by omega)
    rw [midM_succ] at h2
    simp only [e1, e2]
    refine Ev.pos (by omega) (Ev.bind (by rw [spIn_nat m i (by omega)]; exact Ev.now _) ?_)
    cases hb : m.testBit i with
    | true =>
      rw [hb] at h2
      refine Ev.pos rfl (Ev.pos hlen ?_)
      simpa using h2
    | false =>
      rw [hb] at h2
      refine Ev.neg (by simp) ?_
      simpa using h2
theorem alSpaces_l0 : ∀ (j c : Nat), c + j = 2 ^ (2 ^ n - 2) → Ev (fun k => spec_alSpaces.l0 k (n : Int) ((2 ^ n - 1 : Nat) : Int) (upS n c) (c : Int)) (allSp n) := by
  obtain ⟨p1, p2, p3, p4⟩ := pow_small n h1 h4
  have hf : ∀ n, n ≤ 4 → 1 ≤ n → 0 ≤ wrap64 (((2 ^ n - 1 : Nat) : Int) - 1) ∧ shl .i64 1 (wrap64 (((2 ^ n - 1 : Nat) : Int) - 1)) = ((2 ^ (2 ^ n - 2) : Nat) : Int) := by decide +kernel
  obtain ⟨q1, q2⟩ := hf n h4 h1
  intro j
  induction j with
  | zero =>
    intro c hc
    obtain rfl : c = 2 ^ (2 ^ n - 2) := by omega
    exact Ev.step (fun k => spec_alSpaces.l0.eq_2 _ _ _ _ k) (Ev.pos q1 (Ev.neg (by rw [q2]; omega) (Ev.now _)))
  | succ j ih =>
    intro c hc
    refine Ev.step (fun k => spec_alSpaces.l0.eq_2 _ _ _ _ k) (Ev.pos q1 (Ev.pos (by rw [q2]; omega) ?_))
    exact alSpaces_l1 n h1 h4 c (by omega) _ (ih (c + 1) (by omega)) (2 ^ n - 2) 0 (by omega)
theorem alSpaces_pure : Ev (fun k => spec_alSpaces.f k (n : Int)) (allSp n) := by
  obtain ⟨q1, q2, q3⟩ := pow_wrap n (by omega)
  refine Ev.congr (fun k => spec_alSpaces.f.eq_1 k _) (Ev.pos (by omega) ?_)
  rw [q1, ← q3]
  have := alSpaces_l0 n h1 h4 (2 ^ (2 ^ n - 2)) 0 (Nat.zero_add _)
  simpa [upS, rawS] using this
end
end Go.Proofs.Ytjhjphgdjhahlaa.P
/- The reference's 'l1Same'. -/
namespace Go.Proofs.Ytjhjphgdjhahlaa.P
open Go.RowKit Go.Proofs.YtjhjphgdjhahlaaW.PrintWords Go.Proofs.YtjhjphgdjhahlaaW.PrintLast Go.Proofs.YtjhjphgdjhahlaaW.PrintMore
set_option linter.unusedVariables false

theorem l1Same_from (l m : List Int) (hl : l.length < 1152921504606) (hlm : l.length = m.length) : ∀ (j i : Nat), i + j = l.length → Ev (fun k => spec_l1Same.l0 k l m (l.length : Int) (i : Int)) (decide (l.drop i = m.drop i)) := by
  intro j
  induction j with
  | zero =>
    intro i hi
    refine Ev.step (fun k => spec_l1Same.l0.eq_2 _ _ _ _ k) (Ev.neg (by omega) (Ev.one ?_))
    rw [List.drop_eq_nil_of_le (by omega), List.drop_eq_nil_of_le (by omega)]; simp
  | succ j ih =>
    intro i hi
    have hi1 : i < l.length := by omega
    have hi2 : i < m.length := by omega
    have ew : wrap64 ((i : Int) + 1) = ((i + 1 : Nat) : Int) := by unfold wrap64; omega
    refine Ev.step (fun k => spec_l1Same.l0.eq_2 _ _ _ _ k) (Ev.pos (by omega) (Ev.pos (by omega) (Ev.pos (by omega) (Ev.pos (by omega) ?_))))
    have key : decide (l.drop i = m.drop i) = (decide (l[i] = m[i]) && decide (l.drop (i + 1) = m.drop (i + 1))) := by
      rw [Bool.eq_iff_iff]
      simp only [decide_eq_true_eq, Bool.and_eq_true]
      rw [List.drop_eq_getElem_cons hi1, List.drop_eq_getElem_cons hi2, List.cons.injEq]
    rw [rd_at l i hi1, rd_at m i hi2, ew, key]
    by_cases he : l[i] = m[i]
    · refine Ev.pos he ?_
      rw [show decide (l[i] = m[i]) = true by simpa using he, Bool.true_and]
      exact ih (i + 1) (by omega)
    · refine Ev.neg he (Ev.one ?_)
      rw [show decide (l[i] = m[i]) = false by simpa using he, Bool.false_and]
theorem l1Same_pure (l m : List Int) (hl : l.length < 1152921504606) : Ev (fun k => spec_l1Same.f k l m) (decide (l = m)) := by
  refine Ev.congr (fun k => spec_l1Same.f.eq_1 k _ _) ?_
  by_cases h : l.length = m.length
  · refine Ev.pos (by omega) ?_
    have := l1Same_from l m hl h l.length 0 (by omega)
    simpa using this
  · refine Ev.neg (by omega) (Ev.one ?_)
    rw [eq_comm, decide_eq_false_iff_not]
    rintro rfl; exact h rfl
end Go.Proofs.Ytjhjphgdjhahlaa.P
/- Plain facts about spaces: what isSpB says of a list. -/
namespace Go.Proofs.Ytjhjphgdjhahlaa.P
open Go.RowKit Go.Proofs.YtjhjphgdjhahlaaW.PrintWords Go.Proofs.YtjhjphgdjhahlaaW.PrintLast Go.Proofs.YtjhjphgdjhahlaaW.PrintMore
set_option linter.unusedVariables false

theorem rising_ext : ∀ (l m : List Int), l.Pairwise (· < ·) → m.Pairwise (· < ·) → (∀ x, x ∈ l ↔ x ∈ m) → l = m := by
  intro l
  induction l with
  | nil =>
    intro m _ _ h
    cases m with
    | nil => rfl
    | cons b m => have := (h b).2 (by simp); cases this
  | cons a l ih =>
    intro m hl hm h
    cases m with
    | nil => have := (h a).1 (by simp); cases this
    | cons b m =>
      rw [List.pairwise_cons] at hl hm
      have hab : a = b := by
        have h1 := (h a).1 (by simp)
        have h2 := (h b).2 (by simp)
        rcases List.mem_cons.1 h1 with e | h1
        · exact e
        · rcases List.mem_cons.1 h2 with e | h2
          · exact e.symm
          · have := hm.1 a h1; have := hl.1 b h2; omega
      subst hab
      rw [ih m hl.2 hm.2 (fun x => ?_)]
      constructor
      · intro hx
        rcases List.mem_cons.1 ((h x).1 (List.mem_cons_of_mem _ hx)) with e | hx2
        · subst e; have := hl.1 x hx; omega
        · exact hx2
      · intro hx
        rcases List.mem_cons.1 ((h x).2 (List.mem_cons_of_mem _ hx)) with e | hx2
        · subst e; have := hm.1 x hx; omega
        · exact hx2
theorem sets_fam (l : List Int) (hs : l.Pairwise (· < ·)) (hv : ∀ x ∈ l, 0 ≤ x ∧ x < 128) : ints (setsOf (famOf l)) = l := by
  refine rising_ext _ _ (ints_setsUpto_rising _ _) hs (fun x => ?_)
  simp only [ints, List.mem_map, setsOf, setsUpto, List.mem_filter, List.mem_range, famOf, decide_eq_true_eq]
  constructor
  · rintro ⟨i, ⟨_, h⟩, rfl⟩; exact h
  · intro h
    have := hv x h
    exact ⟨x.toNat, ⟨by omega, by rw [Int.toNat_of_nonneg this.1]; exact h⟩, by omega⟩
/-- what a space is -/
structure Sp (n : Nat) (l : List Int) : Prop where
  n1 : 1 ≤ n
  n7 : n ≤ 7
  len : l.length ≤ 2 ^ n
  rise : l.Pairwise (· < ·)
  lt : ∀ x ∈ l, 0 ≤ x ∧ x < 2 ^ n
  zero : famOf l 0 = true
  all : famOf l (2 ^ n - 1) = true
  acc : ∀ x, famOf l x = true → x ≠ 0 → inner (famOf l) x ≠ 0
  or : ∀ x y, famOf l x = true → famOf l y = true → famOf l (x ||| y) = true
theorem famOf_true {l : List Int} {x : Nat} : famOf l x = true ↔ (x : Int) ∈ l := by simp [famOf]
theorem Sp.of {a : Int} {l : List Int} (h : isSpB a l = true) : ∃ n : Nat, a = n ∧ Sp n l := by
  unfold isSpB at h
  split at h
  · rename_i ha
    refine ⟨a.toNat, by omega, ?_⟩
    obtain ⟨n, rfl⟩ := Int.eq_ofNat_of_zero_le (show 0 ≤ a by omega)
    rw [Int.toNat_natCast] at h ⊢
    unfold isSpN at h
    simp only [Bool.and_eq_true, decide_eq_true_eq] at h
    obtain ⟨h1, h2, h3, h4, h5⟩ := h
    have hr := rising_of h2
    have row : ∀ x : Nat, famOf l x = true → (x = 0 ∨ inner (famOf l) x ≠ 0) ∧ ∀ y : Nat, famOf l y = true → famOf l (x ||| y) = true := by
      intro x hx
      have := List.all_eq_true.1 h5 x (famOf_true.1 hx)
      unfold rowOk orOk at this
      simp only [Bool.and_eq_true, Bool.or_eq_true, decide_eq_true_eq, List.all_eq_true, Int.toNat_natCast] at this
      refine ⟨?_, fun y hy => ?_⟩
      · rcases this.1 with h | h
        · left; omega
        · exact .inr h
      · have := this.2 y (famOf_true.1 hy); simpa using this
    exact ⟨by omega, by omega, h1, hr.1, hr.2, h3, h4, fun x hx h0 => (row x hx).1.resolve_left h0, fun x y hx hy => (row x hx).2 y hy⟩
  · cases h
variable {n : Nat} {l : List Int}
theorem Sp.pow (h : Sp n l) : 2 ^ n ≤ 128 := Nat.pow_le_pow_right (n := 2) (by omega) h.n7
theorem Sp.lt128 (h : Sp n l) : ∀ x ∈ l, 0 ≤ x ∧ x < 128 := fun x hx => by
  have h1 := h.lt x hx
  have h2 : ((2 ^ n : Nat) : Int) ≤ 128 := by exact_mod_cast h.pow
  have h3 : ((2 ^ n : Nat) : Int) = 2 ^ n := by simp
  omega
theorem Sp.sets (h : Sp n l) : ints (setsOf (famOf l)) = l := sets_fam l h.rise h.lt128
theorem Sp.famlt (h : Sp n l) {x : Nat} (hx : famOf l x = true) : x < 2 ^ n := by
  have := (h.lt x (famOf_true.1 hx)).2
  exact_mod_cast this
theorem Sp.ne (h : Sp n l) : l ≠ [] := fun e => by
  have := famOf_true.1 h.zero
  rw [e] at this; cases this
theorem Sp.len128 (h : Sp n l) : l.length ≤ 128 := Nat.le_trans h.len h.pow
theorem renN_id (n x : Nat) (hn : n ≤ 7) (hx : x < 2 ^ n) : renN (List.range n) x = x := by
  have : ∀ n, n ≤ 7 → ∀ x, x < 2 ^ n → renN (List.range n) x = x := by decide +kernel
  exact this n hn x hx
theorem Sp.renI_id (h : Sp n l) : renI (List.range n) l = l := by
  unfold renI
  have : l.map (fun x => ((renN (List.range n) x.toNat : Nat) : Int)) = l.map id := by
    apply List.map_congr_left
    intro x hx
    have h1 := h.lt x hx
    have h2 : x.toNat < 2 ^ n := by
      have : ((x.toNat : Nat) : Int) < ((2 ^ n : Nat) : Int) := by rw [Int.toNat_of_nonneg h1.1]; simpa using h1.2
      exact_mod_cast this
    rw [renN_id n _ h.n7 h2, Int.toNat_of_nonneg h1.1]; rfl
  rw [this, List.map_id]
end Go.Proofs.Ytjhjphgdjhahlaa.P
/- Plain facts: the least name of a space. -/
namespace Go.Proofs.Ytjhjphgdjhahlaa.P
open Go.RowKit Go.Proofs.YtjhjphgdjhahlaaW.PrintWords Go.Proofs.YtjhjphgdjhahlaaW.PrintLast Go.Proofs.YtjhjphgdjhahlaaW.PrintMore
set_option linter.unusedVariables false
variable {n : Nat} {l : List Int}
theorem Sp.named_id (h : Sp n l) : named (List.range n) l = l := by unfold named; rw [h.renI_id, h.sets]
theorem Sp.least (h : Sp n l) : leastL n l = bestOf l l (perms n) := by unfold leastL; rw [h.named_id]
theorem Sp.all_lt (h : Sp n l) : l.all (fun x => decide (0 ≤ x ∧ x < 2 ^ n)) = true := by
  rw [List.all_eq_true]; intro x hx; simpa using h.lt x hx
theorem Sp.impl_least (h : Sp n l) : impl_leastNamed.f (n : Int) l = some ((n : Int), bestOf l l (perms n)) := by
  unfold impl_leastNamed.f
  have h1 := h.n1
  have h7 := h.n7
  rw [if_pos ⟨by omega, by omega, h.ne, by rw [Int.toNat_natCast]; exact h.all_lt⟩, Int.toNat_natCast, h.least]
theorem Sp.spec_least (h : Sp n l) : spec_alLeast.f (n : Int) l = some (bestOf l l (perms n)) := by
  unfold spec_alLeast.f
  have h1 := h.n1
  have h7 := h.n7
  rw [if_pos ⟨by omega, by omega, h.len128, by rw [Int.toNat_natCast]; exact h.all_lt⟩, Int.toNat_natCast]
theorem Sp.best_len (h : Sp n l) : (bestOf l l (perms n)).length ≤ 128 := bestOf_len l _ l h.len128
end Go.Proofs.Ytjhjphgdjhahlaa.P
/- The plain law: spec's CountUpToNames and impl's count alike. -/
-- by Sp.spec_least, Sp.impl_least
namespace Go.Proofs.Ytjhjphgdjhahlaa.Pure
open Go.RowKit Go.Proofs.Ytjhjphgdjhahlaa.P Go.Proofs.YtjhjphgdjhahlaaW.PrintWords Go.Proofs.YtjhjphgdjhahlaaW.PrintLast

def isLeast (n : Nat) (x : S28) : Bool := decide (bestOf x.f1 x.f1 (perms n) = x.f1)
def upTo (n : Nat) (xs : List S28) : Nat := (xs.filter (isLeast n)).length
theorem upTo_cons (n : Nat) (x : S28) (xs : List S28) : upTo n (x :: xs) = upTo n xs + if isLeast n x then 1 else 0 := by
  unfold upTo; cases h : isLeast n x <;> simp [h]
theorem upTo_len (n : Nat) (xs : List S28) : upTo n xs ≤ xs.length := List.length_filter_le _ _
section
variable (n : Nat) (xs : List S28) (hx : xs.length ≤ 16384) (hs : ∀ x ∈ xs, x.f0 = (n : Int) ∧ Sp n x.f1)
include hx hs
theorem spec_count : ∀ (j i c : Nat), i + j = xs.length → c ≤ i → Ev (fun k => spec_CountUpToNames.l0 k (c : Int) xs (xs.length : Int) (i : Int)) (((c + upTo n (xs.drop i) : Nat) : Int), true) := by
  intro j
  induction j with
  | zero =>
    intro i c hi hc
    refine Ev.step (fun k => spec_CountUpToNames.l0.eq_2 _ _ _ _ k) (Ev.neg (by omega) (Ev.one ?_))
    rw [List.drop_eq_nil_of_le (by omega)]; rfl
  | succ j ih =>
    intro i c hi hc
    have hil : i < xs.length := by omega
    have ew : wrap64 ((i : Int) + 1) = ((i + 1 : Nat) : Int) := by unfold wrap64; omega
    have ec : wrap64 ((c : Int) + 1) = ((c + 1 : Nat) : Int) := by unfold wrap64; omega
    have er : rd_T28 xs (i : Int) = xs[i] := by unfold rd_T28; simp [hil]
    obtain ⟨h0, h1⟩ := hs _ (List.getElem_mem hil)
    have hu := upTo_len n (xs.drop (i + 1))
    rw [List.length_drop] at hu
    rw [List.drop_eq_getElem_cons hil, upTo_cons]
    refine Ev.step (fun k => spec_CountUpToNames.l0.eq_2 _ _ _ _ k) (Ev.pos (by omega) (Ev.pos (by omega) (Ev.pos (by omega) ?_)))
    rw [er, h0, h1.spec_least, ew, ec]
    simp only [Option.bind_some]
    refine Ev.bind (l1Same_pure _ _ (by have := h1.best_len; omega)) ?_
    unfold isLeast
    by_cases he : bestOf xs[i].f1 xs[i].f1 (perms n) = xs[i].f1
    · refine Ev.pos (by simpa using he) ?_
      have h2 := ih (i + 1) (c + 1) (by omega) (by omega)
      rw [if_pos (by simpa using he)]
      rw [show c + 1 + upTo n (xs.drop (i + 1)) = c + (upTo n (xs.drop (i + 1)) + 1) by omega] at h2
      exact h2
    · refine Ev.neg (by simpa using he) ?_
      rw [if_neg (by simpa using he), Nat.add_zero]
      exact ih (i + 1) c (by omega) (by omega)
theorem impl_count : ∀ (j i c : Nat), i + j = xs.length → c ≤ i → Ev (fun k => impl_CountUpToNames.l0 k (c : Int) xs (xs.length : Int) (i : Int)) (((c + upTo n (xs.drop i) : Nat) : Int), true) := by
  intro j
  induction j with
  | zero =>
    intro i c hi hc
    refine Ev.step (fun k => impl_CountUpToNames.l0.eq_2 _ _ _ _ k) (Ev.neg (by omega) (Ev.one ?_))
    rw [List.drop_eq_nil_of_le (by omega)]; rfl
  | succ j ih =>
    intro i c hi hc
    have hil : i < xs.length := by omega
    have ew : wrap64 ((i : Int) + 1) = ((i + 1 : Nat) : Int) := by unfold wrap64; omega
    have ec : wrap64 ((c : Int) + 1) = ((c + 1 : Nat) : Int) := by unfold wrap64; omega
    have er : rd_T28 xs (i : Int) = xs[i] := by unfold rd_T28; simp [hil]
    obtain ⟨h0, h1⟩ := hs _ (List.getElem_mem hil)
    have hu := upTo_len n (xs.drop (i + 1))
    rw [List.length_drop] at hu
    rw [List.drop_eq_getElem_cons hil, upTo_cons]
    refine Ev.step (fun k => impl_CountUpToNames.l0.eq_2 _ _ _ _ k) (Ev.pos (by omega) (Ev.pos (by omega) (Ev.pos (by omega) ?_)))
    rw [er, h0, h1.impl_least, ew, ec]
    simp only [Option.bind_some]
    have hl := h1.len128
    have hc : Ev (fun k => impl_compare.f k (n : Int) xs[i].f1 (n : Int) (bestOf xs[i].f1 xs[i].f1 (perms n))) (cmpL xs[i].f1 (bestOf xs[i].f1 xs[i].f1 (perms n))) := by
      refine Ev.congr (fun k => impl_compare.f.eq_1 k _ _ _ _) ?_
      exact Ev.bind ⟨xs[i].f1.length + 1, fun k hk => Compare_pure _ _ (by omega) k (by omega)⟩ (Ev.now _)
    refine Ev.bind hc ?_
    unfold isLeast
    by_cases he : bestOf xs[i].f1 xs[i].f1 (perms n) = xs[i].f1
    · refine Ev.pos (cmpL_zero.2 he.symm) ?_
      have h2 := ih (i + 1) (c + 1) (by omega) (by omega)
      rw [if_pos (by simpa using he)]
      rw [show c + 1 + upTo n (xs.drop (i + 1)) = c + (upTo n (xs.drop (i + 1)) + 1) by omega] at h2
      exact h2
    · refine Ev.neg (fun h => he (cmpL_zero.1 h).symm) ?_
      rw [if_neg (by simpa using he), Nat.add_zero]
      exact ih (i + 1) c (by omega) (by omega)
end
theorem allSp_sp (n : Nat) (x : S28) (h : x ∈ allSp n) : x.f0 = (n : Int) ∧ Sp n x.f1 := by
  have h1 : x ∈ rawSpaces n := (List.mergeSort_perm _ _).mem_iff.1 h
  unfold rawSpaces rawS at h1
  simp only [List.mem_map, List.mem_filter] at h1
  obtain ⟨m, ⟨_, hg⟩, rfl⟩ := h1
  obtain ⟨n', e, hs⟩ := Sp.of (show isSpB (n : Int) (setsM n m) = true from hg)
  obtain rfl : n = n' := by omega
  exact ⟨rfl, hs⟩
theorem within4 (a0 : Int) : impl_within.f a0 1 4 = some (decide (1 ≤ a0 ∧ a0 ≤ 4)) := by
  unfold impl_within.f
  by_cases h : 1 ≤ a0
  · rw [if_pos h]; congr 1; rw [decide_eq_decide]; omega
  · rw [if_neg h]; congr 1; rw [eq_comm, decide_eq_false_iff_not]; omega
theorem l1In4 (a0 : Int) : spec_l1In.f a0 1 4 = some (decide (1 ≤ a0 ∧ a0 ≤ 4)) := by
  unfold spec_l1In.f
  by_cases h : a0 ≥ 1
  · rw [if_pos h]; congr 1; rw [decide_eq_decide]; omega
  · rw [if_neg h]; congr 1; rw [eq_comm, decide_eq_false_iff_not]; omega
theorem FnExactCountUpToNames : laws_FnExactCountUpToNames.Pure := by
  intro a0 _
  apply Ev.rounds
  have key : ∃ r, Ev (fun k => spec_CountUpToNames.f k a0) r ∧ Ev (fun k => impl_CountUpToNames.f k a0) r := by
    by_cases ha : 1 ≤ a0 ∧ a0 ≤ 4
    · obtain ⟨n, rfl⟩ : ∃ n : Nat, a0 = n := ⟨a0.toNat, by omega⟩
      have hlen : (allSp n).length ≤ 16384 := by
        have := rawS_len n (2 ^ (2 ^ n - 2))
        have := (pow_small n (by omega) (by omega)).2.2.2
        unfold allSp rawSpaces; rw [List.length_mergeSort]; omega
      have h1 := spec_count n (allSp n) hlen (allSp_sp n) (allSp n).length 0 0 (by omega) (by omega)
      have h2 := impl_count n (allSp n) hlen (allSp_sp n) (allSp n).length 0 0 (by omega) (by omega)
      refine ⟨(((0 + upTo n ((allSp n).drop 0) : Nat) : Int), true), ?_, ?_⟩
      · refine Ev.congr (fun k => spec_CountUpToNames.f.eq_1 k _) ?_
        rw [l1In4]
        exact Ev.bind (Ev.now _) (Ev.pos (by simpa using ha) (Ev.bind (alSpaces_pure n (by omega) (by omega)) h1))
      · refine Ev.congr (fun k => impl_CountUpToNames.f.eq_1 k _) ?_
        rw [within4]
        refine Ev.bind (Ev.now _) (Ev.pos (by simpa using ha) ?_)
        unfold impl_spaces.f
        rw [if_pos (by omega), show ((n : Int)).toNat = n by omega]
        exact Ev.bind (Ev.now _) h2
    · have hd : decide (1 ≤ a0 ∧ a0 ≤ 4) = false := by rw [decide_eq_false_iff_not]; exact ha
      refine ⟨(0, false), ?_, ?_⟩
      · refine Ev.congr (fun k => spec_CountUpToNames.f.eq_1 k _) ?_
        rw [l1In4, hd]
        exact Ev.bind (Ev.now _) (Ev.neg (by simp) (Ev.now _))
      · refine Ev.congr (fun k => impl_CountUpToNames.f.eq_1 k _) ?_
        rw [within4, hd]
        exact Ev.bind (Ev.now _) (Ev.neg (by simp) (Ev.now _))
  obtain ⟨r, h1, h2⟩ := key
  refine Ev.congr (fun k => laws_FnExactCountUpToNames.f.eq_1 k _) (Ev.bind h1 (Ev.bind h2 (Ev.pos rfl ?_)))
  exact Ev.neg (by simp) (Ev.now _)
end Go.Proofs.Ytjhjphgdjhahlaa.Pure
-- PRINTED by print.py: the row of the law laws_FnExactCountUpToNames, out of its Pure (the session's) and the printed walk. Not trusted: Lean checks it.
namespace Go.Proofs.Ytjhjphgdjhahlaa.fnExactCountUpToNames
open Go.ChangeShapes Go.WideShapes Go.ChangeAt Go.RowKit
open Go.ChangeMaps (open_string shut_string)
set_option linter.unusedVariables false
theorem own : ownKnob Try.prog.godebug = none := by kernel_rfl
set_option maxRecDepth 100000 in
theorem lifted (os : Os) (started : os.Started) (H : Type) (enc : TypeId × Value → H) :
    ReturnsInHanded {} Try.checked os 11 .any (Rows.fnExactCountUpToNamesSpec.pre6 enc Try.prog Try.f11 Rows.fnExactCountUpToNamesRow.domain false) (Rows.fnExactCountUpToNamesSpec.post enc Try.prog Try.f11 false true false false) := by
  refine returnsInHanded_of_change_sized (C := Try.checked) own started (by kernel_rfl) Try.func11
    (ChangeSpec.witness6 (enc := enc) (C := Try.checked) false ⟨#[], #[.int .i64 0], []⟩ 8 (by kernel_rfl) (by kernel_rfl) (by kernel_rfl) (by kernel_rfl)) ?_
  intro W base args ds gs before hval0 hW hcnd hsz0 _
  have hsz : (DataW.weightsEach Try.prog (Try.f11.params.toList ++ Rows.fnExactCountUpToNamesSpec.plain.varTypes Try.prog) (ds ++ gs)).all (· ≤ reachBytes) = true := hsz0
  have hval : ∀ (j : Nat) t v, Try.f11.params[j]? = some t → args[j]? = some v → Value.okWide Try.prog W .any base t v := hval0
  have hW' := hW
  obtain ⟨p, q, hA0, hV, rfl, hfz, hnd⟩ := hW
  have hA : DataW.TrodAll enc Try.prog W 0 (fun _ => true) true Try.f11.params.toList args.toList ds p := hA0
  rw [Try.params11] at hA hval hsz
  obtain ⟨v0, vs0, d0, ds0, p0, q0, hargs, rfl, rfl, h0, r0⟩ := trodAll_cons hA
  obtain ⟨rfl, rfl, rfl⟩ := trodAll_nil r0
  obtain rfl : args = #[v0] := by cases args; simp_all
  obtain ⟨rfl, rfl⟩ := trodVars_none hV
  obtain ⟨a0, rfl, rfl, rfl, w0⟩ := open_int Try.underlying3 (hval 0 3 v0 rfl rfl) h0
  clear hA0 hval0 hsz0 hsz
  refine (P.laws_FnExactCountUpToNames.walk Pure.FnExactCountUpToNames a0 W w0).mono fun e W' ⟨he, bel⟩ => ?_
  subst he
  exact ⟨_, rfl, _, _, _, [], _, [], hW', trodAll_mk1 (shut_bool Try.underlying4 _), (trodAll_cons_mk (shut_int Try.underlying3 w0) trodAll_mk0), rfl, bel.frame _, fun h => by cases h⟩
theorem over : Rows.fnExactCountUpToNamesRow.holds Try.pinned (OpenSpec.ofChange Rows.fnExactCountUpToNamesSpec) :=
  OpenClaim.holds_of_wide 11 Try.f11 rfl rfl rfl rfl rfl rfl rfl ⟨rfl, rfl, rfl, rfl, rfl⟩ rfl rfl rfl rfl rfl (by kernel_rfl) Try.func11 (by kernel_rfl)
    (of_decide_eq_true (by kernel_rfl)) (by unfold Func.isWrapper; first | (rw [if_pos (by decide +kernel)]; kernel_rfl) | (rw [if_neg (by decide +kernel)]; exact ⟨rfl, rfl⟩))
    (fun os started H enc _ => lifted os started H enc)
theorem proved : Rows.FnExactCountUpToNamesSaid := over
#print axioms proved
end Go.Proofs.Ytjhjphgdjhahlaa.fnExactCountUpToNames
namespace Go.Proofs.Ytjhjphgdjhahlaa
/-- The row, under a short name, for the claim. -/
theorem fnExactCountUpToNames_holds : Rows.FnExactCountUpToNamesSaid := fnExactCountUpToNames.proved
end Go.Proofs.Ytjhjphgdjhahlaa
