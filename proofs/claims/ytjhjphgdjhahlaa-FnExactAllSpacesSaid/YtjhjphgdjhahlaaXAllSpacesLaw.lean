/- laws' FnExactAllSpaces: the walk. -/
import Derived.Test.YtjhjphgdjhahlaaQ0
import Derived.Test.YtjhjphgdjhahlaaQ1
import Derived.Test.YtjhjphgdjhahlaaQ5
import Derived.Test.YtjhjphgdjhahlaaQ6
import Derived.Test.YtjhjphgdjhahlaaQ7
import Derived.Test.YtjhjphgdjhahlaaXAlSpaces
import Derived.Test.YtjhjphgdjhahlaaXEqual
import Derived.Test.YtjhjphgdjhahlaaXGood
import Derived.Test.YtjhjphgdjhahlaaXMark
import Derived.Test.YtjhjphgdjhahlaaXMarkSpaces
import Derived.Test.YtjhjphgdjhahlaaXSpaces
namespace Go.Proofs.Ytjhjphgdjhahlaa.P
open Go.RowKit Go.Proofs.YtjhjphgdjhahlaaW.PrintWords Go.Proofs.YtjhjphgdjhahlaaW.PrintLast Go.Proofs.YtjhjphgdjhahlaaW.PrintMore
set_option linter.unusedVariables false
set_option maxHeartbeats 1600000
set_option maxRecDepth 100000

theorem eqSpaceS_from (l : List S28) (hl : l.length ≤ 16384) (hf : ∀ x ∈ l, x.f1.length ≤ 16) : ∀ (j i : Nat), i + j = l.length → Ev (fun k => laws_eqSpaceS.l0 k l l (i : Int)) true := by
  intro j
  induction j with
  | zero =>
    intro i hi
    exact Ev.step (fun k => laws_eqSpaceS.l0.eq_2 _ _ _ k) (Ev.neg (by omega) (Ev.now _))
  | succ j ih =>
    intro i hi
    have hil : i < l.length := by omega
    have ew : wrap64 ((i : Int) + 1) = ((i + 1 : Nat) : Int) := by unfold wrap64; omega
    have er : rd_T28 l (i : Int) = l[i] := by unfold rd_T28; simp [hil]
    have hfl := hf _ (List.getElem_mem hil)
    have he := eqSpace_pure l[i].f0 l[i].f0 l[i].f1 l[i].f1 (by omega)
    simp only [and_self, decide_true] at he
    refine Ev.step (fun k => laws_eqSpaceS.l0.eq_2 _ _ _ k) (Ev.pos (by omega) (Ev.pos (by omega) (Ev.pos (by omega) (Ev.bind (by rw [er]; exact he) ?_))))
    rw [ew]
    exact Ev.pos rfl (ih (i + 1) (by omega))
theorem eqSpaceS_same (l : List S28) (hl : l.length ≤ 16384) (hf : ∀ x ∈ l, x.f1.length ≤ 16) : ∃ k, laws_eqSpaceS.f k l l = some true := by
  apply Ev.rounds
  exact Ev.congr (fun k => laws_eqSpaceS.f.eq_1 k _ _) (Ev.pos rfl (eqSpaceS_from l hl hf l.length 0 (by omega)))
theorem heldSpaceS_from (s n : Nat) (L : Nat → S28) (hL : ∀ j, j < n → (L j).f1.length ≤ 16) (hn : n ≤ 16384) (hs : s ≤ 16384) : ∀ (j i : Nat), i + j = n → Ev (fun k => laws_heldSpaceS.l0 k ((List.range n).map (markOf s L)) (markAt s L i : Int) (i : Int)) (markAt s L n : Int) := by
  intro j
  induction j with
  | zero =>
    intro i hi
    obtain rfl : i = n := by omega
    exact Ev.step (fun k => laws_heldSpaceS.l0.eq_2 _ _ _ k) (Ev.neg (by simp) (Ev.now _))
  | succ j ih =>
    intro i hi
    have hil : i < n := by omega
    have hat := markAt_le s L n hL i (by omega)
    have hli := hL i hil
    have ew : wrap64 ((i : Int) + 1) = ((i + 1 : Nat) : Int) := by unfold wrap64; omega
    have es : wrap64 ((markAt s L i : Int) + 1) = ((markAt s L i + 1 : Nat) : Int) := by unfold wrap64; omega
    have er : rd_T28 ((List.range n).map (markOf s L)) (i : Int) = markOf s L i := by unfold rd_T28; simp [hil]
    have h2 := ih (i + 1) (by omega)
    refine Ev.step (fun k => laws_heldSpaceS.l0.eq_2 _ _ _ k) (Ev.pos (by simp; omega) (Ev.pos (by omega) (Ev.pos (by rw [er]; rfl) ?_)))
    simp only [er, es, ew]
    refine Ev.bind (heldIntS_pure (markAt s L i + 1) (L i).f1.length (by omega)) (Ev.neg (by omega) ?_)
    exact h2
theorem heldSpaceS_marks (s n : Nat) (L : Nat → S28) (hL : ∀ j, j < n → (L j).f1.length ≤ 16) (hn : n ≤ 16384) (hs : s ≤ 16384) : ∃ k, laws_heldSpaceS.f k ((List.range n).map (markOf s L)) (s : Int) = some (markAt s L n : Int) := by
  apply Ev.rounds
  refine Ev.congr (fun k => laws_heldSpaceS.f.eq_1 k _ _) ?_
  have := heldSpaceS_from s n L hL hn hs n 0 (by omega)
  simpa [markAt] using this
theorem listed3 (a0 : Int) : spec_alListed.f a0 = some (decide (1 ≤ a0 ∧ a0 ≤ 3)) := by
  unfold spec_alListed.f spec_l1In.f
  by_cases h : a0 ≥ 1
  · rw [if_pos h]; simp only [Option.bind_some]; congr 1; rw [decide_eq_decide]; omega
  · rw [if_neg h]; simp only [Option.bind_some]; congr 1; rw [eq_comm, decide_eq_false_iff_not]; omega
theorem within3 (a0 : Int) : impl_within.f a0 1 3 = some (decide (1 ≤ a0 ∧ a0 ≤ 3)) := by
  unfold impl_within.f
  by_cases h : 1 ≤ a0
  · rw [if_pos h]; congr 1; rw [decide_eq_decide]; omega
  · rw [if_neg h]; congr 1; rw [eq_comm, decide_eq_false_iff_not]; omega

/-- where there are spaces -/
theorem allSpaces_some (a0 : Int) (xs : List S28) (hne : xs ≠ []) (hlen : xs.length ≤ 16384) (hf : ∀ x ∈ xs, x.f1.length ≤ 16) (ks : Nat) (hs : spec_AllSpaces.f ks a0 = some (xs, true)) (hi : impl_AllSpaces.f a0 = some (xs, true)) (w : World) :
    Calls Try.prog 9 #[.int .i64 a0] w fun e w' => e = .returned (.bool true) ∧ Below w.heap.size w w' := by
  have hL : ∀ j, j < xs.length → (xs.getD j z28).f1.length ≤ 16 := fun j hj => by
    have : xs.getD j z28 = xs[j] := by simp [hj]
    rw [this]; exact hf _ (List.getElem_mem _)
  obtain ⟨ke, hke⟩ := eqSpaceS_same xs hlen hf
  obtain ⟨kh, hkh⟩ := heldSpaceS_marks 1 xs.length (fun j => xs.getD j z28) hL hlen (by omega)
  have HNE := Aside0.mk hne
  have HLEN := Aside0.mk hlen
  have HL := Aside0.mk hL
  have HKE := Aside0.mk hke
  have HKH := Aside0.mk hkh
  have HS := Aside0.mk hs
  have HI := Aside0.mk hi
  obtain ⟨t, ht⟩ : ∃ t, markAt 1 (fun j => xs.getD j z28) xs.length = t := ⟨_, rfl⟩
  have HT := Aside0.mk ht
  clear hne hlen hL hke hkh hs hi hf ht
  go_enter Try.func9, Try.ntmps9
  go_wp2_with fail
  refine (spec_AllSpaces.calls ks a0 xs true _ HS.out).mono ?_
  rintro e w1 ⟨v0, rfl, hN, hb⟩
  obtain ⟨A0, c0, rfl⟩ := Kd.N_slice hN
  have HN := Aside0.mk hN
  have HB1 := Aside0.mk hb
  clear hN hb
  go_wp2_with fail
  refine (impl_AllSpaces.calls a0 xs true _ HI.out).mono ?_
  rintro e w2 ⟨v1, rfl, hS, hb⟩
  obtain ⟨g, cap, cur, f, vs, rfl, hbg, hcap, hms⟩ := MS.of hS HNE.out
  have HMS := Aside0.mk hms
  have HBG := Aside0.mk hbg
  have HCAP := Aside0.mk hcap
  have HC1 := Aside0.mk (Kd.R_reads' (Kd.S_R hS))
  have HB2 := Aside0.mk hb
  clear hS hms hbg hcap hb
  go_wp2_with fail
  refine (laws_eqSpaceS.calls ke _ cap xs A0 c0 xs true _ HC1.out.2.2 HCAP.out (Kd.N_reads' (Kd.N_below HN.out HB2.out)).2.2 (Kd.N_reads' HN.out).2.1 HKE.out).mono ?_
  rintro e w3 ⟨rfl, hb⟩
  have HB3 := Aside0.mk (below_then HB2.out HB2.out.size hb)
  have HMS3 := Aside0.mk (HMS.out.below hb)
  clear hb
  go_wp2_with fail
  refine (markSpaceS_calls w1 _ HB3.out g cap xs.length cur f vs _ HMS3.out HBG.out HL.out HLEN.out 1 (by omega)).mono ?_
  rintro e w4 ⟨rfl, ⟨cur', hms⟩, hb⟩
  have HMS4 := Aside0.mk hms
  have HB4 := Aside0.mk hb
  clear hms hb
  rw [HT.out]
  go_wp2_with fail
  have hr4 := HMS4.out.reads (by have := HLEN.out; omega)
  have hlen4 : ((List.range xs.length).map (markOf 1 fun j => xs.getD j z28)).length = xs.length := by simp
  have HLEN4 := Aside0.mk hlen4
  have hkh4 := HKH.out
  rw [HT.out] at hkh4
  have HKH4 := Aside0.mk hkh4
  have hcon := laws_heldSpaceS.calls kh (some ⟨g, 0, none⟩) cap _ 1 (t : Int) w4 (by rw [hlen4]; exact hr4) (by rw [hlen4]; exact HCAP.out) HKH4.out
  rw [hlen4] at hcon
  clear hr4 hlen4 hkh4
  refine hcon.mono ?_
  clear hcon
  rintro e w5 ⟨rfl, nd, rfl⟩
  have ht0 : ¬ ((t : Int) < 0) := by omega
  go_wp2_with fail
  refine (impl_AllSpaces.calls a0 xs true _ HI.out).mono ?_
  rintro e w6 ⟨v2, rfl, hS, hb⟩
  obtain ⟨A2, c2, rfl⟩ := Kd.R_slice (Kd.S_R hS)
  have HC2 := Aside0.mk (Kd.R_reads' (Kd.S_R hS))
  have HB6 := Aside0.mk (below_then (pw_below_drewN HB4.out nd) HB4.out.size hb)
  have HMS6 := Aside0.mk ((HMS4.out.below (pw_below_drewN (Below.refl _ _) nd)).below hb)
  clear hS hb
  go_wp2_with fail
  refine (laws_eqSpaceS.calls ke A2 c2 xs A0 c0 xs true _ HC2.out.2.2 HC2.out.2.1 (Kd.N_reads' (Kd.N_below HN.out HB6.out)).2.2 (Kd.N_reads' HN.out).2.1 HKE.out).mono ?_
  rintro e w7 ⟨rfl, hb⟩
  have HB7 := Aside0.mk (below_then HB6.out HB6.out.size hb)
  have HMS7 := Aside0.mk (HMS6.out.below hb)
  clear hb
  go_wp2_with fail
  have hr7 := HMS7.out.reads (by have := HLEN.out; omega)
  have hcon := laws_heldSpaceS.calls kh (some ⟨g, 0, none⟩) cap _ 1 (t : Int) w7 (by rw [HLEN4.out]; exact hr7) (by rw [HLEN4.out]; exact HCAP.out) HKH4.out
  rw [HLEN4.out] at hcon
  clear hr7
  refine hcon.mono ?_
  clear hcon
  rintro e w8 ⟨rfl, nd2, rfl⟩
  go_wp2_with fail
  go_ret
  exact ⟨rfl, below_then HB1.out HB1.out.size (pw_below_drewN HB7.out nd2)⟩
/-- where there are none -/
theorem allSpaces_none (a0 : Int) (ks : Nat) (hs : spec_AllSpaces.f ks a0 = some ([], false)) (hi : impl_AllSpaces.f a0 = some ([], false)) (w : World) :
    Calls Try.prog 9 #[.int .i64 a0] w fun e w' => e = .returned (.bool true) ∧ Below w.heap.size w w' := by
  have HS := Aside0.mk hs
  have HI := Aside0.mk hi
  have HKE := Aside0.mk (show laws_eqSpaceS.f 1 ([] : List S28) [] = some true from rfl)
  have HKH := Aside0.mk (show laws_heldSpaceS.f 1 ([] : List S28) 1 = some 1 from rfl)
  clear hs hi
  go_enter Try.func9, Try.ntmps9
  go_wp2_with fail
  refine (spec_AllSpaces.calls ks a0 [] false _ HS.out).mono ?_
  rintro e w1 ⟨v0, rfl, hN, hb⟩
  obtain ⟨A0, c0, rfl⟩ := Kd.N_slice hN
  have HN := Aside0.mk hN
  have HB1 := Aside0.mk hb
  clear hN hb
  go_wp2_with fail
  refine (impl_AllSpaces.calls a0 [] false _ HI.out).mono ?_
  rintro e w2 ⟨v1, rfl, hS, hb⟩
  obtain ⟨A1, c1, rfl⟩ := Kd.R_slice (Kd.S_R hS)
  have HC1 := Aside0.mk (Kd.R_reads' (Kd.S_R hS))
  have HB2 := Aside0.mk hb
  clear hS hb
  go_wp2_with fail
  refine (laws_eqSpaceS.calls 1 A1 c1 [] A0 c0 [] true _ HC1.out.2.2 HC1.out.2.1 (Kd.N_reads' (Kd.N_below HN.out HB2.out)).2.2 (Kd.N_reads' HN.out).2.1 HKE.out).mono ?_
  rintro e w3 ⟨rfl, hb⟩
  have HX3 := Aside0.mk (Kd.C_below HC1.out.2.2 hb)
  have HB3 := Aside0.mk (below_then HB2.out HB2.out.size hb)
  clear hb
  go_wp2_with fail
  refine (markSpaceS_none _ A1 c1 1).mono ?_
  rintro e w4 ⟨rfl, hb⟩
  have HX4 := Aside0.mk (Kd.C_below HX3.out hb)
  have HB4 := Aside0.mk (below_then HB3.out HB3.out.size hb)
  clear hb
  go_wp2_with fail
  refine (laws_heldSpaceS.calls 1 A1 c1 [] 1 1 w4 HX4.out HC1.out.2.1 HKH.out).mono ?_
  rintro e w5 ⟨rfl, nd, rfl⟩
  go_wp2_with fail
  refine (impl_AllSpaces.calls a0 [] false _ HI.out).mono ?_
  rintro e w6 ⟨v2, rfl, hS, hb⟩
  obtain ⟨A2, c2, rfl⟩ := Kd.R_slice (Kd.S_R hS)
  have HC2 := Aside0.mk (Kd.R_reads' (Kd.S_R hS))
  have HB6 := Aside0.mk (below_then (pw_below_drewN HB4.out nd) HB4.out.size hb)
  have HX6 := Aside0.mk (Kd.C_below (Kd.C_below HX4.out (pw_below_drewN (Below.refl _ _) nd)) hb)
  clear hS hb
  go_wp2_with fail
  refine (laws_eqSpaceS.calls 1 A2 c2 [] A0 c0 [] true _ HC2.out.2.2 HC2.out.2.1 (Kd.N_reads' (Kd.N_below HN.out HB6.out)).2.2 (Kd.N_reads' HN.out).2.1 HKE.out).mono ?_
  rintro e w7 ⟨rfl, hb⟩
  have HB7 := Aside0.mk (below_then HB6.out HB6.out.size hb)
  have HX7 := Aside0.mk (Kd.C_below HX6.out hb)
  clear hb
  go_wp2_with fail
  refine (laws_heldSpaceS.calls 1 A1 c1 [] 1 1 w7 HX7.out HC1.out.2.1 HKH.out).mono ?_
  rintro e w8 ⟨rfl, nd2, rfl⟩
  go_wp2_with fail
  go_ret
  exact ⟨rfl, below_then HB1.out HB1.out.size (pw_below_drewN HB7.out nd2)⟩
theorem allSpaces_calls (a0 : Int) (w : World) : Calls Try.prog 9 #[.int .i64 a0] w fun e w' => e = .returned (.bool true) ∧ Below w.heap.size w w' := by
  by_cases ha : 1 ≤ a0 ∧ a0 ≤ 3
  · obtain ⟨n, rfl⟩ : ∃ n : Nat, a0 = n := ⟨a0.toNat, by omega⟩
    have h1 : 1 ≤ n := by omega
    have h4 : n ≤ 4 := by omega
    have hlen : (allSp n).length ≤ 16384 := by
      have := rawS_len n (2 ^ (2 ^ n - 2))
      have := (pow_small n h1 h4).2.2.2
      unfold allSp rawSpaces; rw [List.length_mergeSort]; omega
    have hne : allSp n ≠ [] := by
      intro he
      have : (rawSpaces n).length = 0 := by have h := congrArg List.length he; unfold allSp at h; rwa [List.length_mergeSort] at h
      exact rawSpaces_ne n h1 h4 (List.eq_nil_of_length_eq_zero this)
    have hf : ∀ x ∈ allSp n, x.f1.length ≤ 16 := fun x hx => rawS_f1 h1 h4 x ((List.mergeSort_perm _ _).mem_iff.1 hx)
    obtain ⟨ks, hks⟩ : ∃ k, spec_AllSpaces.f k (n : Int) = some (allSp n, true) := by
      apply Ev.rounds
      refine Ev.congr (fun k => spec_AllSpaces.f.eq_1 k _) ?_
      rw [listed3]
      refine Ev.bind (Ev.now _) (Ev.pos (by simpa using ha) (Ev.bind (alSpaces_pure n h1 h4) (Ev.now _)))
    refine allSpaces_some (n : Int) (allSp n) hne hlen hf ks hks ?_ w
    unfold impl_AllSpaces.f impl_spaces.f
    rw [within3, show decide (1 ≤ (n : Int) ∧ (n : Int) ≤ 3) = true by simpa using ha]
    simp only [Option.bind_some, if_true]
    rw [if_pos (by omega), show ((n : Int)).toNat = n by omega]; rfl
  · have hd : decide (1 ≤ a0 ∧ a0 ≤ 3) = false := by rw [decide_eq_false_iff_not]; exact ha
    refine allSpaces_none a0 0 ?_ ?_ w
    · unfold spec_AllSpaces.f; rw [listed3, hd]; rfl
    · unfold impl_AllSpaces.f; rw [within3, hd]; rfl
end Go.Proofs.Ytjhjphgdjhahlaa.P
