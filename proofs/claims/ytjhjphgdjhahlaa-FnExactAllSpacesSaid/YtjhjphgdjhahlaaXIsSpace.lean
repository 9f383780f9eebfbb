/- impl's IsSpace. -/
import Derived.Test.YtjhjphgdjhahlaaQ0
import Derived.Test.YtjhjphgdjhahlaaQ5
import Derived.Test.YtjhjphgdjhahlaaXCore
import Derived.Test.YtjhjphgdjhahlaaXFam
import Derived.Test.YtjhjphgdjhahlaaXFringe
namespace Go.Proofs.Ytjhjphgdjhahlaa.P
open Go.RowKit Go.Proofs.YtjhjphgdjhahlaaW.PrintWords Go.Proofs.YtjhjphgdjhahlaaW.PrintLast Go.Proofs.YtjhjphgdjhahlaaW.PrintMore
set_option linter.unusedVariables false
set_option maxHeartbeats 1600000
set_option maxRecDepth 100000

theorem isSize_pure (n : Int) : impl_isSize.f n = some (decide (1 ≤ n ∧ n ≤ 7)) := by
  unfold impl_isSize.f impl_within.f
  by_cases h : 1 ≤ n <;> simp [h]
theorem isSet_pure (n : Nat) (x : Int) (hn : n < 8) : impl_isSet.f (n : Int) x = some (decide (0 ≤ x ∧ x < 2 ^ n)) := by
  have e : wrap64 ((shl .i64 1 (n : Int)) - 1) = ((2 ^ n : Nat) : Int) - 1 := by
    rw [shl_one n hn]
    have : ∀ n, n < 8 → wrap64 (((2 ^ n : Nat) : Int) - 1) = ((2 ^ n : Nat) : Int) - 1 := by decide +kernel
    exact this n hn
  unfold impl_isSet.f impl_within.f
  rw [if_pos (by omega), e]
  have e2 : ((2 ^ n : Nat) : Int) = 2 ^ n := by simp
  by_cases h : 0 ≤ x
  · rw [if_pos h]; simp only [Option.bind_some, e2]; congr 1; rw [decide_eq_decide]; omega
  · rw [if_neg h]; simp [h]
theorem all_pure (n : Nat) (l : List Int) (hn : n < 8) : impl_Space_all.f (n : Int) l = some ((2 ^ n - 1 : Nat) : Int) := by
  unfold impl_Space_all.f
  rw [if_pos (by omega), shl_one n hn]
  have : ∀ n, n < 8 → wrap64 (((2 ^ n : Nat) : Int) - 1) = ((2 ^ n - 1 : Nat) : Int) := by decide +kernel
  rw [this n hn]

theorem IsSpace_calls (n : Int) (A : Option Addr) (c : Nat) (l : List Int) (w : World) (hr : Kd.C (Kd.int .i64) w A l.length l) (hc : l.length ≤ c) :
    Calls Try.prog 89 #[.agg #[.int .i64 n, .slice A l.length c]] w fun e w' => e = .returned (.bool (isSpB n l)) ∧ Below w.heap.size w w' := by
  have hu := Try.underlying28
  have HR := Aside0.mk hr
  have HC := Aside0.mk hc
  clear hr hc
  have hlen := HR.out.2.1
  by_cases h1 : 1 ≤ n ∧ n ≤ 7
  · obtain ⟨h1a, h1b⟩ := h1
    have HS : Aside0 (impl_isSize.f n = some true) := ⟨by rw [isSize_pure, decide_eq_true ⟨h1a, h1b⟩]⟩
    obtain ⟨m, rfl⟩ := Int.eq_ofNat_of_zero_le (show 0 ≤ n by omega)
    have hm1 : 1 ≤ m := by omega
    have hm7 : m ≤ 7 := by omega
    have HE : Aside0 (isSpB (m : Int) l = isSpN m l) := ⟨by unfold isSpB; rw [if_pos ⟨h1a, h1b⟩]; rfl⟩
    clear h1a h1b
    obtain ⟨p, hp1, hp2, hp⟩ := bit_letter m (by omega)
    have HP := Aside0.mk hp
    by_cases hl : p < (l.length : Int)
    · have HN : Aside0 (isSpN m l = false) := ⟨by
        unfold isSpN
        rw [decide_eq_false (by rw [hp] at hl; omega)]; rfl⟩
      clear hp
      go_enter Try.func89, Try.ntmps89
      go_wp2_with fail
      go_quiet (first | (go_at_call 72; (with_reducible refine (impl_isSize.calls (m : Int) true _ HS.out).mono ?_); rintro e w' ⟨rfl, ⟨nd, rfl⟩⟩; exact ⟨rfl, _, World.drewN_drewN _ _ _⟩))
      go_wp2
      go_ret
      exact ⟨by simp [HE.out, HN.out], by repeat (first | exact Below.refl _ _ | apply pw_below_drewN | apply below_alloc)⟩
    · have hd : decide (p < (l.length : Int)) = false := decide_eq_false hl
      have hl2 : (l.length : Int) ≤ p := by omega
      have HL2 : Aside0 (l.length ≤ 2 ^ m) := ⟨by rw [hp] at hl2; omega⟩
      clear hp hl
      go_enter Try.func89, Try.ntmps89
      go_wp2_with fail
      go_quiet (first | (go_at_call 72; (with_reducible refine (impl_isSize.calls (m : Int) true _ HS.out).mono ?_); rintro e w' ⟨rfl, ⟨nd, rfl⟩⟩; exact ⟨rfl, _, World.drewN_drewN _ _ _⟩))
      go_wp2_with fail
      go_loopg [26] l.length (fun kq v26 w' => ∃ i : Nat, v26 = .int .i64 i ∧ i ≤ l.length ∧ Aside0 (kq = l.length - i) ∧ Aside0 (∀ j, j < i → incOk m l j = true) ∧ Aside0 (w'.heap[w.heap.size]? = some (.cells #[.int .i64 (m : Int), .slice A l.length c] 28 (0, 0))) ∧ Aside0 (Below w.heap.size w w'))
      case atStart => exact ⟨0, rfl, Nat.zero_le _, ⟨rfl⟩, ⟨fun j h => by omega⟩, ⟨blk_drewN (heap_alloc_new _ _) _⟩, ⟨pw_below_drewN (below_alloc (Below.refl _ _) _) _⟩⟩
      case round =>
        obtain ⟨i, rfl, hi, HK, HI, HB0, HB⟩ := hrel
        have hc0_0 : wr.cell? ⟨w.heap.size, 0, none⟩ = some (.int .i64 (m : Int)) := (blk_cell HB0.out 0).trans rfl
        have hc0_1 : wr.cell? ⟨w.heap.size, 1, none⟩ = some (.slice A l.length c) := (blk_cell HB0.out 1).trans rfl
        by_cases hlt : i < l.length
        · obtain ⟨ad, e1, hx⟩ := int_at HR.out i hlt
          have hx' : 1 ≤ i → w.cell? (ad.add (i - 1)) = some (.int .i64 (l[i - 1]?.getD 0)) := fun h => by
            obtain ⟨ad', e2, h2⟩ := int_at HR.out (i - 1) (by omega)
            rw [e1] at e2; cases e2; exact h2
          cases e1
          replace hx := pw_cell_below HB.out hx
          obtain ⟨x, hxx⟩ : ∃ x, l[i]?.getD 0 = x := ⟨_, rfl⟩
          rw [hxx] at hx
          have hst := isSet_pure m x (by omega)
          by_cases hset : 0 ≤ x ∧ x < 2 ^ m
          · rw [decide_eq_true hset] at hst
            have HST := Aside0.mk hst
            have HSE := Aside0.mk hset
            clear hst hset
            rcases Nat.eq_zero_or_pos i with h0 | h0
            · subst h0
              have HOK : Aside0 (incOk m l 0 = true) := ⟨by unfold incOk; rw [hxx, decide_eq_true HSE.out]; rfl⟩
              clear hx' hxx
              rw [Addr.add_zero'] at hx
              go_wp2_with (first | (go_at_call 129; (with_reducible refine (impl_isSet.calls (m : Int) x true _ HST.out).mono ?_); rintro e w' ⟨rfl, ⟨nd, rfl⟩⟩))
              go_roundg (l.length - (0 + 1))
              case measure => have := HK.out; omega
              case rel =>
                exact ⟨1, by go_num, by omega, ⟨rfl⟩, ⟨fun j hj => by obtain rfl : j = 0 := (by omega); exact HOK.out⟩, ⟨blk_drewN HB0.out _⟩, ⟨pw_below_drewN HB.out _⟩⟩
            · replace hx' := pw_cell_below HB.out (hx' h0)
              obtain ⟨y, hyy⟩ : ∃ y, l[i - 1]?.getD 0 = y := ⟨_, rfl⟩
              rw [hyy] at hx'
              have hne : ¬ (i : Int) = 0 := by omega
              by_cases hle : x ≤ y
              · have HOK : Aside0 (incOk m l i = false) := ⟨by
                  unfold incOk; rw [hxx, hyy, decide_eq_true HSE.out, decide_eq_false (show ¬ i = 0 by omega), decide_eq_false (show ¬ y < x by omega)]; rfl⟩
                clear hxx hyy
                go_wp2_with (first | (go_at_call 129; (with_reducible refine (impl_isSet.calls (m : Int) x true _ HST.out).mono ?_); rintro e w' ⟨rfl, ⟨nd, rfl⟩⟩))
                go_ret
                refine ⟨?_, pw_below_drewN HB.out _⟩
                have : isSpN m l = false := by unfold isSpN; rw [all_range_false hlt HOK.out]; simp
                simp [HE.out, this]
              · have HOK : Aside0 (incOk m l i = true) := ⟨by
                  unfold incOk; rw [hxx, hyy, decide_eq_true HSE.out, decide_eq_false (show ¬ i = 0 by omega), decide_eq_true (show y < x by omega)]; rfl⟩
                clear hxx hyy
                go_wp2_with (first | (go_at_call 129; (with_reducible refine (impl_isSet.calls (m : Int) x true _ HST.out).mono ?_); rintro e w' ⟨rfl, ⟨nd, rfl⟩⟩))
                go_roundg (l.length - (i + 1))
                case measure => have := HK.out; omega
                case rel =>
                  exact ⟨i + 1, by go_num, by omega, ⟨rfl⟩, ⟨fun j hj => by
                    rcases Nat.lt_or_ge j i with h | h
                    · exact HI.out j h
                    · obtain rfl : j = i := by omega
                      exact HOK.out⟩, ⟨blk_drewN HB0.out _⟩, ⟨pw_below_drewN HB.out _⟩⟩
          · rw [decide_eq_false hset] at hst
            have HST := Aside0.mk hst
            have HOK : Aside0 (incOk m l i = false) := ⟨by unfold incOk; rw [hxx, decide_eq_false hset]; rfl⟩
            clear hst hset hx' hxx
            go_wp2_with (first | (go_at_call 129; (with_reducible refine (impl_isSet.calls (m : Int) x false _ HST.out).mono ?_); rintro e w' ⟨rfl, ⟨nd, rfl⟩⟩))
            go_ret
            refine ⟨?_, pw_below_drewN HB.out _⟩
            have : isSpN m l = false := by unfold isSpN; rw [all_range_false hlt HOK.out]; simp
            simp [HE.out, this]
        · obtain rfl : i = l.length := by omega
          have HV : Aside0 (∀ x ∈ l, 0 ≤ x ∧ x < 2 ^ m) := ⟨by
            intro x hx
            obtain ⟨j, hj, rfl⟩ := List.getElem_of_mem hx
            have := HI.out j hj
            simp only [incOk, Bool.and_eq_true, decide_eq_true_eq, List.getElem?_eq_getElem hj, Option.getD_some] at this
            exact this.1⟩
          have HV2 : Aside0 (∀ x ∈ l, 0 ≤ x ∧ x < 128) := ⟨fun x hx => ⟨(HV.out x hx).1, Int.lt_of_lt_of_le (HV.out x hx).2 (by
            have : (2 : Nat) ^ m ≤ 2 ^ 7 := Nat.pow_le_pow_right (by omega) hm7
            have h2 : ((2 ^ m : Nat) : Int) = 2 ^ m := by simp
            rw [← h2]; omega)⟩⟩
          go_wp2_with fail
          refine (family_calls (m : Int) A l c _ (Kd.C_below HR.out HB.out) HV2.out).mono ?_
          rintro e w1 ⟨g, rfl, hF, hb, hg⟩
          have HB0' := Aside0.mk (blk_below HB0.out hb)
          have HB' := Aside0.mk (below_step HB.out hb)
          have HF := Aside0.mk hF
          have HG := Aside0.mk hg
          clear hF hb hg hc0_0 hc0_1 HB0 HB
          have hc0_0 : w1.cell? ⟨w.heap.size, 0, none⟩ = some (.int .i64 (m : Int)) := (blk_cell HB0'.out 0).trans rfl
          have hc0_1 : w1.cell? ⟨w.heap.size, 1, none⟩ = some (.slice A l.length c) := (blk_cell HB0'.out 1).trans rfl
          have hf0 := HF.out.cell 0 (by omega)
          obtain ⟨b, hb⟩ : ∃ b, famOf l 0 = b := ⟨_, rfl⟩
          rw [hb] at hf0
          have HBV := Aside0.mk hb
          clear hb
          cases b
          · go_wp2_with fail
            go_quiet (fail)
            go_wp2
            go_ret
            refine ⟨?_, pw_below_drewN HB'.out _⟩
            have : isSpN m l = false := by unfold isSpN; rw [HBV.out]; simp
            simp [HE.out, this]
          · have hq : 2 ^ m - 1 < 128 := by
              have : (2 : Nat) ^ m ≤ 2 ^ 7 := Nat.pow_le_pow_right (by omega) hm7
              omega
            obtain ⟨q, hqq⟩ : ∃ q, 2 ^ m - 1 = q := ⟨_, rfl⟩
            have HAL := Aside0.mk (all_pure m l (by omega))
            rw [hqq] at hq HAL
            have HQ := Aside0.mk hqq
            clear hqq
            obtain ⟨b, hb⟩ : ∃ b, famOf l q = b := ⟨_, rfl⟩
            have HBQ := Aside0.mk hb
            clear hb
            cases b
            · go_wp2_with fail
              go_region_with (go_at_call 109; refine (impl_Space_all.calls (m : Int) A c l (q : Int) _ (Kd.C_drew (Kd.C_below HR.out HB'.out)) HC.out HAL.out).mono ?_; rintro e w2 ⟨rfl, hb⟩; have hF1 := Aside0.mk (HF.out.drew.below hb); have hb0 := Aside0.mk (blk_below (blk_drew HB0'.out) hb); have hbb := Aside0.mk (below_step (below_drew1 HB'.out) hb); have hcq := hF1.out.cell q hq; rw [HBQ.out] at hcq; clear hb)
              go_wp2
              go_ret
              refine ⟨?_, hbb.out⟩
              have : isSpN m l = false := by unfold isSpN; rw [HQ.out, HBQ.out]; simp
              simp [HE.out, this]
            · go_wp2_with fail
              go_region_with (go_at_call 109; refine (impl_Space_all.calls (m : Int) A c l (q : Int) _ (Kd.C_drew (Kd.C_below HR.out HB'.out)) HC.out HAL.out).mono ?_; rintro e w2 ⟨rfl, hb⟩; have hF1 := Aside0.mk (HF.out.drew.below hb); have hb0 := Aside0.mk (blk_below (blk_drew HB0'.out) hb); have hbb := Aside0.mk (below_step (below_drew1 HB'.out) hb); have hcq := hF1.out.cell q hq; rw [HBQ.out] at hcq; clear hb)
              clear hc0_0 hc0_1 hf0 hcq
              obtain ⟨w3, hw3⟩ : ∃ w3 : World, w3 = w2 := ⟨_, rfl⟩
              subst hw3
              have hc0_0 : w3.cell? ⟨w.heap.size, 0, none⟩ = some (.int .i64 (m : Int)) := (blk_cell hb0.out 0).trans rfl
              have hc0_1 : w3.cell? ⟨w.heap.size, 1, none⟩ = some (.slice A l.length c) := (blk_cell hb0.out 1).trans rfl
              go_wp2_with fail
              have HR2 := HR
              have HIN : Aside0 (isSpN m l = l.all (rowOk (famOf l) l)) := ⟨by
                unfold isSpN
                rw [decide_eq_true HL2.out, all_range_true (fun j hj => HI.out j hj), HBV.out, HQ.out, HBQ.out]; simp⟩
              clear HI HK HF hc0_0 hc0_1
              go_loopg [70] l.length (fun kq v70 w' => ∃ i : Nat, v70 = .int .i64 i ∧ i ≤ l.length ∧ Aside0 (kq = l.length - i) ∧ Aside0 (∀ j (hj : j < l.length), j < i → rowOk (famOf l) l l[j] = true) ∧ Aside0 (FamAt w' g (famOf l)) ∧ Aside0 (w'.heap[w.heap.size]? = some (.cells #[.int .i64 (m : Int), .slice A l.length c] 28 (0, 0))) ∧ Aside0 (Below w.heap.size w w'))
              case atStart => exact ⟨0, rfl, Nat.zero_le _, ⟨rfl⟩, ⟨fun j _ h => by omega⟩, hF1, hb0, hbb⟩
              case round =>
                clear hF1 hb0 hbb HB0' HB'
                obtain ⟨i, rfl, hi, HK, HI, HF, HB0, HB⟩ := hrel
                have hc0_0 : wr.cell? ⟨w.heap.size, 0, none⟩ = some (.int .i64 (m : Int)) := (blk_cell HB0.out 0).trans rfl
                have hc0_1 : wr.cell? ⟨w.heap.size, 1, none⟩ = some (.slice A l.length c) := (blk_cell HB0.out 1).trans rfl
                by_cases hlt : i < l.length
                · obtain ⟨ad, e1, hx⟩ := int_at HR.out i hlt
                  cases e1
                  replace hx := pw_cell_below HB.out hx
                  have hm := HV2.out (l[i]) (List.getElem_mem hlt)
                  obtain ⟨k, hk1⟩ := Int.eq_ofNat_of_zero_le hm.1
                  have hk2 : k < 128 := by have := hm.2; rw [hk1] at this; omega
                  have hgd : l[i]?.getD 0 = (k : Int) := by simp [hlt, hk1]
                  rw [hgd] at hx
                  have HK1 := Aside0.mk hk1
                  clear hm hk1 hgd
                  have hinl := inner_lt (famOf l) k
                  have HX := Aside0.mk (show l[i].toNat = k by rw [HK1.out]; simp)
                  have HRW : Aside0 (rowOk (famOf l) l l[i] = ((decide (l[i] = 0) || decide (inner (famOf l) k ≠ 0)) && orOk (famOf l) l k)) := ⟨by unfold rowOk; rw [HX.out]⟩
                  by_cases hk0 : k = 0 ∨ inner (famOf l) k ≠ 0
                  · have HRO : Aside0 (rowOk (famOf l) l l[i] = orOk (famOf l) l k) := ⟨by
                      rw [HRW.out]
                      rcases hk0 with h | h
                      · rw [decide_eq_true (show l[i] = 0 by rw [HK1.out, h]; rfl)]; simp
                      · rw [decide_eq_true h]; simp⟩
                    obtain ⟨v, hv⟩ : ∃ v, inner (famOf l) k = v := ⟨_, rfl⟩
                    have HVV := Aside0.mk hv
                    rw [hv] at hk0 hinl
                    clear hv
                    rcases Nat.eq_zero_or_pos k with h0 | h0
                    · have hkb : ((k : Int) != 0) = false := by simp [h0]
                      have HH0 := Aside0.mk h0
                      clear h0 hk0
                      go_wp2_with fail
                      have HF4 := HF
                      have HB04 := HB0
                      have HB4 := HB
                      clear HF HB0 HB
                      go_loopg [85] l.length (fun kq v85 w' => ∃ j : Nat, v85 = .int .i64 j ∧ j ≤ l.length ∧ Aside0 (kq = l.length - j) ∧ Aside0 (∀ j' (hj : j' < l.length), j' < j → famOf l (k ||| l[j'].toNat) = true) ∧ Aside0 (FamAt w' g (famOf l)) ∧ Aside0 (w'.heap[w.heap.size]? = some (.cells #[.int .i64 (m : Int), .slice (some ad) l.length c] 28 (0, 0))) ∧ Aside0 (Below w.heap.size w w'))
                      case atStart => exact ⟨0, rfl, Nat.zero_le _, ⟨rfl⟩, ⟨fun j _ h => by omega⟩, HF4, HB04, HB4⟩
                      case round =>
                        clear HF4 HB04 HB4 hc0_0 hc0_1
                        obtain ⟨j, rfl, hj, HKJ, HJ, HF5, HB05, HB5⟩ := hrel
                        have hc0_0 : wr.cell? ⟨w.heap.size, 0, none⟩ = some (.int .i64 (m : Int)) := (blk_cell HB05.out 0).trans rfl
                        have hc0_1 : wr.cell? ⟨w.heap.size, 1, none⟩ = some (.slice (some ad) l.length c) := (blk_cell HB05.out 1).trans rfl
                        by_cases hjt : j < l.length
                        · obtain ⟨ad', e2, hy⟩ := int_at HR.out j hjt
                          cases e2
                          replace hy := pw_cell_below HB5.out hy
                          have hm := HV2.out (l[j]) (List.getElem_mem hjt)
                          obtain ⟨y, hy1⟩ := Int.eq_ofNat_of_zero_le hm.1
                          have hy2 : y < 128 := by have := hm.2; rw [hy1] at this; omega
                          have hgd : l[j]?.getD 0 = (y : Int) := by simp [hjt, hy1]
                          rw [hgd] at hy
                          have hgo := go_or k y hk2 hy2
                          have hq2 : k ||| y < 128 := Nat.or_lt_two_pow (n := 7) hk2 hy2
                          obtain ⟨q2, hq2e⟩ : ∃ q2, k ||| y = q2 := ⟨_, rfl⟩
                          rw [hq2e] at hgo hq2
                          have hcq := HF5.out.cell q2 hq2
                          obtain ⟨b, hb⟩ : ∃ b, famOf l q2 = b := ⟨_, rfl⟩
                          rw [hb] at hcq
                          have HFY : Aside0 (famOf l (k ||| l[j].toNat) = b) := ⟨by rw [hy1, Int.toNat_natCast, hq2e, hb]⟩
                          clear hm hy1 hgd hq2e hb
                          cases b
                          · go_wp2
                            go_ret
                            refine ⟨?_, HB5.out⟩
                            have h1 : orOk (famOf l) l k = false := all_at_false hjt HFY.out
                            have : l.all (rowOk (famOf l) l) = false := all_at_false hlt (HRO.out.trans h1)
                            simp [HE.out, HIN.out, this]
                          · go_wp2
                            go_roundg (l.length - (j + 1))
                            case measure => have := HKJ.out; omega
                            case rel =>
                              exact ⟨j + 1, by go_num, by omega, ⟨rfl⟩, ⟨fun j' hj' h => by
                                rcases Nat.lt_or_ge j' j with h' | h'
                                · exact HJ.out j' hj' h'
                                · obtain rfl : j' = j := by omega
                                  exact HFY.out⟩, HF5, HB05, HB5⟩
                        · obtain rfl : j = l.length := by omega
                          go_wp2
                          go_roundg (l.length - (i + 1))
                          case measure => have := HK.out; omega
                          case rel =>
                            exact ⟨i + 1, by go_num, by omega, ⟨rfl⟩, ⟨fun j' hj' h => by
                              rcases Nat.lt_or_ge j' i with h' | h'
                              · exact HI.out j' hj' h'
                              · obtain rfl : j' = i := by omega
                                exact HRO.out.trans (all_at_true fun z hz => HJ.out z hz hz)⟩, HF5, HB05, HB5⟩
                    · have hkb : ((k : Int) != 0) = true := by simp; omega
                      have hv0 : 0 < v := by omega
                      have hvb : ((v : Int) == 0) = false := by simp; omega
                      clear hk0
                      go_wp2_with fail
                      refine (inner_calls g k (famOf l) wr hk2 HF.out).mono ?_
                      rintro e w4 ⟨rfl, hb4⟩
                      rw [HVV.out]
                      have hb04 := blk_below HB0.out hb4
                      have HB4 := Aside0.mk (below_step HB.out hb4)
                      have HF4 := Aside0.mk (HF.out.below hb4)
                      clear hc0_0 hc0_1 HF HB0 HB hb4
                      have hc0_0 : w4.cell? ⟨w.heap.size, 0, none⟩ = some (.int .i64 (m : Int)) := (blk_cell hb04 0).trans rfl
                      have hc0_1 : w4.cell? ⟨w.heap.size, 1, none⟩ = some (.slice (some ad) l.length c) := (blk_cell hb04 1).trans rfl
                      have HB04 := Aside0.mk hb04
                      clear hb04
                      go_wp2_with fail
                      go_loopg [85] l.length (fun kq v85 w' => ∃ j : Nat, v85 = .int .i64 j ∧ j ≤ l.length ∧ Aside0 (kq = l.length - j) ∧ Aside0 (∀ j' (hj : j' < l.length), j' < j → famOf l (k ||| l[j'].toNat) = true) ∧ Aside0 (FamAt w' g (famOf l)) ∧ Aside0 (w'.heap[w.heap.size]? = some (.cells #[.int .i64 (m : Int), .slice (some ad) l.length c] 28 (0, 0))) ∧ Aside0 (Below w.heap.size w w'))
                      case atStart => exact ⟨0, rfl, Nat.zero_le _, ⟨rfl⟩, ⟨fun j _ h => by omega⟩, HF4, HB04, HB4⟩
                      case round =>
                        clear HF4 HB04 HB4 hc0_0 hc0_1
                        obtain ⟨j, rfl, hj, HKJ, HJ, HF5, HB05, HB5⟩ := hrel
                        have hc0_0 : wr.cell? ⟨w.heap.size, 0, none⟩ = some (.int .i64 (m : Int)) := (blk_cell HB05.out 0).trans rfl
                        have hc0_1 : wr.cell? ⟨w.heap.size, 1, none⟩ = some (.slice (some ad) l.length c) := (blk_cell HB05.out 1).trans rfl
                        by_cases hjt : j < l.length
                        · obtain ⟨ad', e2, hy⟩ := int_at HR.out j hjt
                          cases e2
                          replace hy := pw_cell_below HB5.out hy
                          have hm := HV2.out (l[j]) (List.getElem_mem hjt)
                          obtain ⟨y, hy1⟩ := Int.eq_ofNat_of_zero_le hm.1
                          have hy2 : y < 128 := by have := hm.2; rw [hy1] at this; omega
                          have hgd : l[j]?.getD 0 = (y : Int) := by simp [hjt, hy1]
                          rw [hgd] at hy
                          have hgo := go_or k y hk2 hy2
                          have hq2 : k ||| y < 128 := Nat.or_lt_two_pow (n := 7) hk2 hy2
                          obtain ⟨q2, hq2e⟩ : ∃ q2, k ||| y = q2 := ⟨_, rfl⟩
                          rw [hq2e] at hgo hq2
                          have hcq := HF5.out.cell q2 hq2
                          obtain ⟨b, hb⟩ : ∃ b, famOf l q2 = b := ⟨_, rfl⟩
                          rw [hb] at hcq
                          have HFY : Aside0 (famOf l (k ||| l[j].toNat) = b) := ⟨by rw [hy1, Int.toNat_natCast, hq2e, hb]⟩
                          clear hm hy1 hgd hq2e hb
                          cases b
                          · go_wp2
                            go_ret
                            refine ⟨?_, HB5.out⟩
                            have h1 : orOk (famOf l) l k = false := all_at_false hjt HFY.out
                            have : l.all (rowOk (famOf l) l) = false := all_at_false hlt (HRO.out.trans h1)
                            simp [HE.out, HIN.out, this]
                          · go_wp2
                            go_roundg (l.length - (j + 1))
                            case measure => have := HKJ.out; omega
                            case rel =>
                              exact ⟨j + 1, by go_num, by omega, ⟨rfl⟩, ⟨fun j' hj' h => by
                                rcases Nat.lt_or_ge j' j with h' | h'
                                · exact HJ.out j' hj' h'
                                · obtain rfl : j' = j := by omega
                                  exact HFY.out⟩, HF5, HB05, HB5⟩
                        · obtain rfl : j = l.length := by omega
                          go_wp2
                          go_roundg (l.length - (i + 1))
                          case measure => have := HK.out; omega
                          case rel =>
                            exact ⟨i + 1, by go_num, by omega, ⟨rfl⟩, ⟨fun j' hj' h => by
                              rcases Nat.lt_or_ge j' i with h' | h'
                              · exact HI.out j' hj' h'
                              · obtain rfl : j' = i := by omega
                                exact HRO.out.trans (all_at_true fun z hz => HJ.out z hz hz)⟩, HF5, HB05, HB5⟩
                  · have h0 : 0 < k := by omega
                    have hv0 : inner (famOf l) k = 0 := by omega
                    have hkb : ((k : Int) != 0) = true := by simp; omega
                    have HRO : Aside0 (rowOk (famOf l) l l[i] = false) := ⟨by
                      rw [HRW.out, hv0, decide_eq_false (show ¬ l[i] = 0 by rw [HK1.out]; omega)]; simp⟩
                    have HVV := Aside0.mk hv0
                    clear hk0 hv0 hinl
                    go_wp2_with fail
                    refine (inner_calls g k (famOf l) wr hk2 HF.out).mono ?_
                    rintro e w4 ⟨rfl, hb4⟩
                    rw [HVV.out]
                    have HB4 := Aside0.mk (below_step HB.out hb4)
                    clear hb4
                    go_wp2
                    go_ret
                    refine ⟨?_, HB4.out⟩
                    have : l.all (rowOk (famOf l) l) = false := all_at_false hlt HRO.out
                    simp [HE.out, HIN.out, this]
                · obtain rfl : i = l.length := by omega
                  go_wp2
                  go_ret
                  refine ⟨?_, HB.out⟩
                  have : l.all (rowOk (famOf l) l) = true := all_at_true fun j hj => HI.out j hj hj
                  simp [HE.out, HIN.out, this]
  · have HS : Aside0 (impl_isSize.f n = some false) := ⟨by rw [isSize_pure, decide_eq_false h1]⟩
    have HE : Aside0 (isSpB n l = false) := ⟨if_neg h1⟩
    clear h1
    go_enter Try.func89, Try.ntmps89
    go_wp2_with fail
    go_quiet (first | (go_at_call 72; (with_reducible refine (impl_isSize.calls n false _ HS.out).mono ?_); rintro e w' ⟨rfl, ⟨nd, rfl⟩⟩; exact ⟨rfl, _, World.drewN_drewN _ _ _⟩))
    go_wp2
    go_ret
    exact ⟨by simp [HE.out], by repeat (first | exact Below.refl _ _ | apply pw_below_drewN | apply below_alloc)⟩

def impl_IsSpace.f (a0_0 : Int) (l0_1 : List Int) : Option Bool := some (isSpB a0_0 l0_1)
theorem impl_IsSpace.calls (a0_0 : Int) (A0_1 : Option Addr) (c0_1 : Nat) (l0_1 : List Int) (r : Bool) (w : World) (hr0_1 : Kd.C (Kd.int .i64) w A0_1 l0_1.length l0_1) (hc0_1 : l0_1.length ≤ c0_1) (h : impl_IsSpace.f a0_0 l0_1 = some r) :
    Calls Try.prog 89 #[.agg #[.int .i64 a0_0, .slice A0_1 l0_1.length c0_1]] w fun e w' => e = .returned (.bool r) ∧ Below w.heap.size w w' := by
  obtain rfl := Option.some.inj h
  exact IsSpace_calls a0_0 A0_1 c0_1 l0_1 w hr0_1 hc0_1
end Go.Proofs.Ytjhjphgdjhahlaa.P
