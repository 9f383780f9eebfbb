/- Texts of this claim, put together: XIsSpace, XWords, XWordsAll, XWordsLaw, XOrders, XSpace, XRename, XLeastNamed, XPut, XPutL, XAlNamed, XHas, XOwn, XAlOrders, XAlLeast, Q8, XSortLay, XSort. -/
import Derived.Test.YtjhjphgdjhahlaaM0
import Derived.Test.YtjhjphgdjhahlaaM2
import Derived.Shelf.Abstract
import Derived.Lib.LazyBuf
import Derived.Laws.EntriesVeiled
import Derived.Shelf.SlLaysF0
import Derived.Test.YtjhjphgdjhahlaaProg
import Derived.Shelf.SlSortCmp.WholeK
/- impl's IsSpace. -/
namespace Go.Proofs.Ytjhjphgdjhahlaa.P
open Go.RowKit Go.Proofs.YtjhjphgdjhahlaaW.PrintWords Go.Proofs.YtjhjphgdjhahlaaW.PrintLast Go.Proofs.YtjhjphgdjhahlaaW.PrintMore
set_option linter.unusedVariables false
set_option maxHeartbeats 1600000
set_option maxRecDepth 100000

theorem isSize_pure (n : Int) : impl_isSize.f n = some (decide (1 ≤ n ∧ n ≤ 7)) := by
  unfold impl_isSize.f impl_within.f
  by_cases h : 1 ≤ n <;> simp [h]
theorem isSet_pure (n : Nat) (x : Int) (hn : n < 8) : impl_isSet.f (n : Int) x = some (decide (0 ≤ x ∧ x < 2 ^ n)) := by
  have e : wrap64 ((shl .i64 1 (n : Int)) - 1) = ((2 ^ n : Nat) : Int) - 1 := by
    rw [shl_one n hn]
    have : ∀ n, n < 8 → wrap64 (((2 ^ n : Nat) : Int) - 1) = ((2 ^ n : Nat) : Int) - 1 := by decide +kernel
    exact this n hn
  unfold impl_isSet.f impl_within.f
  rw [if_pos (by omega), e]
  have e2 : ((2 ^ n : Nat) : Int) = 2 ^ n := by simp
  by_cases h : 0 ≤ x
  · rw [if_pos h]; simp only [Option.bind_some, e2]; congr 1; rw [decide_eq_decide]; omega
  · rw [if_neg h]; simp [h]
theorem all_pure (n : Nat) (l : List Int) (hn : n < 8) : impl_Space_all.f (n : Int) l = some ((2 ^ n - 1 : Nat) : Int) := by
  unfold impl_Space_all.f
  rw [if_pos (by omega), shl_one n hn]
  have : ∀ n, n < 8 → wrap64 (((2 ^ n : Nat) : Int) - 1) = ((2 ^ n - 1 : Nat) : Int) := by decide +kernel
  rw [this n hn]

theorem IsSpace_calls (n : Int) (A : Option Addr) (c : Nat) (l : List Int) (w : World) (hr : Kd.C (Kd.int .i64) w A l.length l) (hc : l.length ≤ c) :
    Calls Try.prog 89 #[.agg #[.int .i64 n, .slice A l.length c]] w fun e w' => e = .returned (.bool (isSpB n l)) ∧ Below w.heap.size w w' := by
  have hu := Try.underlying28
  have HR := Aside0.mk hr
  have HC := Aside0.mk hc
  clear hr hc
  have hlen := HR.out.2.1
  by_cases h1 : 1 ≤ n ∧ n ≤ 7
  · obtain ⟨h1a, h1b⟩ := h1
    have HS : Aside0 (impl_isSize.f n = some true) := ⟨by rw [isSize_pure, decide_eq_true ⟨h1a, h1b⟩]⟩
    obtain ⟨m, rfl⟩ := Int.eq_ofNat_of_zero_le (show 0 ≤ n by omega)
    have hm1 : 1 ≤ m := by omega
    have hm7 : m ≤ 7 := by omega
    have HE : Aside0 (isSpB (m : Int) l = isSpN m l) := ⟨by unfold isSpB; rw [if_pos ⟨h1a, h1b⟩]; rfl⟩
    clear h1a h1b
    obtain ⟨p, hp1, hp2, hp⟩ := bit_letter m (by omega)
    have HP := Aside0.mk hp
    by_cases hl : p < (l.length : Int)
    · have HN : Aside0 (isSpN m l = false) := ⟨by
        unfold isSpN
        rw [decide_eq_false (by rw [hp] at hl; omega)]; rfl⟩
      clear hp
      go_enter Try.func89, Try.ntmps89
      go_wp2_with fail
      go_quiet (first | (go_at_call 72; (with_reducible refine (impl_isSize.calls (m : Int) true _ HS.out).mono ?_); rintro e w' ⟨rfl, ⟨nd, rfl⟩⟩; exact ⟨rfl, _, World.drewN_drewN _ _ _⟩))
      go_wp2
      go_ret
      exact ⟨by simp [HE.out, HN.out], by repeat (first | exact Below.refl _ _ | apply pw_below_drewN | apply below_alloc)⟩
    · have hd : decide (p < (l.length : Int)) = false := decide_eq_false hl
      have hl2 : (l.length : Int) ≤ p := by omega
      have HL2 : Aside0 (l.length ≤ 2 ^ m) := ⟨by rw [hp] at hl2; omega⟩
      clear hp hl
      go_enter Try.func89, Try.ntmps89
      go_wp2_with fail
      go_quiet (first | (go_at_call 72; (with_reducible refine (impl_isSize.calls (m : Int) true _ HS.out).mono ?_); rintro e w' ⟨rfl, ⟨nd, rfl⟩⟩; exact ⟨rfl, _, World.drewN_drewN _ _ _⟩))
      go_wp2_with fail
      go_loopg [26] l.length (fun kq v26 w' => ∃ i : Nat, v26 = .int .i64 i ∧ i ≤ l.length ∧ Aside0 (kq = l.length - i) ∧ Aside0 (∀ j, j < i → incOk m l j = true) ∧ Aside0 (w'.heap[w.heap.size]? = some (.cells #[.int .i64 (m : Int), .slice A l.length c] 28 (0, 0))) ∧ Aside0 (Below w.heap.size w w'))
      case atStart => exact ⟨0, rfl, Nat.zero_le _, ⟨rfl⟩, ⟨fun j h => by omega⟩, ⟨blk_drewN (heap_alloc_new _ _) _⟩, ⟨pw_below_drewN (below_alloc (Below.refl _ _) _) _⟩⟩
      case round =>
        obtain ⟨i, rfl, hi, HK, HI, HB0, HB⟩ := hrel
        have hc0_0 : wr.cell? ⟨w.heap.size, 0, none⟩ = some (.int .i64 (m : Int)) := (blk_cell HB0.out 0).trans rfl
        have hc0_1 : wr.cell? ⟨w.heap.size, 1, none⟩ = some (.slice A l.length c) := (blk_cell HB0.out 1).trans rfl
        by_cases hlt : i < l.length
        · obtain ⟨ad, e1, hx⟩ := int_at HR.out i hlt
          have hx' : 1 ≤ i → w.cell? (ad.add (i - 1)) = some (.int .i64 (l[i - 1]?.getD 0)) := fun h => by
            obtain ⟨ad', e2, h2⟩ := int_at HR.out (i - 1) (by omega)
            rw [e1] at e2; cases e2; exact h2
          cases e1
          replace hx := pw_cell_below HB.out hx
          obtain ⟨x, hxx⟩ : ∃ x, l[i]?.getD 0 = x := ⟨_, rfl⟩
          rw [hxx] at hx
          have hst := isSet_pure m x (by omega)
          by_cases hset : 0 ≤ x ∧ x < 2 ^ m
          · rw [decide_eq_true hset] at hst
            have HST := Aside0.mk hst
            have HSE := Aside0.mk hset
            clear hst hset
            rcases Nat.eq_zero_or_pos i with h0 | h0
            · subst h0
              have HOK : Aside0 (incOk m l 0 = true) := ⟨by unfold incOk; rw [hxx, decide_eq_true HSE.out]; rfl⟩
              clear hx' hxx
              rw [Addr.add_zero'] at hx
              go_wp2_with (first | (go_at_call 129; (with_reducible refine (impl_isSet.calls (m : Int) x true _ HST.out).mono ?_); rintro e w' ⟨rfl, ⟨nd, rfl⟩⟩))
              go_roundg (l.length - (0 + 1))
              case measure => have := HK.out; omega
              case rel =>
                exact ⟨1, by go_num, by omega, ⟨rfl⟩, ⟨fun j hj => by obtain rfl : j = 0 := (by omega); exact HOK.out⟩, ⟨blk_drewN HB0.out _⟩, ⟨pw_below_drewN HB.out _⟩⟩
            · replace hx' := pw_cell_below HB.out (hx' h0)
              obtain ⟨y, hyy⟩ : ∃ y, l[i - 1]?.getD 0 = y := ⟨_, rfl⟩
              rw [hyy] at hx'
              have hne : ¬ (i : Int) = 0 := by omega
              by_cases hle : x ≤ y
              · have HOK : Aside0 (incOk m l i = false) := ⟨by
                  unfold incOk; rw [hxx, hyy, decide_eq_true HSE.out, decide_eq_false (show ¬ i = 0 by omega), decide_eq_false (show ¬ y < x by omega)]; rfl⟩
                clear hxx hyy
                go_wp2_with (first | (go_at_call 129; (with_reducible refine (impl_isSet.calls (m : Int) x true _ HST.out).mono ?_); rintro e w' ⟨rfl, ⟨nd, rfl⟩⟩))
                go_ret
                refine ⟨?_, pw_below_drewN HB.out _⟩
                have : isSpN m l = false := by unfold isSpN; rw [all_range_false hlt HOK.out]; simp
                simp [HE.out, this]
              · have HOK : Aside0 (incOk m l i = true) := ⟨by
                  unfold incOk; rw [hxx, hyy, decide_eq_true HSE.out, decide_eq_false (show ¬ i = 0 by omega), decide_eq_true (show y < x by omega)]; rfl⟩
                clear hxx hyy
                go_wp2_with (first | (go_at_call 129; (with_reducible refine (impl_isSet.calls (m : Int) x true _ HST.out).mono ?_); rintro e w' ⟨rfl, ⟨nd, rfl⟩⟩))
                go_roundg (l.length - (i + 1))
                case measure => have := HK.out; omega
                case rel =>
                  exact ⟨i + 1, by go_num, by omega, ⟨rfl⟩, ⟨fun j hj => by
                    rcases Nat.lt_or_ge j i with h | h
                    · exact HI.out j h
                    · obtain rfl : j = i := by omega
                      exact HOK.out⟩, ⟨blk_drewN HB0.out _⟩, ⟨pw_below_drewN HB.out _⟩⟩
          · rw [decide_eq_false hset] at hst
            have HST := Aside0.mk hst
            have HOK : Aside0 (incOk m l i = false) := ⟨by unfold incOk; rw [hxx, decide_eq_false hset]; rfl⟩
            clear hst hset hx' hxx
            go_wp2_with (first | (go_at_call 129; (with_reducible refine (impl_isSet.calls (m : Int) x false _ HST.out).mono ?_); rintro e w' ⟨rfl, ⟨nd, rfl⟩⟩))
            go_ret
            refine ⟨?_, pw_below_drewN HB.out _⟩
            have : isSpN m l = false := by unfold isSpN; rw [all_range_false hlt HOK.out]; simp
            simp [HE.out, this]
        · obtain rfl : i = l.length := by omega
          have HV : Aside0 (∀ x ∈ l, 0 ≤ x ∧ x < 2 ^ m) := ⟨by
            intro x hx
            obtain ⟨j, hj, rfl⟩ := List.getElem_of_mem hx
            have := HI.out j hj
            simp only [incOk, Bool.and_eq_true, decide_eq_true_eq, List.getElem?_eq_getElem hj, Option.getD_some] at this
            exact this.1⟩
          have HV2 : Aside0 (∀ x ∈ l, 0 ≤ x ∧ x < 128) := ⟨fun x hx => ⟨(HV.out x hx).1, Int.lt_of_lt_of_le (HV.out x hx).2 (by
            have : (2 : Nat) ^ m ≤ 2 ^ 7 := Nat.pow_le_pow_right (by omega) hm7
            have h2 : ((2 ^ m : Nat) : Int) = 2 ^ m := by simp
            rw [← h2]; omega)⟩⟩
          go_wp2_with fail
          refine (family_calls (m : Int) A l c _ (Kd.C_below HR.out HB.out) HV2.out).mono ?_
          rintro e w1 ⟨g, rfl, hF, hb, hg⟩
          have HB0' := Aside0.mk (blk_below HB0.out hb)
          have HB' := Aside0.mk (below_step HB.out hb)
          have HF := Aside0.mk hF
          have HG := Aside0.mk hg
          clear hF hb hg hc0_0 hc0_1 HB0 HB
          have hc0_0 : w1.cell? ⟨w.heap.size, 0, none⟩ = some (.int .i64 (m : Int)) := (blk_cell HB0'.out 0).trans rfl
          have hc0_1 : w1.cell? ⟨w.heap.size, 1, none⟩ = some (.slice A l.length c) := (blk_cell HB0'.out 1).trans rfl
          have hf0 := HF.out.cell 0 (by omega)
          obtain ⟨b, hb⟩ : ∃ b, famOf l 0 = b := ⟨_, rfl⟩
          rw [hb] at hf0
          have HBV := Aside0.mk hb
          clear hb
          cases b
          · go_wp2_with fail
            go_quiet (fail)
            go_wp2
            go_ret
            refine ⟨?_, pw_below_drewN HB'.out _⟩
            have : isSpN m l = false := by unfold isSpN; rw [HBV.out]; simp
            simp [HE.out, this]
          · have hq : 2 ^ m - 1 < 128 := by
              have : (2 : Nat) ^ m ≤ 2 ^ 7 := Nat.pow_le_pow_right (by omega) hm7
              omega
            obtain ⟨q, hqq⟩ : ∃ q, 2 ^ m - 1 = q := ⟨_, rfl⟩
            have HAL := Aside0.mk (all_pure m l (by omega))
            rw [hqq] at hq HAL
            have HQ := Aside0.mk hqq
            clear hqq
            obtain ⟨b, hb⟩ : ∃ b, famOf l q = b := ⟨_, rfl⟩
            have HBQ := Aside0.mk hb
            clear hb
            cases b
            · go_wp2_with fail
              go_region_with (go_at_call 109; refine (impl_Space_all.calls (m : Int) A c l (q : Int) _ (Kd.C_drew (Kd.C_below HR.out HB'.out)) HC.out HAL.out).mono ?_; rintro e w2 ⟨rfl, hb⟩; have hF1 := Aside0.mk (HF.out.drew.below hb); have hb0 := Aside0.mk (blk_below (blk_drew HB0'.out) hb); have hbb := Aside0.mk (below_step (below_drew1 HB'.out) hb); have hcq := hF1.out.cell q hq; rw [HBQ.out] at hcq; clear hb)
              go_wp2
              go_ret
              refine ⟨?_, hbb.out⟩
              have : isSpN m l = false := by unfold isSpN; rw [HQ.out, HBQ.out]; simp
              simp [HE.out, this]
            · go_wp2_with fail
              go_region_with (go_at_call 109; refine (impl_Space_all.calls (m : Int) A c l (q : Int) _ (Kd.C_drew (Kd.C_below HR.out HB'.out)) HC.out HAL.out).mono ?_; rintro e w2 ⟨rfl, hb⟩; have hF1 := Aside0.mk (HF.out.drew.below hb); have hb0 := Aside0.mk (blk_below (blk_drew HB0'.out) hb); have hbb := Aside0.mk (below_step (below_drew1 HB'.out) hb); have hcq := hF1.out.cell q hq; rw [HBQ.out] at hcq; clear hb)
              clear hc0_0 hc0_1 hf0 hcq
              obtain ⟨w3, hw3⟩ : ∃ w3 : World, w3 = w2 := ⟨_, rfl⟩
              subst hw3
              have hc0_0 : w3.cell? ⟨w.heap.size, 0, none⟩ = some (.int .i64 (m : Int)) := (blk_cell hb0.out 0).trans rfl
              have hc0_1 : w3.cell? ⟨w.heap.size, 1, none⟩ = some (.slice A l.length c) := (blk_cell hb0.out 1).trans rfl
              go_wp2_with fail
              have HR2 := HR
              have HIN : Aside0 (isSpN m l = l.all (rowOk (famOf l) l)) := ⟨by
                unfold isSpN
                rw [decide_eq_true HL2.out, all_range_true (fun j hj => HI.out j hj), HBV.out, HQ.out, HBQ.out]; simp⟩
              clear HI HK HF hc0_0 hc0_1
              go_loopg [70] l.length (fun kq v70 w' => ∃ i : Nat, v70 = .int .i64 i ∧ i ≤ l.length ∧ Aside0 (kq = l.length - i) ∧ Aside0 (∀ j (hj : j < l.length), j < i → rowOk (famOf l) l l[j] = true) ∧ Aside0 (FamAt w' g (famOf l)) ∧ Aside0 (w'.heap[w.heap.size]? = some (.cells #[.int .i64 (m : Int), .slice A l.length c] 28 (0, 0))) ∧ Aside0 (Below w.heap.size w w'))
              case atStart => exact ⟨0, rfl, Nat.zero_le _, ⟨rfl⟩, ⟨fun j _ h => by omega⟩, hF1, hb0, hbb⟩
              case round =>
                clear hF1 hb0 hbb HB0' HB'
                obtain ⟨i, rfl, hi, HK, HI, HF, HB0, HB⟩ := hrel
                have hc0_0 : wr.cell? ⟨w.heap.size, 0, none⟩ = some (.int .i64 (m : Int)) := (blk_cell HB0.out 0).trans rfl
                have hc0_1 : wr.cell? ⟨w.heap.size, 1, none⟩ = some (.slice A l.length c) := (blk_cell HB0.out 1).trans rfl
                by_cases hlt : i < l.length
                · obtain ⟨ad, e1, hx⟩ := int_at HR.out i hlt
                  cases e1
                  replace hx := pw_cell_below HB.out hx
                  have hm := HV2.out (l[i]) (List.getElem_mem hlt)
                  obtain ⟨k, hk1⟩ := Int.eq_ofNat_of_zero_le hm.1
                  have hk2 : k < 128 := by have := hm.2; rw [hk1] at this; omega
                  have hgd : l[i]?.getD 0 = (k : Int) := by simp [hlt, hk1]
                  rw [hgd] at hx
                  have HK1 := Aside0.mk hk1
                  clear hm hk1 hgd
                  have hinl := inner_lt (famOf l) k
                  have HX := Aside0.mk (show l[i].toNat = k by rw [HK1.out]; simp)
                  have HRW : Aside0 (rowOk (famOf l) l l[i] = ((decide (l[i] = 0) || decide (inner (famOf l) k ≠ 0)) && orOk (famOf l) l k)) := ⟨by unfold rowOk; rw [HX.out]⟩
                  by_cases hk0 : k = 0 ∨ inner (famOf l) k ≠ 0
                  · have HRO : Aside0 (rowOk (famOf l) l l[i] = orOk (famOf l) l k) := ⟨by
                      rw [HRW.out]
                      rcases hk0 with h | h
                      · rw [decide_eq_true (show l[i] = 0 by rw [HK1.out, h]; rfl)]; simp
                      · rw [decide_eq_true h]; simp⟩
                    obtain ⟨v, hv⟩ : ∃ v, inner (famOf l) k = v := ⟨_, rfl⟩
                    have HVV := Aside0.mk hv
                    rw [hv] at hk0 hinl
                    clear hv
                    rcases Nat.eq_zero_or_pos k with h0 | h0
                    · have hkb : ((k : Int) != 0) = false := by simp [h0]
                      have HH0 := Aside0.mk h0
                      clear h0 hk0
                      go_wp2_with fail
                      have HF4 := HF
                      have HB04 := HB0
                      have HB4 := HB
                      clear HF HB0 HB
                      go_loopg [85] l.length (fun kq v85 w' => ∃ j : Nat, v85 = .int .i64 j ∧ j ≤ l.length ∧ Aside0 (kq = l.length - j) ∧ Aside0 (∀ j' (hj : j' < l.length), j' < j → famOf l (k ||| l[j'].toNat) = true) ∧ Aside0 (FamAt w' g (famOf l)) ∧ Aside0 (w'.heap[w.heap.size]? = some (.cells #[.int .i64 (m : Int), .slice (some ad) l.length c] 28 (0, 0))) ∧ Aside0 (Below w.heap.size w w'))
                      case atStart => exact ⟨0, rfl, Nat.zero_le _, ⟨rfl⟩, ⟨fun j _ h => by omega⟩, HF4, HB04, HB4⟩
                      case round =>
                        clear HF4 HB04 HB4 hc0_0 hc0_1
                        obtain ⟨j, rfl, hj, HKJ, HJ, HF5, HB05, HB5⟩ := hrel
                        have hc0_0 : wr.cell? ⟨w.heap.size, 0, none⟩ = some (.int .i64 (m : Int)) := (blk_cell HB05.out 0).trans rfl
                        have hc0_1 : wr.cell? ⟨w.heap.size, 1, none⟩ = some (.slice (some ad) l.length c) := (blk_cell HB05.out 1).trans rfl
                        by_cases hjt : j < l.length
                        · obtain ⟨ad', e2, hy⟩ := int_at HR.out j hjt
                          cases e2
                          replace hy := pw_cell_below HB5.out hy
                          have hm := HV2.out (l[j]) (List.getElem_mem hjt)
                          obtain ⟨y, hy1⟩ := Int.eq_ofNat_of_zero_le hm.1
                          have hy2 : y < 128 := by have := hm.2; rw [hy1] at this; omega
                          have hgd : l[j]?.getD 0 = (y : Int) := by simp [hjt, hy1]
                          rw [hgd] at hy
                          have hgo := go_or k y hk2 hy2
                          have hq2 : k ||| y < 128 := Nat.or_lt_two_pow (n := 7) hk2 hy2
                          obtain ⟨q2, hq2e⟩ : ∃ q2, k ||| y = q2 := ⟨_, rfl⟩
                          rw [hq2e] at hgo hq2
                          have hcq := HF5.out.cell q2 hq2
                          obtain ⟨b, hb⟩ : ∃ b, famOf l q2 = b := ⟨_, rfl⟩
                          rw [hb] at hcq
                          have HFY : Aside0 (famOf l (k ||| l[j].toNat) = b) := ⟨by rw [hy1, Int.toNat_natCast, hq2e, hb]⟩
                          clear hm hy1 hgd hq2e hb
                          cases b
                          · go_wp2
                            go_ret
                            refine ⟨?_, HB5.out⟩
                            have h1 : orOk (famOf l) l k = false := all_at_false hjt HFY.out
                            have : l.all (rowOk (famOf l) l) = false := all_at_false hlt (HRO.out.trans h1)
                            simp [HE.out, HIN.out, this]
                          · go_wp2
                            go_roundg (l.length - (j + 1))
                            case measure => have := HKJ.out; omega
                            case rel =>
                              exact ⟨j + 1, by go_num, by omega, ⟨rfl⟩, ⟨fun j' hj' h => by
                                rcases Nat.lt_or_ge j' j with h' | h'
                                · exact HJ.out j' hj' h'
                                · obtain rfl : j' = j := by omega
                                  exact HFY.out⟩, HF5, HB05, HB5⟩
                        · obtain rfl : j = l.length := by omega
                          go_wp2
                          go_roundg (l.length - (i + 1))
                          case measure => have := HK.out; omega
                          case rel =>
                            exact ⟨i + 1, by go_num, by omega, ⟨rfl⟩, ⟨fun j' hj' h => by
                              rcases Nat.lt_or_ge j' i with h' | h'
                              · exact HI.out j' hj' h'
                              · obtain rfl : j' = i := by omega
                                exact HRO.out.trans (all_at_true fun z hz => HJ.out z hz hz)⟩, HF5, HB05, HB5⟩
                    · have hkb : ((k : Int) != 0) = true := by simp; omega
                      have hv0 : 0 < v := by omega
                      have hvb : ((v : Int) == 0) = false := by simp; omega
                      clear hk0
                      go_wp2_with fail
                      refine (inner_calls g k (famOf l) wr hk2 HF.out).mono ?_
                      rintro e w4 ⟨rfl, hb4⟩
                      rw [HVV.out]
                      have hb04 := blk_below HB0.out hb4
                      have HB4 := Aside0.mk (below_step HB.out hb4)
                      have HF4 := Aside0.mk (HF.out.below hb4)
                      clear hc0_0 hc0_1 HF HB0 HB hb4
                      have hc0_0 : w4.cell? ⟨w.heap.size, 0, none⟩ = some (.int .i64 (m : Int)) := (blk_cell hb04 0).trans rfl
                      have hc0_1 : w4.cell? ⟨w.heap.size, 1, none⟩ = some (.slice (some ad) l.length c) := (blk_cell hb04 1).trans rfl
                      have HB04 := Aside0.mk hb04
                      clear hb04
                      go_wp2_with fail
                      go_loopg [85] l.length (fun kq v85 w' => ∃ j : Nat, v85 = .int .i64 j ∧ j ≤ l.length ∧ Aside0 (kq = l.length - j) ∧ Aside0 (∀ j' (hj : j' < l.length), j' < j → famOf l (k ||| l[j'].toNat) = true) ∧ Aside0 (FamAt w' g (famOf l)) ∧ Aside0 (w'.heap[w.heap.size]? = some (.cells #[.int .i64 (m : Int), .slice (some ad) l.length c] 28 (0, 0))) ∧ Aside0 (Below w.heap.size w w'))
                      case atStart => exact ⟨0, rfl, Nat.zero_le _, ⟨rfl⟩, ⟨fun j _ h => by omega⟩, HF4, HB04, HB4⟩
                      case round =>
                        clear HF4 HB04 HB4 hc0_0 hc0_1
                        obtain ⟨j, rfl, hj, HKJ, HJ, HF5, HB05, HB5⟩ := hrel
                        have hc0_0 : wr.cell? ⟨w.heap.size, 0, none⟩ = some (.int .i64 (m : Int)) := (blk_cell HB05.out 0).trans rfl
                        have hc0_1 : wr.cell? ⟨w.heap.size, 1, none⟩ = some (.slice (some ad) l.length c) := (blk_cell HB05.out 1).trans rfl
                        by_cases hjt : j < l.length
                        · obtain ⟨ad', e2, hy⟩ := int_at HR.out j hjt
                          cases e2
                          replace hy := pw_cell_below HB5.out hy
                          have hm := HV2.out (l[j]) (List.getElem_mem hjt)
                          obtain ⟨y, hy1⟩ := Int.eq_ofNat_of_zero_le hm.1
                          have hy2 : y < 128 := by have := hm.2; rw [hy1] at this; omega
                          have hgd : l[j]?.getD 0 = (y : Int) := by simp [hjt, hy1]
                          rw [hgd] at hy
                          have hgo := go_or k y hk2 hy2
                          have hq2 : k ||| y < 128 := Nat.or_lt_two_pow (n := 7) hk2 hy2
                          obtain ⟨q2, hq2e⟩ : ∃ q2, k ||| y = q2 := ⟨_, rfl⟩
                          rw [hq2e] at hgo hq2
                          have hcq := HF5.out.cell q2 hq2
                          obtain ⟨b, hb⟩ : ∃ b, famOf l q2 = b := ⟨_, rfl⟩
                          rw [hb] at hcq
                          have HFY : Aside0 (famOf l (k ||| l[j].toNat) = b) := ⟨by rw [hy1, Int.toNat_natCast, hq2e, hb]⟩
                          clear hm hy1 hgd hq2e hb
                          cases b
                          · go_wp2
                            go_ret
                            refine ⟨?_, HB5.out⟩
                            have h1 : orOk (famOf l) l k = false := all_at_false hjt HFY.out
                            have : l.all (rowOk (famOf l) l) = false := all_at_false hlt (HRO.out.trans h1)
                            simp [HE.out, HIN.out, this]
                          · go_wp2
                            go_roundg (l.length - (j + 1))
                            case measure => have := HKJ.out; omega
                            case rel =>
                              exact ⟨j + 1, by go_num, by omega, ⟨rfl⟩, ⟨fun j' hj' h => by
                                rcases Nat.lt_or_ge j' j with h' | h'
                                · exact HJ.out j' hj' h'
                                · obtain rfl : j' = j := by omega
                                  exact HFY.out⟩, HF5, HB05, HB5⟩
                        · obtain rfl : j = l.length := by omega
                          go_wp2
                          go_roundg (l.length - (i + 1))
                          case measure => have := HK.out; omega
                          case rel =>
                            exact ⟨i + 1, by go_num, by omega, ⟨rfl⟩, ⟨fun j' hj' h => by
                              rcases Nat.lt_or_ge j' i with h' | h'
                              · exact HI.out j' hj' h'
                              · obtain rfl : j' = i := by omega
                                exact HRO.out.trans (all_at_true fun z hz => HJ.out z hz hz)⟩, HF5, HB05, HB5⟩
                  · have h0 : 0 < k := by omega
                    have hv0 : inner (famOf l) k = 0 := by omega
                    have hkb : ((k : Int) != 0) = true := by simp; omega
                    have HRO : Aside0 (rowOk (famOf l) l l[i] = false) := ⟨by
                      rw [HRW.out, hv0, decide_eq_false (show ¬ l[i] = 0 by rw [HK1.out]; omega)]; simp⟩
                    have HVV := Aside0.mk hv0
                    clear hk0 hv0 hinl
                    go_wp2_with fail
                    refine (inner_calls g k (famOf l) wr hk2 HF.out).mono ?_
                    rintro e w4 ⟨rfl, hb4⟩
                    rw [HVV.out]
                    have HB4 := Aside0.mk (below_step HB.out hb4)
                    clear hb4
                    go_wp2
                    go_ret
                    refine ⟨?_, HB4.out⟩
                    have : l.all (rowOk (famOf l) l) = false := all_at_false hlt HRO.out
                    simp [HE.out, HIN.out, this]
                · obtain rfl : i = l.length := by omega
                  go_wp2
                  go_ret
                  refine ⟨?_, HB.out⟩
                  have : l.all (rowOk (famOf l) l) = true := all_at_true fun j hj => HI.out j hj hj
                  simp [HE.out, HIN.out, this]
  · have HS : Aside0 (impl_isSize.f n = some false) := ⟨by rw [isSize_pure, decide_eq_false h1]⟩
    have HE : Aside0 (isSpB n l = false) := ⟨if_neg h1⟩
    clear h1
    go_enter Try.func89, Try.ntmps89
    go_wp2_with fail
    go_quiet (first | (go_at_call 72; (with_reducible refine (impl_isSize.calls n false _ HS.out).mono ?_); rintro e w' ⟨rfl, ⟨nd, rfl⟩⟩; exact ⟨rfl, _, World.drewN_drewN _ _ _⟩))
    go_wp2
    go_ret
    exact ⟨by simp [HE.out], by repeat (first | exact Below.refl _ _ | apply pw_below_drewN | apply below_alloc)⟩

def impl_IsSpace.f (a0_0 : Int) (l0_1 : List Int) : Option Bool := some (isSpB a0_0 l0_1)
theorem impl_IsSpace.calls (a0_0 : Int) (A0_1 : Option Addr) (c0_1 : Nat) (l0_1 : List Int) (r : Bool) (w : World) (hr0_1 : Kd.C (Kd.int .i64) w A0_1 l0_1.length l0_1) (hc0_1 : l0_1.length ≤ c0_1) (h : impl_IsSpace.f a0_0 l0_1 = some r) :
    Calls Try.prog 89 #[.agg #[.int .i64 a0_0, .slice A0_1 l0_1.length c0_1]] w fun e w' => e = .returned (.bool r) ∧ Below w.heap.size w w' := by
  obtain rfl := Option.some.inj h
  exact IsSpace_calls a0_0 A0_1 c0_1 l0_1 w hr0_1 hc0_1
end Go.Proofs.Ytjhjphgdjhahlaa.P
/- impl's 'words': a function value is called for each full word, in order, until it says no. -/
namespace Go.Proofs.Ytjhjphgdjhahlaa.P
open Go.RowKit Go.Proofs.YtjhjphgdjhahlaaW.PrintWords Go.Proofs.YtjhjphgdjhahlaaW.PrintLast Go.Proofs.YtjhjphgdjhahlaaW.PrintMore
set_option linter.unusedVariables false
set_option maxHeartbeats 1600000
set_option maxRecDepth 100000

/-- where the variables of a call of 'words' lie -/
structure Loc where
  bs : Nat
  bd : Nat
  bw : Nat
  bg : Nat
  bf : Nat
  bn : Nat
  fm : Nat
/-- all that a call of 'words' holds: word is what has been learnt, b whether it goes on; φ: what the function value holds -/
structure WSt (W w0 : World) (M φ : Nat → Prop) (L : Loc) (sp : Array Value) (fv : Value) (F : Nat → Bool) (A : Option Addr) (k c : Nat) (word : List Nat) (b : Bool) : Prop where
  s : W.heap[L.bs]? = some (.cells sp 28 (0, 0))
  d : W.heap[L.bd]? = some (.cells #[fv] 81 (0, 0))
  w : W.heap[L.bw]? = some (.cells #[.slice A k c] 22 (0, 0))
  g : W.heap[L.bg]? = some (.cells #[.bool b] 4 (0, 0))
  f : W.heap[L.bf]? = some (.cells #[.pointer (some ⟨L.fm, 0, none⟩)] 107 (0, 0))
  n : W.heap[L.bn]? = some (.cells #[.func (.func 108) #[] #[.pointer (some ⟨L.bs, 0, none⟩), .pointer (some ⟨L.bd, 0, none⟩), .pointer (some ⟨L.bw, 0, none⟩), .pointer (some ⟨L.bg, 0, none⟩), .pointer (some ⟨L.bf, 0, none⟩), .pointer (some ⟨L.bn, 0, none⟩)]] 109 (0, 0))
  fam : FamAt W L.fm F
  row : Kd.R (Kd.int .i64) 3 W w0.heap.size (fun j => ¬ φ j) (.slice A k c) (ints word)
  kb : KB w0 W M
  off : ∀ j, j = L.bs ∨ j = L.bd ∨ j = L.bw ∨ j = L.bg ∨ j = L.bf ∨ j = L.bn ∨ j = L.fm → ¬ φ j ∧ w0.heap.size ≤ j
section
variable {W W' w0 : World} {M φ φ' : Nat → Prop} {L : Loc} {sp : Array Value} {fv : Value} {F : Nat → Bool} {A : Option Addr} {k c : Nat} {word : List Nat} {b : Bool}
theorem blk_ne {W : World} {a b : Nat} {cs cs' : Array Value} {t t' : Nat} (h : W.heap[a]? = some (.cells cs t (0, 0))) (h' : W.heap[b]? = some (.cells cs' t' (0, 0))) (ht : t ≠ t') : a ≠ b := by
  rintro rfl
  rw [h] at h'
  injection h' with h'
  injection h' with _ h2
  exact ht h2
theorem WSt.turn (h : WSt W w0 M φ L sp fv F A k c word b) (hk : KB W W' (fun j => φ j ∧ (M j ∨ w0.heap.size ≤ j))) (hφ : ∀ j, φ' j → φ j ∨ W.heap.size ≤ j) : WSt W' w0 M φ' L sp fv F A k c word b where
  s := blk_kb h.s hk (fun hn => (h.off _ (by simp)).1 hn.1)
  d := blk_kb h.d hk (fun hn => (h.off _ (by simp)).1 hn.1)
  w := blk_kb h.w hk (fun hn => (h.off _ (by simp)).1 hn.1)
  g := blk_kb h.g hk (fun hn => (h.off _ (by simp)).1 hn.1)
  f := blk_kb h.f hk (fun hn => (h.off _ (by simp)).1 hn.1)
  n := blk_kb h.n hk (fun hn => (h.off _ (by simp)).1 hn.1)
  fam := blk_kb h.fam hk (fun hn => (h.off _ (by simp)).1 hn.1)
  row := Kd.R_mono (R_kb (Kd.R_bound h.row) hk (fun j hj hn => hj.1 hn.1)) (fun j hj hn => by
    rcases hφ j hn with h1 | h1
    · exact hj.1 h1
    · have := hj.2.2.1; omega)
  kb := h.kb.then_ hk (fun j hj hn => by rcases hn.2 with h1 | h1; exact h1; omega)
  off := fun j hj => ⟨fun hn => by
    rcases hφ j hn with h1 | h1
    · exact (h.off j hj).1 h1
    · have : j < W.heap.size := by rcases hj with rfl | rfl | rfl | rfl | rfl | rfl | rfl <;> first | exact blk_lt h.s | exact blk_lt h.d | exact blk_lt h.w | exact blk_lt h.g | exact blk_lt h.f | exact blk_lt h.n | exact h.fam.lt
      omega, (h.off j hj).2⟩
theorem WSt.below (h : WSt W w0 M φ L sp fv F A k c word b) (hb : Below W.heap.size W W') : WSt W' w0 M φ L sp fv F A k c word b :=
  h.turn (KB.of_below hb _) (fun j hj => .inl hj)
theorem WSt.setg (h : WSt W w0 M φ L sp fv F A k c word b) (b' : Bool) : WSt (W.setCell ⟨L.bg, 0, none⟩ (.bool b')) w0 M φ L sp fv F A k c word b' where
  s := blk_far h.s (blk_ne h.s h.g (by decide)) _
  d := blk_far h.d (blk_ne h.d h.g (by decide)) _
  w := blk_far h.w (blk_ne h.w h.g (by decide)) _
  g := blk_put h.g 0 _ rfl
  f := blk_far h.f (blk_ne h.f h.g (by decide)) _
  n := blk_far h.n (blk_ne h.n h.g (by decide)) _
  fam := blk_far h.fam (blk_ne h.fam h.g (by decide)) _
  row := Kd.R_mono (Kd.R_far (p := ⟨L.bg, 0, none⟩) (Kd.R_types h.row h.g (by decide)) (fun _ hk => hk.2) _) (fun _ hk => hk.1)
  kb := h.kb.setCell (.inr (h.off _ (by simp)).2) _
  off := h.off
/-- The slice variable gets a row that is longer, shorter, or another one. -/
theorem WSt.setw {A' : Option Addr} {k' c' : Nat} {word' : List Nat} (h : WSt W w0 M φ L sp fv F A k c word b) (hg : W.grownBy W' (Value.slice A k c).ownBlock) (hr : Kd.R (Kd.int .i64) 3 W' w0.heap.size (fun j => ¬ φ j) (.slice A' k' c') (ints word')) :
    WSt (W'.setCell ⟨L.bw, 0, none⟩ (.slice A' k' c')) w0 M φ L sp fv F A' k' c' word' b := by
  have s1 := blk_grown h.s hg (Kd.R_ne h.row h.s (by decide))
  have d1 := blk_grown h.d hg (Kd.R_ne h.row h.d (by decide))
  have w1 := blk_grown h.w hg (Kd.R_ne h.row h.w (by decide))
  have g1 := blk_grown h.g hg (Kd.R_ne h.row h.g (by decide))
  have f1 := blk_grown h.f hg (Kd.R_ne h.row h.f (by decide))
  have n1 := blk_grown h.n hg (Kd.R_ne h.row h.n (by decide))
  have m1 := blk_grown h.fam hg (Kd.R_ne h.row h.fam (by decide))
  exact {
    s := blk_far s1 (blk_ne s1 w1 (by decide)) _
    d := blk_far d1 (blk_ne d1 w1 (by decide)) _
    w := blk_put w1 0 _ rfl
    g := blk_far g1 (blk_ne g1 w1 (by decide)) _
    f := blk_far f1 (blk_ne f1 w1 (by decide)) _
    n := blk_far n1 (blk_ne n1 w1 (by decide)) _
    fam := blk_far m1 (blk_ne m1 w1 (by decide)) _
    row := Kd.R_mono (Kd.R_far (p := ⟨L.bw, 0, none⟩) (Kd.R_types hr w1 (by decide)) (fun _ hk => hk.2) _) (fun _ hk => hk.1)
    kb := (h.kb.grown hg (fun j hj => .inr ((Kd.R_bound h.row).1 j hj).2.1)).setCell (.inr (h.off _ (by simp)).2) _
    off := h.off }
end
/-- What is asked of the function value: I h φ W: it has been told the words h, and holds the blocks φ; it may write those of them that are M's or new since w0. -/
structure Feeder (g : Nat) (lb : Array Value) (I : List (List Nat) → (Nat → Prop) → World → Prop) (cont : List (List Nat) → Bool) (w0 : World) (M : Nat → Prop) (okw : List Nat → Prop) : Prop where
  eg : ∀ args w, (callFunc g args).run Try.prog w = .ok (.enter g args) w
  stay : ∀ h φ W W' S, I h φ W → KB W W' S → (∀ j, S j → ¬ φ j) → I h φ W'
  call : ∀ W h φ A c x, KB w0 W M → I h φ W → (∀ j, φ j → j < W.heap.size) → Kd.C (Kd.int .i64) W A (ints x).length (ints x) → (ints x).length ≤ c → (∀ ad, A = some ad → ¬ φ ad.block) → okw x →
    Calls Try.prog g (#[.slice A (ints x).length c] ++ lb) W fun e W' => e = .returned (.bool (cont (h ++ [x]))) ∧ ∃ φ', I (h ++ [x]) φ' W' ∧ KB W W' (fun j => φ j ∧ (M j ∨ w0.heap.size ≤ j)) ∧ (∀ j, φ' j → φ j ∨ W.heap.size ≤ j) ∧ (∀ j, φ' j → j < W'.heap.size)

/-- v' lies where v lies, or in a new block -/
def OwnTo (W : World) (v v' : Value) : Prop := ∀ x, v'.ownBlock = some x → v.ownBlock = some x ∨ W.heap.size ≤ x
def nextArgs (L : Loc) (set : Nat) : Array Value := #[.int .i64 (set : Int), .pointer (some ⟨L.bs, 0, none⟩), .pointer (some ⟨L.bd, 0, none⟩), .pointer (some ⟨L.bw, 0, none⟩), .pointer (some ⟨L.bg, 0, none⟩), .pointer (some ⟨L.bf, 0, none⟩), .pointer (some ⟨L.bn, 0, none⟩)]

section
variable {g : Nat} {lb : Array Value} {I : List (List Nat) → (Nat → Prop) → World → Prop} {cont : List (List Nat) → Bool} {w0 : World} {M : Nat → Prop} {okw : List Nat → Prop}

theorem next_leaf (FD : Feeder g lb I cont w0 M okw) (n : Nat) (hn7 : n ≤ 7) (As : Option Addr) (ls : List Int) (cs : Nat) (hr0 : Kd.C (Kd.int .i64) w0 As ls.length ls) (hcs : ls.length ≤ cs) (hMs : ∀ ad, As = some ad → ¬ M ad.block) (F : Nat → Bool) (L : Loc)
    (word : List Nat) (h : List (List Nat)) (φ : Nat → Prop) (W : World) (A : Option Addr) (k c : Nat)
    (hok : okw word) (hS : WSt W w0 M φ L #[.int .i64 (n : Int), .slice As ls.length cs] (.func (.func g) #[] lb) F A k c word true) (hI : I h φ W) (hφ : ∀ j, φ j → j < W.heap.size) :
    Calls Try.prog 108 (nextArgs L (2 ^ n - 1)) W fun e W' => e = .returned (.tuple #[]) ∧ ∃ φ' A' k' c', WSt W' w0 M φ' L #[.int .i64 (n : Int), .slice As ls.length cs] (.func (.func g) #[] lb) F A' k' c' word (cont (h ++ [word])) ∧ I (h ++ [word]) φ' W' ∧ (∀ j, φ' j → φ j ∨ W.heap.size ≤ j) ∧ (∀ j, φ' j → j < W'.heap.size) ∧ OwnTo W (.slice A k c) (.slice A' k' c') ∧ KB W W' (fun x => φ x ∨ x = L.bg ∨ x = L.bw ∨ some x = (Value.slice A k c).ownBlock) := by
  have hu := Try.underlying28
  have eg := FD.eg
  have HFD := Aside0.mk FD
  have HR0 := Aside0.mk hr0
  have HCS := Aside0.mk hcs
  have HS := Aside0.mk hS
  have HI := Aside0.mk hI
  have HP := Aside0.mk hφ
  have HAL := Aside0.mk (all_pure n ls (by omega))
  have HMS := Aside0.mk hMs
  have HOK := Aside0.mk hok
  have hc1_0 : W.cell? ⟨L.bs, 0, none⟩ = some (.int .i64 (n : Int)) := (blk_cell hS.s 0).trans rfl
  have hc1_1 : W.cell? ⟨L.bs, 1, none⟩ = some (.slice As ls.length cs) := (blk_cell hS.s 1).trans rfl
  obtain ⟨q, hq⟩ : ∃ q, 2 ^ n - 1 = q := ⟨_, rfl⟩
  rw [hq] at HAL ⊢
  clear hr0 hcs hS hI hφ hMs hok FD hq
  unfold nextArgs
  go_enter Try.func108, Try.ntmps108
  go_wp2_with fail
  refine (impl_Space_all.calls (n : Int) As cs ls (q : Int) _ (C_kb HR0.out HS.out.kb HMS.out) HCS.out HAL.out).mono ?_
  rintro e w1 ⟨rfl, hb⟩
  have HS1 := Aside0.mk (HS.out.below hb)
  have HI1 := Aside0.mk (HFD.out.stay _ _ _ _ _ HI.out (KB.of_below hb (fun _ => False)) (fun _ hj => hj.elim))
  have HP1 := Aside0.mk (fun j (hj : φ j) => Nat.lt_of_lt_of_le (HP.out j hj) hb.size)
  have HZ1 := Aside0.mk hb.size
  have HKB1 := Aside0.mk (KB.of_below hb (fun x => φ x ∨ x = L.bg ∨ x = L.bw ∨ some x = (Value.slice A k c).ownBlock))
  clear hb hc1_0 hc1_1
  have hc2 : w1.cell? ⟨L.bd, 0, none⟩ = some (.func (.func g) #[] lb) := (blk_cell HS1.out.d 0).trans rfl
  have hc3 : w1.cell? ⟨L.bw, 0, none⟩ = some (.slice A k c) := (blk_cell HS1.out.w 0).trans rfl
  obtain ⟨hk1, hk2, hk3⟩ := Kd.R_reads' HS1.out.row
  have HK1 := Aside0.mk hk1
  have HK2 := Aside0.mk hk2
  have HK3 := Aside0.mk hk3
  clear hk1 hk2 hk3
  rw [HK1.out] at hc3
  go_wp2_with fail
  refine (HFD.out.call w1 h φ A c word HS1.out.kb HI1.out HP1.out HK3.out (by rw [← HK1.out]; exact HK2.out) (fun ad e => HS1.out.row.1 ad.block (by rw [e]; rfl)) HOK.out).mono ?_
  rintro e w2 ⟨rfl, φ', hI2, hkb, hp1, hp2⟩
  have HS2 := Aside0.mk (HS1.out.turn hkb hp1)
  have HI2 := Aside0.mk hI2
  have HP3 := Aside0.mk hp1
  have HP4 := Aside0.mk hp2
  have HZ2 := Aside0.mk hkb.size
  have HKB2 := Aside0.mk (HKB1.out.then_ hkb (fun _ _ hx => .inl hx.1))
  clear hI2 hkb hp1 hp2 hc2 hc3 eg
  have hc4 : w2.cell? ⟨L.bg, 0, none⟩ = some (.bool true) := (blk_cell HS2.out.g 0).trans rfl
  have hf4 := blk_frozen HS2.out.g 0
  obtain ⟨b, hb⟩ : ∃ b, cont (h ++ [word]) = b := ⟨_, rfl⟩
  rw [hb]
  have HB := Aside0.mk hb
  clear hb
  go_wp2_with fail
  (try simp only [Exit.inBlock, Exit.then])
  refine bodyPost_ret (results_none rfl _ _ _) rfl ?_
  rw [HB.out]
  refine ⟨rfl, φ', A, k, c, HS2.out.setg b, HFD.out.stay _ _ _ _ (fun j => j = L.bg) HI2.out (KB.setCell (S := fun j => j = L.bg) (KB.refl _ _) (p := ⟨L.bg, 0, none⟩) (.inl rfl) _) (fun j hj => by rw [hj]; exact (HS2.out.off _ (by simp)).1), ?_, ?_, fun x hx => .inl hx, KB.setCell HKB2.out (p := ⟨L.bg, 0, none⟩) (.inl (.inr (.inl rfl))) _⟩
  · intro j hj
    rcases HP3.out j hj with h1 | h1
    · exact .inl h1
    · exact .inr (Nat.le_trans HZ1.out h1)
  · intro j hj; have := HP4.out j hj; simpa [World.setCell] using this

/-- what is told below a set, when j of its outer items have been gone through -/
def below_ (F : Nat → Bool) (al d set : Nat) (word it : List Nat) : List (List Nat) := it.flatMap fun i => (wordsFrom F al d (wth set i)).map fun y => word ++ [i] ++ y
theorem below_snoc (F : Nat → Bool) (al d set : Nat) (word it : List Nat) (i : Nat) : below_ F al d set word (it ++ [i]) = below_ F al d set word it ++ (wordsFrom F al d (wth set i)).map ((word ++ [i]) ++ ·) := by
  simp [below_]
theorem below_all (F : Nat → Bool) (al d set : Nat) (word : List Nat) (h : set ≠ al) : (wordsFrom F al (d + 1) set).map (word ++ ·) = below_ F al d set word (itemsOf (outer F set)) := by
  simp only [wordsFrom, if_neg h, below_, List.map_flatMap, List.map_map]
  congr 1; funext i; apply List.map_congr_left; intro y _; simp

theorem next_calls (FD : Feeder g lb I cont w0 M okw) (n : Nat) (hn7 : n ≤ 7) (As : Option Addr) (ls : List Int) (cs : Nat) (hr0 : Kd.C (Kd.int .i64) w0 As ls.length ls) (hcs : ls.length ≤ cs) (hMs : ∀ ad, As = some ad → ¬ M ad.block) (F : Nat → Bool) (L : Loc) (d : Nat) :
    ∀ (set : Nat) (word : List Nat) (h : List (List Nat)) (φ : Nat → Prop) (W : World) (A : Option Addr) (k c : Nat), set < 128 → d + cnt set = 8 → word.length + d = 8 →
    (∀ y ∈ wordsFrom F (2 ^ n - 1) d set, okw (word ++ y)) → WSt W w0 M φ L #[.int .i64 (n : Int), .slice As ls.length cs] (.func (.func g) #[] lb) F A k c word true → I h φ W → (∀ j, φ j → j < W.heap.size) →
    Calls Try.prog 108 (nextArgs L set) W fun e W' => e = .returned (.tuple #[]) ∧ ∃ φ' A' k' c', WSt W' w0 M φ' L #[.int .i64 (n : Int), .slice As ls.length cs] (.func (.func g) #[] lb) F A' k' c' word (feed cont (h, true) ((wordsFrom F (2 ^ n - 1) d set).map (word ++ ·))).2 ∧
      I (feed cont (h, true) ((wordsFrom F (2 ^ n - 1) d set).map (word ++ ·))).1 φ' W' ∧ (∀ j, φ' j → φ j ∨ W.heap.size ≤ j) ∧ (∀ j, φ' j → j < W'.heap.size) ∧ OwnTo W (.slice A k c) (.slice A' k' c') ∧ KB W W' (fun x => φ x ∨ x = L.bg ∨ x = L.bw ∨ some x = (Value.slice A k c).ownBlock) := by
  induction d with
  | zero => intro set word h φ W A k c hs hd; have := cnt_le set; omega
  | succ d ih =>
    intro set word h φ W A k c hs hd hwl hok hS hI hφ
    by_cases hall : set = 2 ^ n - 1
    · have e : wordsFrom F (2 ^ n - 1) (d + 1) set = [[]] := by simp [wordsFrom, hall]
      have ho : okw word := by have := hok [] (by rw [e]; simp); simpa using this
      rw [e, hall]
      have := next_leaf FD n hn7 As ls cs hr0 hcs hMs F L word h φ W A k c ho hS hI hφ
      simpa [feed_one] using this
    · have e := below_all F (2 ^ n - 1) d set word hall
      have hok2 : ∀ i ∈ itemsOf (outer F set), ∀ y ∈ wordsFrom F (2 ^ n - 1) d (wth set i), okw (word ++ [i] ++ y) := by
        intro i hi y hy
        have := hok (i :: y) (by simp only [wordsFrom, if_neg hall, List.mem_flatMap, List.mem_map]; exact ⟨i, hi, y, hy, rfl⟩)
        simpa using this
      rw [e]
      have hu := Try.underlying28
      have HFD := Aside0.mk FD
      have HR0 := Aside0.mk hr0
      have HCS := Aside0.mk hcs
      have HS := Aside0.mk hS
      have HI := Aside0.mk hI
      have HP := Aside0.mk hφ
      have HAL := Aside0.mk (all_pure n ls (by omega))
      have HMS := Aside0.mk hMs
      have HOK := Aside0.mk hok2
      have IH := Aside0.mk ih
      have HD := Aside0.mk hd
      have hc1_0 : W.cell? ⟨L.bs, 0, none⟩ = some (.int .i64 (n : Int)) := (blk_cell hS.s 0).trans rfl
      have hc1_1 : W.cell? ⟨L.bs, 1, none⟩ = some (.slice As ls.length cs) := (blk_cell hS.s 1).trans rfl
      obtain ⟨al, hal⟩ : ∃ al, 2 ^ n - 1 = al := ⟨_, rfl⟩
      rw [hal] at HAL hall HOK IH ⊢
      have heq : ((set : Int) == (al : Int)) = false := by simp; omega
      clear hr0 hcs hS hI hφ hMs hok hok2 FD hal ih hd hall e
      unfold nextArgs
      go_enter Try.func108, Try.ntmps108
      go_wp2_with fail
      refine (impl_Space_all.calls (n : Int) As cs ls (al : Int) _ (C_kb HR0.out HS.out.kb HMS.out) HCS.out HAL.out).mono ?_
      rintro e w1 ⟨rfl, hb⟩
      have HS1 := Aside0.mk (HS.out.below hb)
      have HI1 := Aside0.mk (HFD.out.stay _ _ _ _ _ HI.out (KB.of_below hb (fun _ => False)) (fun _ hj => hj.elim))
      have HP1 := Aside0.mk (fun j (hj : φ j) => Nat.lt_of_lt_of_le (HP.out j hj) hb.size)
      have HZ1 := Aside0.mk hb.size
      have HBA := Aside0.mk hb
      clear hb hc1_0 hc1_1 HS HI HP
      have hc2 : w1.cell? ⟨L.bf, 0, none⟩ = some (.pointer (some ⟨L.fm, 0, none⟩)) := (blk_cell HS1.out.f 0).trans rfl
      go_wp2_with fail
      refine (outer_calls L.fm set F _ hs HS1.out.fam).mono ?_
      rintro e w2 ⟨rfl, hb⟩
      have HS2 := Aside0.mk (HS1.out.below hb)
      have HI2 := Aside0.mk (HFD.out.stay _ _ _ _ _ HI1.out (KB.of_below hb (fun _ => False)) (fun _ hj => hj.elim))
      have HP2 := Aside0.mk (fun j (hj : φ j) => Nat.lt_of_lt_of_le (HP1.out j hj) hb.size)
      have HZ2 := Aside0.mk (Nat.le_trans HZ1.out hb.size)
      have HBB := Aside0.mk hb
      clear hb hc2 HS1 HI1 HP1 HZ1
      have hol := outer_lt F set
      have hom : ∀ i ∈ itemsOf (outer F set), i < 7 ∧ set.testBit i = false := fun i hi => ⟨(outer_mem hi).1, (outer_mem hi).2.1⟩
      have HOM := Aside0.mk hom
      obtain ⟨ou, hou⟩ : ∃ ou, outer F set = ou := ⟨_, rfl⟩
      rw [hou] at hol HOM HOK ⊢
      have HOU := Aside0.mk hou
      clear hou hom
      go_wp2_with fail
      refine (impl_items.calls 8 (ou : Int) _ _ (items_pure ou hol)).mono ?_
      rintro e w3 ⟨v0, rfl, ho, hb⟩
      obtain ⟨A3, c3, rfl⟩ := Kd.R_slice ho
      have HO3 := Aside0.mk ho
      have HS3 := Aside0.mk (HS2.out.below hb)
      have HI3 := Aside0.mk (HFD.out.stay _ _ _ _ _ HI2.out (KB.of_below hb (fun _ => False)) (fun _ hj => hj.elim))
      have HP3 := Aside0.mk (fun j (hj : φ j) => Nat.lt_of_lt_of_le (HP2.out j hj) hb.size)
      have HZ3 := Aside0.mk (Nat.le_trans HZ2.out hb.size)
      have HLEN := Aside0.mk (ints_len (itemsOf ou))
      have hl7 := itemsOf_len ou
      have HKB3 := Aside0.mk (((KB.of_below HBA.out (fun x => φ x ∨ x = L.bg ∨ x = L.bw ∨ some x = (Value.slice A k c).ownBlock)).below HBB.out).below hb)
      have hnew : ∀ ad, A3 = some ad → w2.heap.size ≤ ad.block := fun ad e => own_base ho.2.choose_spec.1 ad.block (by rw [e]; rfl)
      have HNEW := Aside0.mk hnew
      have HO3C := Aside0.mk (Kd.R_reads' ho).2.2
      have HLT := Aside0.mk (show ∀ x, (φ x ∨ x = L.bg ∨ x = L.bw ∨ some x = (Value.slice A k c).ownBlock) → x < w2.heap.size by
        rintro x (hx | rfl | rfl | hx)
        · exact HP2.out x hx
        · exact blk_lt HS2.out.g
        · exact blk_lt HS2.out.w
        · obtain ⟨inner, hin⟩ := Kd.R_own HS2.out.row
          exact own_lt hin x hx.symm)
      clear hb ho HS2 HI2 HZ2 hnew
      go_wp2_with fail
      obtain ⟨st, hst⟩ : ∃ st : Nat → List (List Nat) × Bool, (fun j => feed cont (h, true) (below_ F al d set word ((itemsOf ou).take j))) = st := ⟨_, rfl⟩
      have HST := Aside0.mk hst
      clear hst
      go_loopg [22] (itemsOf ou).length (fun kq v22 w' => ∃ j : Nat, v22 = .int .i64 (j : Int) ∧ j ≤ (itemsOf ou).length ∧ Aside0 (kq = (itemsOf ou).length - j) ∧ ∃ (φ' : Nat → Prop) (A' : Option Addr) (k' c' : Nat), Aside0 (WSt w' w0 M φ' L #[.int .i64 (n : Int), .slice As ls.length cs] (.func (.func g) #[] lb) F A' k' c' word (st j).2) ∧ Aside0 (I (st j).1 φ' w') ∧ Aside0 (∀ x, φ' x → φ x ∨ W.heap.size ≤ x) ∧ Aside0 (∀ x, φ' x → x < w'.heap.size) ∧ Aside0 (OwnTo W (.slice A k c) (.slice A' k' c')) ∧ Aside0 (KB W w' (fun x => φ x ∨ x = L.bg ∨ x = L.bw ∨ some x = (Value.slice A k c).ownBlock)) ∧ Aside0 (Kd.C (Kd.int .i64) w' A3 (ints (itemsOf ou)).length (ints (itemsOf ou))) ∧ Aside0 (∀ ad, A3 = some ad → ¬ φ' ad.block ∧ ad.block ≠ L.bg ∧ ad.block ≠ L.bw ∧ some ad.block ≠ (Value.slice A' k' c').ownBlock))
      case atStart =>
        have e0 : st 0 = (h, true) := by rw [← HST.out]; simp [below_, feed]
        refine ⟨0, rfl, Nat.zero_le _, ⟨rfl⟩, φ, A, k, c, ⟨?_⟩, ⟨?_⟩, ⟨fun x hx => .inl hx⟩, HP3, ⟨fun x hx => .inl hx⟩, HKB3, HO3C, ⟨fun ad e => ?_⟩⟩
        · rw [e0]; exact HS3.out
        · rw [e0]; exact HI3.out
        · have hge := HNEW.out ad e
          refine ⟨fun hx => ?_, fun hx => ?_, fun hx => ?_, fun hx => ?_⟩
          · have := HLT.out _ (.inl hx); omega
          · have := HLT.out _ (.inr (.inl hx)); omega
          · have := HLT.out _ (.inr (.inr (.inl hx))); omega
          · have := HLT.out _ (.inr (.inr (.inr hx))); omega
      case round =>
        obtain ⟨j, rfl, hj, HK, φ1, A1, k1, c1, HS4, HI4, HP4, HP5, HW4, HKB4, HO4, HN4⟩ := hrel
        by_cases hlt : j < (itemsOf ou).length
        · obtain ⟨a, ha, hg, hg2⟩ := items_get ou j hlt
          obtain ⟨ad, e1, hx1⟩ := int_at HO4.out j (by rw [HLEN.out]; exact hlt)
          cases e1
          rw [hg2] at hx1
          have HG := Aside0.mk hg
          have HLT1 : j < (ints (itemsOf ou)).length := by rw [HLEN.out]; exact hlt
          have hb1 : wr.cell? ⟨L.bg, 0, none⟩ = some (.bool (st j).2) := (blk_cell HS4.out.g 0).trans rfl
          obtain ⟨bb, hbb⟩ : ∃ bb, (st j).2 = bb := ⟨_, rfl⟩
          have HBB2 := Aside0.mk hbb
          rw [hbb] at hb1
          clear hg hbb
          cases bb with
          | false =>
            go_wp2_with fail
            (try simp only [Exit.inBlock, Exit.then])
            refine bodyPost_ret (results_none rfl _ _ _) rfl ?_
            have e2 : feed cont (h, true) (below_ F al d set word (itemsOf ou)) = st j := by
              have e3 : below_ F al d set word (itemsOf ou) = below_ F al d set word ((itemsOf ou).take j) ++ below_ F al d set word ((itemsOf ou).drop j) := by
                unfold below_; rw [← List.flatMap_append, List.take_append_drop]
              have e4 : feed cont (h, true) (below_ F al d set word ((itemsOf ou).take j)) = st j := by rw [← HST.out]
              rw [e3, feed_append, e4]
              obtain ⟨s1, s2⟩ : ∃ s1, st j = (s1, false) := ⟨(st j).1, by rw [← HBB2.out]⟩
              rw [s2, feed_off]
            rw [HOU.out, e2]
            exact ⟨rfl, φ1, A1, k1, c1, HS4.out, HI4.out, HP4.out, HP5.out, HW4.out, HKB4.out⟩
          | true =>
            obtain ⟨rfl, hk2, hk3⟩ := Kd.R_reads' HS4.out.row
            have hc3 : wr.cell? ⟨L.bw, 0, none⟩ = some (.slice A1 (ints word).length c1) := (blk_cell HS4.out.w 0).trans rfl
            have hf3 := blk_frozen HS4.out.w 0
            have hbase : w0.heap.size ≤ wr.heap.size := HS4.out.kb.size
            have HWL := Aside0.mk hwl
            clear hk2 hk3
            have e5 : ints (word ++ [a]) = ints word ++ [(a : Int)] := by simp [ints]
            have hl5 : (ints word ++ [(a : Int)]).length = (ints word).length + 1 := by simp
            have E5 := Aside0.mk e5
            have HL5 := Aside0.mk hl5
            clear e5 hl5
            go_wp2_with (first | ((with_reducible refine gate_builtin (b := .append) (xs := #[.tmp 28, .tmp 30]) rfl ?_); at_builtin; refine Kd.R_append (Kd.int .i64) (w0 := wr) w0.heap.size rfl (.tmp 28) (.tmp 30) 22 3 (.int .i64 0) 8 rfl Try.underlying22 info3 rfl (by decide) (by omega) (.slice A1 (ints word).length c1) (ints word) (a : Int) [.int .i64 (a : Int)] (fun x => ¬ φ1 x) (fun _ => False) rfl rfl ?aP (fun _ hk => hk.elim) ?aF ?aO ?aB ?aS ?aL ?_; (case aP => exact rfl); (case aB => exact Below.refl _ _); (case aF => exact (fun x hx hp => Nat.lt_irrefl _ (Nat.lt_of_lt_of_le (HP5.out x hp) hx))); (case aO => exact HS4.out.row); (case aS => exact hbase); (case aL => (have := HWL.out; simp only [ints, List.length_map]; omega)); intro v1 w9 ho hb hg hat; obtain ⟨A5, c5, rfl⟩ := Kd.R_slice ho; rw [HL5.out] at ho; have hw9 := blk_grown HS4.out.w hg (Kd.R_ne HS4.out.row HS4.out.w (by decide)); have hc9 : w9.cell? ⟨L.bw, 0, none⟩ = some (.slice A1 (ints word).length c1) := (blk_cell hw9 0).trans rfl; have hf9 := blk_frozen hw9 0; have HO5 := Aside0.mk ho; have HG5 := Aside0.mk hg; have HAT5 := Aside0.mk hat; clear ho hb hg hat hw9) | fail)
            have HS5 := Aside0.mk (HS4.out.setw (word' := word ++ [a]) HG5.out (by rw [E5.out]; exact HO5.out))
            have HKB5 := Aside0.mk ((KB.grown (KB.refl wr (fun x => x = L.bw ∨ some x = (Value.slice A1 (ints word).length c1).ownBlock)) HG5.out (fun x hx => .inl (.inr hx.symm))).setCell (p := ⟨L.bw, 0, none⟩) (.inl (.inl rfl)) (.slice A5 ((ints word).length + 1) c5))
            have HI5 := Aside0.mk (HFD.out.stay _ _ _ _ _ HI4.out HKB5.out (fun x hx => by
              rcases hx with rfl | hx
              · exact (HS4.out.off _ (by simp)).1
              · exact HS4.out.row.1 x hx.symm))
            have HP6 := Aside0.mk (fun x (hx : φ1 x) => Nat.lt_of_lt_of_le (HP5.out x hx) HKB5.out.size)
            have HZ5 := Aside0.mk HKB5.out.size
            clear HO5 HG5 hc9 hf9
            generalize w9.setCell ⟨L.bw, 0, none⟩ (.slice A5 ((ints word).length + 1) c5) = w10 at HS5 HKB5 HI5 HP6 HZ5 ⊢
            have hbn : w10.cell? ⟨L.bn, 0, none⟩ = some (.func (.func 108) #[] #[.pointer (some ⟨L.bs, 0, none⟩), .pointer (some ⟨L.bd, 0, none⟩), .pointer (some ⟨L.bw, 0, none⟩), .pointer (some ⟨L.bg, 0, none⟩), .pointer (some ⟨L.bf, 0, none⟩), .pointer (some ⟨L.bn, 0, none⟩)]) := (blk_cell HS5.out.n 0).trans rfl
            obtain ⟨p, hp1, hp2, hp⟩ := bit_letter a (by omega)
            obtain ⟨q, hq⟩ : ∃ q, wth set a = q := ⟨_, rfl⟩
            have hq1 : Go.bits .or .i64 (set : Int) p = (q : Int) := by rw [hp, ← hq]; exact go_wth set a hs ha
            have HQ := Aside0.mk hq
            have HPP := Aside0.mk hp
            have hih := IH.out (wth set a) (word ++ [a]) (st j).1 φ1 w10.drew A5 _ c5 (wth_lt _ _ hs ha) (by have := cnt_wth set a hs ha (HOM.out a (List.mem_of_getElem? HG.out)).2; have := HD.out; omega) (by have := HWL.out; simp; omega) (HOK.out a (List.mem_of_getElem? HG.out)) (by have h5 := HS5.out.below (below_drew (Below.refl _ _)); rw [HBB2.out] at h5; exact h5) (HFD.out.stay _ _ _ _ _ HI5.out (KB.drew (KB.refl _ (fun _ => False))) (fun _ hx => hx.elim)) HP6.out
            have hst1 : feed cont ((st j).1, true) ((wordsFrom F al d (wth set a)).map ((word ++ [a]) ++ ·)) = st (j + 1) := by
              have e3 : (itemsOf ou).take (j + 1) = (itemsOf ou).take j ++ [a] := by rw [List.take_add_one, HG.out]; rfl
              have e4 : feed cont (h, true) (below_ F al d set word ((itemsOf ou).take j)) = st j := by rw [← HST.out]
              have e6 : st (j + 1) = feed cont (h, true) (below_ F al d set word ((itemsOf ou).take (j + 1))) := by rw [← HST.out]
              have e7 : st j = ((st j).1, true) := by rw [← HBB2.out]
              rw [e6, e3, below_snoc, feed_append, e4, ← e7]
            rw [hst1, hq] at hih
            unfold nextArgs at hih
            have HIH := Aside0.mk hih
            have HST1 := Aside0.mk hst1
            clear hp hq hb1 hf3 hih hst1
            go_region_with (go_at_call 108; refine (HIH.out).mono ?_; rintro e w11 ⟨rfl, φ2, A6, k6, c6, hs6, hi6, hp6, hp7, hw6, hk6⟩; have HS6 := Aside0.mk hs6; have HI6 := Aside0.mk hi6; have HP7 := Aside0.mk hp6; have HP8 := Aside0.mk hp7; have HW6 := Aside0.mk hw6; have HKB6 := Aside0.mk hk6; clear hs6 hi6 hp6 hp7 hw6 hk6)
            obtain ⟨hk6, hk7, hk8⟩ := Kd.R_reads' HS6.out.row
            rw [E5.out, HL5.out] at hk6
            subst hk6
            have hc11 : w11.cell? ⟨L.bw, 0, none⟩ = some (.slice A6 ((ints word).length + 1) c6) := (blk_cell HS6.out.w 0).trans rfl
            have hf11 := blk_frozen HS6.out.w 0
            have hwl8 : (ints word).length ≤ 8 := by have := HWL.out; simp only [ints, List.length_map]; omega
            clear hk8 hbn
            go_wp2_with fail
            have hrow7 : Kd.R (Kd.int .i64) 3 w11 w0.heap.size (fun x => ¬ φ2 x) (.slice A6 (ints word).length c6) (ints word) := by
              have h7 := Kd.R_take (m := (ints word).length) HS6.out.row (by rw [E5.out]; simp)
              rw [E5.out, List.take_left] at h7
              exact h7
            have HS7 := HS6.out.setw (W' := w11) (word' := word) (grown_of_below (Below.refl _ _) _) hrow7
            have hkb7 : KB w11 (w11.setCell ⟨L.bw, 0, none⟩ (.slice A6 (ints word).length c6)) (fun x => x = L.bw) := KB.setCell (S := fun x => x = L.bw) (KB.refl _ _) (p := ⟨L.bw, 0, none⟩) (.inl rfl) _
            have HI7 := HFD.out.stay _ _ _ _ _ HI6.out hkb7 (fun x hx => by rw [hx]; exact (HS6.out.off _ (by simp)).1)
            have hadl : ad.block < wr.heap.size := by
              have h8 := World.block_lt_of_cell? wr _ hx1
              have e8 : (ad.add j).block = ad.block := by unfold Addr.add; split <;> rfl
              rwa [e8] at h8
            have hz1 : W.heap.size ≤ wr.heap.size := HKB4.out.size
            have hz2 : wr.heap.size ≤ w10.heap.size := HZ5.out
            have hown5 : ∀ x, (Value.slice A5 ((ints word).length + 1) c5).ownBlock = some x → (Value.slice A1 (ints word).length c1).ownBlock = some x ∨ wr.heap.size ≤ x := by
              intro x hx
              rcases HAT5.out with h9 | ⟨b9, h9, h10⟩
              · left; rw [← h9]; rw [HL5.out]; exact hx
              · right; rw [HL5.out] at h9; rw [h9] at hx; injection hx with hx; omega
            have hown6 : ∀ x, (Value.slice A6 ((ints word).length + 1) c6).ownBlock = some x → (Value.slice A1 (ints word).length c1).ownBlock = some x ∨ wr.heap.size ≤ x := by
              intro x hx
              rcases HW6.out x hx with h9 | h9
              · exact hown5 x h9
              · right; exact Nat.le_trans hz2 h9
            have hown7 : (Value.slice A6 (ints word).length c6).ownBlock = (Value.slice A6 ((ints word).length + 1) c6).ownBlock := by cases A6 <;> rfl
            have hfar1 : ∀ x, x < wr.heap.size → φ2 x → φ1 x := by
              intro x hx hp
              rcases HP7.out x hp with h9 | h9
              · exact h9
              · have h9' : w10.heap.size ≤ x := h9; omega
            have hkb8 : KB wr (w11.setCell ⟨L.bw, 0, none⟩ (.slice A6 (ints word).length c6)) (fun x => φ1 x ∨ x = L.bg ∨ x = L.bw ∨ some x = (Value.slice A1 (ints word).length c1).ownBlock) := by
              refine ((HKB5.out.mono (fun x _ hx => by rcases hx with hx | hx; exact .inr (.inr (.inl hx)); exact .inr (.inr (.inr hx)))).drew.then_ HKB6.out ?_).then_ hkb7 (fun x _ hx => .inr (.inr (.inl hx)))
              rintro x hx (h9 | h9 | h9 | h9)
              · exact .inl h9
              · exact .inr (.inl h9)
              · exact .inr (.inr (.inl h9))
              · rcases hown5 x h9.symm with h10 | h10
                · exact .inr (.inr (.inr h10.symm))
                · omega
            have HN := HN4.out ad rfl
            go_roundg ((itemsOf ou).length - (j + 1))
            case measure => have := HK.out; omega
            case rel =>
              refine ⟨j + 1, by go_num, by omega, ⟨rfl⟩, φ2, A6, _, c6, ⟨HS7⟩, ⟨HI7⟩, ⟨?_⟩, ⟨?_⟩, ⟨?_⟩, ⟨?_⟩, ⟨?_⟩, ⟨?_⟩⟩
              · intro x hx
                rcases HP7.out x hx with h9 | h9
                · exact HP4.out x h9
                · right; exact Nat.le_trans hz1 (Nat.le_trans hz2 h9)
              · intro x hx; have := HP8.out x hx; simpa [World.setCell] using this
              · intro x hx
                rw [hown7] at hx
                rcases hown6 x hx with h9 | h9
                · exact HW4.out x h9
                · right; exact Nat.le_trans hz1 h9
              · refine HKB4.out.then_ hkb8 ?_
                rintro x hx (h9 | h9 | h9 | h9)
                · rcases HP4.out x h9 with h10 | h10
                  · exact .inl h10
                  · omega
                · exact .inr (.inl h9)
                · exact .inr (.inr (.inl h9))
                · rcases HW4.out x h9.symm with h10 | h10
                  · exact .inr (.inr (.inr h10.symm))
                  · omega
              · refine C_kb HO4.out hkb8 ?_
                intro ad' e9
                injection e9 with e9
                subst e9
                rintro (h9 | h9 | h9 | h9)
                · exact HN.1 h9
                · exact HN.2.1 h9
                · exact HN.2.2.1 h9
                · exact HN.2.2.2 h9
              · intro ad' e9
                injection e9 with e9
                subst e9
                refine ⟨fun h9 => HN.1 (hfar1 _ hadl h9), HN.2.1, HN.2.2.1, fun h9 => ?_⟩
                rw [hown7] at h9
                rcases hown6 _ h9.symm with h10 | h10
                · exact HN.2.2.2 h10.symm
                · omega
        · have hje : j = (itemsOf ou).length := by omega
          have hge : ¬ j < (ints (itemsOf ou)).length := by rw [HLEN.out]; exact hlt
          go_wp2
          go_end0
          have e1 : feed cont (h, true) (below_ F al d set word (itemsOf ou)) = st j := by rw [← HST.out, hje]; simp only [List.take_length]
          rw [HOU.out, e1]
          exact ⟨rfl, φ1, A1, k1, c1, HS4.out, HI4.out, HP4.out, HP5.out, HW4.out, HKB4.out⟩
end
end Go.Proofs.Ytjhjphgdjhahlaa.P
/- impl's 'words' behind no word: what is told. -/
namespace Go.Proofs.Ytjhjphgdjhahlaa.P
open Go.RowKit Go.Proofs.YtjhjphgdjhahlaaW.PrintWords Go.Proofs.YtjhjphgdjhahlaaW.PrintLast Go.Proofs.YtjhjphgdjhahlaaW.PrintMore
set_option linter.unusedVariables false
set_option maxHeartbeats 1600000
set_option maxRecDepth 100000

theorem clone_nil (w : World) : Calls Try.prog 107 #[.slice none 0 0] w fun e w' => e = .returned (.slice none 0 0) ∧ w = w' := by
  have hn := fun w => run_eql_slice_nil (P := Try.prog) w 22 3 none 0 0 Try.underlying22
  go_enter Try.func107, Try.ntmps107
  go_wp2_with fail
  go_ret
  exact ⟨rfl, rfl⟩
theorem setOf_nil (n : Int) (A : Option Addr) (l : List Int) (c : Nat) (w : World) (hr : Kd.C (Kd.int .i64) w A l.length l) (hv : ∀ x ∈ l, 0 ≤ x ∧ x < 128) :
    Calls Try.prog 112 #[.agg #[.int .i64 n, .slice A l.length c], .slice none 0 0] w fun e w' => e = .returned (.tuple #[.int .i64 0, .bool true]) ∧ Below w.heap.size w w' := by
  have hu := Try.underlying28
  have HR := Aside0.mk hr
  have HV := Aside0.mk hv
  clear hr hv
  go_enter Try.func112, Try.ntmps112
  go_wp2_with fail
  refine (family_calls n A l c _ (Kd.C_alloc HR.out _) HV.out).mono ?_
  rintro e w1 ⟨g, rfl, hf, hb, hg⟩
  have HB := Aside0.mk (below_step (below_alloc (Below.refl _ w) _) hb)
  clear hb hg hf
  go_wp2_with fail
  go_loopg [7, 14] 0 (fun kq v7 v14 w' => v7 = .int .i64 0 ∧ v14 = .int .i64 0 ∧ Aside0 (Below w.heap.size w w'))
  case atStart => exact ⟨rfl, rfl, HB⟩
  case round =>
    obtain ⟨rfl, rfl, HB2⟩ := hrel
    go_wp2_with fail
    go_ret2
    exact ⟨rfl, HB2.out⟩
section
variable {g : Nat} {lb : Array Value} {I : List (List Nat) → (Nat → Prop) → World → Prop} {cont : List (List Nat) → Bool} {w : World} {M φ : Nat → Prop} {okw : List Nat → Prop}
theorem words_calls (FD : Feeder g lb I cont w M okw) (n : Nat) (hn7 : n ≤ 7) (A : Option Addr) (l : List Int) (c : Nat) (hr : Kd.C (Kd.int .i64) w A l.length l) (hc : l.length ≤ c) (hv : ∀ x ∈ l, 0 ≤ x ∧ x < 128) (hMs : ∀ ad, A = some ad → ¬ M ad.block)
    (hI : I [] φ w) (hφ : ∀ j, φ j → j < w.heap.size) (hok : ∀ y ∈ wordsFrom (famOf l) (2 ^ n - 1) 8 0, okw y) :
    Calls Try.prog 63 #[.agg #[.int .i64 n, .slice A l.length c], .slice none 0 0, .func (.func g) #[] lb] w fun e w' => e = .returned (.tuple #[]) ∧ ∃ φ', I (feed cont ([], true) (wordsFrom (famOf l) (2 ^ n - 1) 8 0)).1 φ' w' ∧ (∀ j, φ' j → φ j ∨ w.heap.size ≤ j) ∧ (∀ j, φ' j → j < w'.heap.size) ∧ KB w w' (fun j => φ j ∧ M j) := by
  have hu := Try.underlying28
  have HR := Aside0.mk hr
  have HC := Aside0.mk hc
  have HV := Aside0.mk hv
  have HFD := Aside0.mk FD
  have HMS := Aside0.mk hMs
  have HI := Aside0.mk hI
  have HP := Aside0.mk hφ
  have HOK := Aside0.mk hok
  clear hr hv FD hMs hI hφ hok hc
  go_enter Try.func63, Try.ntmps63
  go_wp2_with fail
  refine (family_calls n A l c _ (Kd.C_alloc (Kd.C_alloc HR.out _) _) HV.out).mono ?_
  rintro e w1 ⟨fm, rfl, hf, hb, hg⟩
  have HF1 := Aside0.mk hf
  have HB1 := Aside0.mk (below_step (below_alloc (below_alloc (Below.refl _ w) _) _) hb)
  have HS1 := Aside0.mk (blk_below (blk_alloc (blk_new w _) _) hb)
  have hd1 := blk_below (blk_new (w.alloc (.cells #[.int .i64 (n : Int), .slice A l.length c] 28)) _) hb
  have es1 : (w.alloc (.cells #[.int .i64 (n : Int), .slice A l.length c] 28)).heap.size = w.heap.size + 1 := by simp
  rw [es1] at hd1
  have HD1 := Aside0.mk hd1
  have hg1 : w.heap.size + 1 + 1 ≤ fm := by simpa using hg
  have HG1 := Aside0.mk hg1
  have hz0 : w.heap.size < w1.heap.size := by have := hb.size; simp at this; omega
  have hz2 : w.heap.size < w1.heap.size + 1 := by omega
  have hz3 : w.heap.size < w1.heap.size + 1 + 1 := by omega
  have hz4 : w.heap.size < w1.heap.size + 1 + 1 + 1 := by omega
  have hz1 : w.heap.size + 1 < w1.heap.size := by have := hb.size; simp at this; omega
  have hc1_0 : w1.cell? ⟨w.heap.size, 0, none⟩ = some (.int .i64 (n : Int)) := (blk_cell HS1.out 0).trans rfl
  have hc1_1 : w1.cell? ⟨w.heap.size, 1, none⟩ = some (.slice A l.length c) := (blk_cell HS1.out 1).trans rfl
  clear hf hb hg hd1 es1 hg1
  go_wp2_with fail
  refine (clone_nil _).mono ?_
  rintro e w2 ⟨rfl, rfl⟩
  go_wp2_with fail
  have hb3 : Below w1.heap.size w1 ((((w1.alloc (.cells #[.pointer (some ⟨fm, 0, none⟩)] 107)).alloc (.cells #[.slice none 0 0] 22)).alloc (.cells #[.bool true] 4)).alloc (.cells #[.func (.func 108) #[] #[.pointer (some ⟨w.heap.size, 0, none⟩), .pointer (some ⟨w.heap.size + 1, 0, none⟩), .pointer (some ⟨w1.heap.size + 1, 0, none⟩), .pointer (some ⟨w1.heap.size + 1 + 1, 0, none⟩), .pointer (some ⟨w1.heap.size, 0, none⟩), .pointer (some ⟨w1.heap.size + 1 + 1 + 1, 0, none⟩)]] 109)) := below_alloc (below_alloc (below_alloc (below_alloc (Below.refl _ _) _) _) _) _
  have hS : WSt ((((w1.alloc (.cells #[.pointer (some ⟨fm, 0, none⟩)] 107)).alloc (.cells #[.slice none 0 0] 22)).alloc (.cells #[.bool true] 4)).alloc (.cells #[.func (.func 108) #[] #[.pointer (some ⟨w.heap.size, 0, none⟩), .pointer (some ⟨w.heap.size + 1, 0, none⟩), .pointer (some ⟨w1.heap.size + 1, 0, none⟩), .pointer (some ⟨w1.heap.size + 1 + 1, 0, none⟩), .pointer (some ⟨w1.heap.size, 0, none⟩), .pointer (some ⟨w1.heap.size + 1 + 1 + 1, 0, none⟩)]] 109)) w M φ
      ⟨w.heap.size, w.heap.size + 1, w1.heap.size + 1, w1.heap.size + 1 + 1, w1.heap.size, w1.heap.size + 1 + 1 + 1, fm⟩ #[.int .i64 (n : Int), .slice A l.length c] (.func (.func g) #[] lb) (famOf l) none 0 0 [] true := by
    have e1 : ∀ (W : World) (o : Obj), (W.alloc o).heap.size = W.heap.size + 1 := fun W o => by simp
    refine ⟨blk_below HS1.out hb3, blk_below HD1.out hb3, ?_, ?_, ?_, ?_, blk_below HF1.out hb3, Kd.R_nil _ _ _ _ _, KB.of_below (below_step HB1.out hb3) _, ?_⟩
    · refine blk_alloc (blk_alloc ?_ _) _
      have := blk_new (w1.alloc (.cells #[.pointer (some ⟨fm, 0, none⟩)] 107)) (.cells #[.slice none 0 0] 22)
      rwa [e1] at this
    · refine blk_alloc ?_ _
      have := blk_new ((w1.alloc (.cells #[.pointer (some ⟨fm, 0, none⟩)] 107)).alloc (.cells #[.slice none 0 0] 22)) (.cells #[.bool true] 4)
      rwa [e1, e1] at this
    · exact blk_alloc (blk_alloc (blk_alloc (blk_new _ _) _) _) _
    · have := blk_new (((w1.alloc (.cells #[.pointer (some ⟨fm, 0, none⟩)] 107)).alloc (.cells #[.slice none 0 0] 22)).alloc (.cells #[.bool true] 4)) (.cells #[.func (.func 108) #[] #[.pointer (some ⟨w.heap.size, 0, none⟩), .pointer (some ⟨w.heap.size + 1, 0, none⟩), .pointer (some ⟨w1.heap.size + 1, 0, none⟩), .pointer (some ⟨w1.heap.size + 1 + 1, 0, none⟩), .pointer (some ⟨w1.heap.size, 0, none⟩), .pointer (some ⟨w1.heap.size + 1 + 1 + 1, 0, none⟩)]] 109)
      rwa [e1, e1, e1] at this
    · intro j hj
      have hge : w.heap.size ≤ j := by have := HG1.out; dsimp only at hj; omega
      exact ⟨fun hp => by have := HP.out j hp; omega, hge⟩
  refine (setOf_nil n A l c _ (Kd.C_below (Kd.C_below HR.out HB1.out) hb3) HV.out).mono ?_
  rintro e w3 ⟨rfl, hb⟩
  have HS3 := Aside0.mk (hS.below hb)
  have HB3 := Aside0.mk (below_step (below_step HB1.out hb3) hb)
  clear hS hb3 hb hc1_0 hc1_1 hz0 hz1 hz2 hz3 hz4
  have hbn := (blk_cell HS3.out.n 0).trans rfl
  have hnx := next_calls HFD.out n hn7 A l c HR.out HC.out HMS.out (famOf l) _ 8 0 [] [] φ w3 none 0 0 (by omega) (by decide) rfl (fun y hy => HOK.out y hy) HS3.out (HFD.out.stay _ _ _ _ _ HI.out (KB.of_below HB3.out (fun _ => False)) (fun _ hx => hx.elim)) (fun j hj => Nat.lt_of_lt_of_le (HP.out j hj) HB3.out.size)
  simp only [nextArgs] at hnx hbn
  have HNX := Aside0.mk hnx
  clear hnx
  go_wp2_with fail
  refine HNX.out.mono ?_
  rintro e w4 ⟨rfl, φ', A', k', c', hS4, hI4, hp1, hp2, hw, hkb⟩
  have HEND : ∃ φ', I (feed cont ([], true) (wordsFrom (famOf l) (2 ^ n - 1) 8 0)).1 φ' w4 ∧ (∀ j, φ' j → φ j ∨ w.heap.size ≤ j) ∧ (∀ j, φ' j → j < w4.heap.size) ∧ KB w w4 (fun j => φ j ∧ M j) := by
    have e0 : (wordsFrom (famOf l) (2 ^ n - 1) 8 0).map (([] : List Nat) ++ ·) = wordsFrom (famOf l) (2 ^ n - 1) 8 0 := by simp
    rw [e0] at hI4
    refine ⟨φ', hI4, fun j hj => ?_, hp2, hS4.kb.os, hS4.kb.tape, hS4.kb.output, hS4.kb.size, fun i hi hn => ?_⟩
    · rcases hp1 j hj with h1 | h1
      · exact .inl h1
      · exact .inr (Nat.le_trans HB3.out.size h1)
    · by_cases hM : M i
      · have hφ' : ¬ φ i := fun h => hn ⟨h, hM⟩
        have hz : w.heap.size < w1.heap.size := by have := blk_lt HS1.out; exact this
        rw [hkb.block i (Nat.lt_of_lt_of_le hi HB3.out.size) ?_, HB3.out.block i hi]
        rintro (h1 | h1 | h1 | h1)
        · exact hφ' h1
        · omega
        · omega
        · simp [Value.ownBlock] at h1
      · exact hS4.kb.block i hi hM
  have HE := Aside0.mk HEND
  clear HEND hS4 hI4 hp1 hp2 hw hkb
  go_wp2_with fail
  go_end0
  exact ⟨rfl, HE.out⟩
end
end Go.Proofs.Ytjhjphgdjhahlaa.P
/- Plain facts about the words of a family: which lists are told. No program. -/
-- plain
namespace Go.Proofs.Ytjhjphgdjhahlaa.P
/-- y leads from s to al, over sets of the family -/
def isWay (F : Nat → Bool) (al : Nat) : Nat → List Nat → Prop
  | s, [] => s = al
  | s, i :: y => s ≠ al ∧ i < 7 ∧ s.testBit i = false ∧ F (wth s i) = true ∧ isWay F al (wth s i) y
theorem mem_itemsOf {x i : Nat} : i ∈ itemsOf x ↔ i < 7 ∧ x.testBit i = true := by simp [itemsOf]
theorem mem_outer {F : Nat → Bool} {x i : Nat} : i ∈ itemsOf (outer F x) ↔ i < 7 ∧ x.testBit i = false ∧ F (wth x i) = true := by
  rw [mem_itemsOf, outer_bit]; simp
theorem mem_words {F : Nat → Bool} {al : Nat} : ∀ (d s : Nat) (y : List Nat), y ∈ wordsFrom F al d s ↔ y.length < d ∧ isWay F al s y := by
  intro d
  induction d with
  | zero => intro s y; simp [wordsFrom]
  | succ d ih =>
    intro s y
    simp only [wordsFrom]
    split
    · rename_i h
      cases y with
      | nil => simp [isWay, h]
      | cons i y => simp [isWay, h]
    · rename_i h
      cases y with
      | nil => simp [isWay, h]
      | cons i y =>
        simp only [List.mem_flatMap, List.mem_map, List.cons.injEq, isWay, List.length_cons]
        constructor
        · rintro ⟨j, hj, z, hz, rfl, rfl⟩
          have h2 := (ih _ _).1 hz
          have h3 := mem_outer.1 hj
          exact ⟨by omega, h, h3.1, h3.2.1, h3.2.2, h2.2⟩
        · rintro ⟨h1, _, h3, h4, h5, h6⟩
          exact ⟨i, mem_outer.2 ⟨h3, h4, h5⟩, y, (ih _ _).2 ⟨by omega, h6⟩, rfl, rfl⟩
theorem isWay_cnt {F : Nat → Bool} {al : Nat} : ∀ (y : List Nat) (s : Nat), s < 128 → isWay F al s y → cnt s + y.length = cnt al ∧ ∀ z ∈ y, z < 7 := by
  intro y
  induction y with
  | nil => intro s _ h; exact ⟨by rw [show s = al from h]; rfl, by simp⟩
  | cons i y ih =>
    rintro s hs ⟨_, h2, h3, _, h5⟩
    obtain ⟨e1, e2⟩ := ih (wth s i) (wth_lt s i hs h2) h5
    rw [cnt_wth s i hs h2 h3] at e1
    refine ⟨by simp; omega, ?_⟩
    intro z hz
    rcases List.mem_cons.1 hz with rfl | hz
    · exact h2
    · exact e2 z hz
theorem cnt_all (n : Nat) (h : n ≤ 7) : cnt (2 ^ n - 1) = n := by
  have : ∀ n, n ≤ 7 → cnt (2 ^ n - 1) = n := by decide +kernel
  exact this n h
theorem words_ok (F : Nat → Bool) (n : Nat) (h : n ≤ 7) (y : List Nat) (hy : y ∈ wordsFrom F (2 ^ n - 1) 8 0) : y.length = n ∧ ∀ z ∈ y, z < 7 := by
  have h1 := (mem_words _ _ _).1 hy
  have h2 := isWay_cnt y 0 (by omega) h1.2
  rw [cnt_all n h] at h2
  have h0 : cnt 0 = 0 := by decide
  exact ⟨by omega, h2.2⟩
end Go.Proofs.Ytjhjphgdjhahlaa.P
/- impl's 'orders': a function value is called for each order of the first numbers, in order. -/
namespace Go.Proofs.Ytjhjphgdjhahlaa.P
open Go.RowKit Go.Proofs.YtjhjphgdjhahlaaW.PrintWords Go.Proofs.YtjhjphgdjhahlaaW.PrintLast Go.Proofs.YtjhjphgdjhahlaaW.PrintMore
set_option linter.unusedVariables false
set_option maxHeartbeats 1600000
set_option maxRecDepth 100000

/-- all orders of the first n numbers -/
def perms (n : Nat) : List (List Nat) := wordsFrom (famOf (ints (List.range (2 ^ n)))) (2 ^ n - 1) 8 0
theorem perms_ok (n : Nat) (h : n ≤ 7) (y : List Nat) (hy : y ∈ perms n) : y.length = n ∧ ∀ z ∈ y, z < 7 := words_ok _ n h y hy
/-- What is asked of a function value without a result. -/
structure Teller (g : Nat) (lb : Array Value) (I : List (List Nat) → (Nat → Prop) → World → Prop) (w0 : World) (M : Nat → Prop) (okw : List Nat → Prop) : Prop where
  eg : ∀ args w, (callFunc g args).run Try.prog w = .ok (.enter g args) w
  low : ∀ j, M j → j < w0.heap.size
  stay : ∀ h φ W W' S, I h φ W → KB W W' S → (∀ j, S j → ¬ φ j) → I h φ W'
  call : ∀ W h φ A c x, KB w0 W M → I h φ W → (∀ j, φ j → j < W.heap.size) → Kd.C (Kd.int .i64) W A (ints x).length (ints x) → (ints x).length ≤ c → (∀ ad, A = some ad → ¬ φ ad.block) → okw x →
    Calls Try.prog g (#[.slice A (ints x).length c] ++ lb) W fun e W' => e = .returned (.tuple #[]) ∧ ∃ φ', I (h ++ [x]) φ' W' ∧ KB W W' (fun j => φ j ∧ (M j ∨ w0.heap.size ≤ j)) ∧ (∀ j, φ' j → φ j ∨ W.heap.size ≤ j) ∧ (∀ j, φ' j → j < W'.heap.size)

section
variable {g : Nat} {lb : Array Value} {I : List (List Nat) → (Nat → Prop) → World → Prop} {w0 : World} {M φ : Nat → Prop} {okw : List Nat → Prop}
/-- the function value that 'orders' makes of one -/
theorem orders_feeder (TL : Teller g lb I w0 M okw) (w1 : World) (bd : Nat) (hb : Below w0.heap.size w0 w1) (hbd : w0.heap.size ≤ bd) (hcell : w1.heap[bd]? = some (.cells #[.func (.func g) #[] lb] 95 (0, 0))) :
    Feeder 137 #[.pointer (some ⟨bd, 0, none⟩)] (fun h φ W => I h φ W ∧ ∀ j, φ j → j < w0.heap.size ∨ w1.heap.size ≤ j) (fun _ => true) w1 M okw where
  eg := enters_ (by rw [Try.func137]) (by decide) (by decide)
  stay := fun h φ W W' S hI hk hs => ⟨TL.stay h φ W W' S hI.1 hk hs, hI.2⟩
  call := by
    intro W h φ A c x hk hI hφ hC hc hA hok
    have hbdl := blk_lt hcell
    have hcl := blk_kb hcell hk (fun hm => by have := TL.low _ hm; omega)
    have hcd : W.cell? ⟨bd, 0, none⟩ = some (.func (.func g) #[] lb) := (blk_cell hcl 0).trans rfl
    have hk0 : KB w0 W M := (KB.of_below hb M).then_ hk (fun _ _ h => h)
    have hcall := TL.call W h φ A c x hk0 hI.1 hφ hC hc hA hok
    have HCALL := Aside0.mk hcall
    have HI2 := Aside0.mk hI.2
    have HZ := Aside0.mk (show w1.heap.size ≤ W.heap.size from hk.size)
    have eg := TL.eg
    clear hcl hk0 hcall hI hk hC hok hφ hcell hA
    show Calls _ _ #[.slice A (ints x).length c, .pointer (some ⟨bd, 0, none⟩)] _ _
    go_enter Try.func137, Try.ntmps137
    go_wp2_with fail
    refine HCALL.out.mono ?_
    rintro e w2 ⟨rfl, φ', hI2, hkb, hp1, hp2⟩
    have HE : ∃ φ'', (I (h ++ [x]) φ'' w2 ∧ ∀ j, φ'' j → j < w0.heap.size ∨ w1.heap.size ≤ j) ∧ KB W w2 (fun j => φ j ∧ (M j ∨ w1.heap.size ≤ j)) ∧ (∀ j, φ'' j → φ j ∨ W.heap.size ≤ j) ∧ (∀ j, φ'' j → j < w2.heap.size) := by
      refine ⟨φ', ⟨hI2, fun j hj => ?_⟩, hkb.mono (fun j _ hj => ⟨hj.1, ?_⟩), hp1, hp2⟩
      · rcases hp1 j hj with h1 | h1
        · exact HI2.out j h1
        · exact .inr (Nat.le_trans HZ.out h1)
      · rcases hj.2 with h1 | h1
        · exact .inl h1
        · rcases HI2.out j hj.1 with h2 | h2
          · omega
          · exact .inr h2
    have HEE := Aside0.mk HE
    clear HE hI2 hkb hp1 hp2
    go_wp2_with fail
    go_ret
    exact ⟨rfl, HEE.out⟩

theorem orders_calls (TL : Teller g lb I w0 M okw) (n : Nat) (h1 : 1 ≤ n) (hn7 : n ≤ 7) (hI : I [] φ w0) (hφ : ∀ j, φ j → j < w0.heap.size) (hok : ∀ y ∈ perms n, okw y) :
    Calls Try.prog 99 #[.int .i64 n, .func (.func g) #[] lb] w0 fun e w' => e = .returned (.tuple #[]) ∧ ∃ φ', I (perms n) φ' w' ∧ (∀ j, φ' j → φ j ∨ w0.heap.size ≤ j) ∧ (∀ j, φ' j → j < w'.heap.size) ∧ KB w0 w' (fun j => φ j ∧ M j) := by
  have hu := Try.underlying28
  have HTL := Aside0.mk TL
  have HI := Aside0.mk hI
  have HP := Aside0.mk hφ
  have HOK := Aside0.mk hok
  clear TL hI hφ hok
  go_enter Try.func99, Try.ntmps99
  go_wp2_with fail
  refine (free_calls n h1 hn7 _).mono ?_
  rintro e w1 ⟨v, rfl, ho, hb⟩
  obtain ⟨A, c, rfl⟩ := Kd.R_slice ho
  have hbox := Aside0.mk (blk_below (blk_new w0 _) hb)
  have HB1 := Aside0.mk (below_step (below_alloc (Below.refl _ w0) _) hb)
  have hnew : ∀ ad, A = some ad → w0.heap.size + 1 ≤ ad.block := fun ad e => by have := own_base ho.2.choose_spec.1 ad.block (by rw [e]; rfl); simpa using this
  have HNEW := Aside0.mk hnew
  have HC := Aside0.mk (Kd.R_reads' ho).2
  clear ho hb hnew
  go_wp2_with fail
  have hb2 := Aside0.mk (below_alloc HB1.out (.cells #[.int .i64 (n : Int), .slice A (ints (List.range (2 ^ n))).length c] 28))
  have hw := words_calls (orders_feeder HTL.out _ w0.heap.size hb2.out (Nat.le_refl _) (blk_alloc hbox.out _)) n hn7 A (ints (List.range (2 ^ n))) c (Kd.C_alloc HC.out.2 _) HC.out.1
    (by
      intro x hx
      simp only [ints, List.mem_map, List.mem_range] at hx
      obtain ⟨i, hi, rfl⟩ := hx
      have : 2 ^ n ≤ 128 := Nat.pow_le_pow_right (n := 2) (by omega) hn7
      omega)
    (fun ad e hm => by have := HNEW.out ad e; have := HTL.out.low _ hm; omega)
    (φ := φ) ⟨HTL.out.stay _ _ _ _ _ HI.out (KB.of_below hb2.out (fun _ => False)) (fun _ hx => hx.elim), fun j hj => .inl (HP.out j hj)⟩
    (fun j hj => Nat.lt_of_lt_of_le (HP.out j hj) hb2.out.size) (fun y hy => HOK.out y hy)
  refine hw.mono ?_
  clear hw
  rintro e w3 ⟨rfl, φ', hI, hp1, hp2, hkb⟩
  have HE : ∃ φ', I (perms n) φ' w3 ∧ (∀ j, φ' j → φ j ∨ w0.heap.size ≤ j) ∧ (∀ j, φ' j → j < w3.heap.size) ∧ KB w0 w3 (fun j => φ j ∧ M j) := by
    rw [feed_all _ (fun _ => rfl)] at hI
    refine ⟨φ', hI.1, fun j hj => ?_, hp2, (KB.of_below hb2.out _).then_ hkb (fun _ _ h => h)⟩
    rcases hp1 j hj with h2 | h2
    · exact .inl h2
    · exact .inr (Nat.le_trans hb2.out.size h2)
  have HEE := Aside0.mk HE
  clear HE hI hp1 hp2 hkb
  go_wp2_with fail
  go_end0
  exact ⟨rfl, HEE.out⟩
end
end Go.Proofs.Ytjhjphgdjhahlaa.P
/- impl's 'space' of a family: the sets of the family, increasing. -/
namespace Go.Proofs.Ytjhjphgdjhahlaa.P
open Go.RowKit Go.Proofs.YtjhjphgdjhahlaaW.PrintWords Go.Proofs.YtjhjphgdjhahlaaW.PrintLast Go.Proofs.YtjhjphgdjhahlaaW.PrintMore
set_option linter.unusedVariables false
set_option maxHeartbeats 800000
set_option maxRecDepth 100000

theorem space_calls (g : Nat) (F : Nat → Bool) (n : Int) (w : World) (hF : FamAt w g F) :
    Calls Try.prog 135 #[.pointer (some ⟨g, 0, none⟩), .int .i64 n] w fun e w' => ∃ v, e = .returned (.agg #[.int .i64 n, v]) ∧ Kd.R (Kd.int .i64) 3 w' w.heap.size (fun _ => True) v (ints (setsOf F)) ∧ Below w.heap.size w w' := by
  have hu := Try.underlying28
  have HF := Aside0.mk hF
  clear hF
  go_enter Try.func135, Try.ntmps135
  go_wp2_with fail
  go_loopg [11] 128 (fun kq v11 w' => ∃ (i : Nat) (v : Value), v11 = .int .i64 i ∧ i ≤ 128 ∧ Aside0 (kq = 128 - i) ∧ Aside0 (Kd.R (Kd.int .i64) 3 w' w.heap.size (fun _ => True) v (ints (setsUpto F i))) ∧ Aside0 (w'.heap[w.heap.size]? = some (.cells #[.int .i64 0, .slice none 0 0] 28 (0, 0))) ∧ Aside0 (w'.heap[w.heap.size + 1]? = some (.cells #[.int .i64 n, v] 28 (0, 0))) ∧ Aside0 (Below w.heap.size w w'))
  case atStart =>
    refine ⟨0, .slice none 0 0, rfl, by omega, ⟨rfl⟩, ⟨Kd.R_nil _ _ _ _ _⟩, ⟨blk_alloc (heap_alloc_new _ _) _⟩, ⟨?_⟩, ⟨below_alloc (below_alloc (Below.refl _ _) _) _⟩⟩
    have := heap_alloc_new (w.alloc (.cells #[Value.int .i64 0, .slice none 0 0] 28)) (.cells #[Value.int .i64 n, .slice none 0 0] 28)
    simpa using this
  case round =>
    obtain ⟨i, v, rfl, hi, HK, HO, HB0, HB1, HB⟩ := hrel
    obtain ⟨A, c, hv⟩ := Kd.R_slice HO.out
    have HV := Aside0.mk hv
    rw [hv] at HB1 HO
    clear hv
    by_cases hlt : i < 128
    · have hcell := (HF.out.below HB.out).cell i hlt
      have hsu := setsUpto_succ F i
      have hsl := setsUpto_len F i
      obtain ⟨b, hb⟩ : ∃ b, F i = b := ⟨_, rfl⟩
      rw [hb] at hcell hsu
      have HSU := Aside0.mk hsu
      clear hb hsu
      have hc1_0 : wr.cell? ⟨w.heap.size + 1, 0, none⟩ = some (.int .i64 n) := (blk_cell HB1.out 0).trans rfl
      have hc1_1 : wr.cell? ⟨w.heap.size + 1, 1, none⟩ = some (.slice A (ints (setsUpto F i)).length c) := (blk_cell HB1.out 1).trans rfl
      have hf1_1 := blk_frozen HB1.out 1
      cases b
      · go_wp2_with fail
        go_quiet (fail)
        go_wp2
        go_roundg (128 - (i + 1))
        case measure => have := HK.out; omega
        case rel =>
          refine ⟨i + 1, .slice A (ints (setsUpto F i)).length c, by go_num, by omega, ⟨rfl⟩, ⟨?_⟩, ⟨by exact blk_drewN HB0.out _⟩, ⟨by exact blk_drewN HB1.out _⟩, ⟨pw_below_drewN HB.out _⟩⟩
          rw [HSU.out]
          simpa using Kd.R_drewN HO.out nq
      · go_wp2_with fail
        go_quiet (fail)
        generalize hW : wr.drewN nq = wq
        have HO' : Aside0 (Kd.R (Kd.int .i64) 3 wq w.heap.size (fun _ => True) (.slice A (ints (setsUpto F i)).length c) (ints (setsUpto F i))) := ⟨by rw [← hW]; exact Kd.R_drewN HO.out _⟩
        have HB0' : Aside0 (wq.heap[w.heap.size]? = some (.cells #[.int .i64 0, .slice none 0 0] 28 (0, 0))) := ⟨by rw [← hW]; exact HB0.out⟩
        have HB1' : Aside0 (wq.heap[w.heap.size + 1]? = some (.cells #[.int .i64 n, .slice A (ints (setsUpto F i)).length c] 28 (0, 0))) := ⟨by rw [← hW]; exact HB1.out⟩
        have HB' : Aside0 (Below w.heap.size w wq) := ⟨by rw [← hW]; exact pw_below_drewN HB.out _⟩
        have hc1_0 : wq.cell? ⟨w.heap.size + 1, 0, none⟩ = some (.int .i64 n) := (blk_cell HB1'.out 0).trans rfl
        have hc1_1 : wq.cell? ⟨w.heap.size + 1, 1, none⟩ = some (.slice A (ints (setsUpto F i)).length c) := (blk_cell HB1'.out 1).trans rfl
        have hf1_1 := blk_frozen HB1'.out 1
        clear hW hcell HO HB0 HB1 HB
        go_wp2_with (first | ((with_reducible refine gate_builtin (b := .append) (xs := #[.tmp 19, .tmp 21]) rfl ?_); at_builtin; refine Kd.R_append (Kd.int .i64) (w0 := w) w.heap.size rfl (.tmp 19) (.tmp 21) 22 3 (.int .i64 0) 8 rfl Try.underlying22 info3 rfl (by decide) (by omega) (.slice A (ints (setsUpto F i)).length c) (ints (setsUpto F i)) (i : Int) [.int .i64 (i : Int)] (fun _ => True) (fun _ => False) rfl rfl ?aP (fun _ hk => hk.elim) ?aF ?aO ?aB ?aS ?aL ?_; (case aP => exact rfl); (case aB => exact HB'.out); (case aF => exact (fun _ _ => trivial)); (case aO => exact HO'.out); (case aS => exact below_size HB'.out); (case aL => simp only [ints, List.length_map]; omega); intro v1 w9 ho hb hg hat; obtain ⟨A1, c1, rfl⟩ := Kd.R_slice ho; have hB0 := Aside0.mk (blk_grown HB0'.out hg (Kd.R_ne HO'.out HB0'.out (by decide))); have hB1 := Aside0.mk (blk_grown HB1'.out hg (Kd.R_ne HO'.out HB1'.out (by decide))); have HO9 := Aside0.mk ho; have HB9 := Aside0.mk hb; have hf9 := blk_frozen hB1.out 1; have hc9 : w9.cell? ⟨w.heap.size + 1, 1, none⟩ = some (.slice A (ints (setsUpto F i)).length c) := (blk_cell hB1.out 1).trans rfl; clear ho hb hg hat hc1_0 hc1_1 hf1_1))
        go_roundg (128 - (i + 1))
        case measure => have := HK.out; omega
        case rel =>
          refine ⟨i + 1, .slice A1 (ints (setsUpto F i) ++ [(i : Int)]).length c1, by go_num, by omega, ⟨rfl⟩, ⟨?_⟩, ⟨blk_far hB0.out (by simp) _⟩, ⟨?_⟩, ⟨below_set HB9.out (by omega)⟩⟩
          · rw [HSU.out]
            simp only [if_true]
            have e : ints (setsUpto F i ++ [i]) = ints (setsUpto F i) ++ [(i : Int)] := by simp [ints]
            rw [e]
            exact Kd.R_mono (Kd.R_far (p := ⟨w.heap.size + 1, 1, none⟩) (Kd.R_types HO9.out hB1.out (by decide)) (fun _ hk => hk.2) _) (fun _ _ => trivial)
          · have := blk_put (cs := #[.int .i64 n, .slice A (ints (setsUpto F i)).length c]) hB1.out 1 (.slice A1 ((ints (setsUpto F i)).length + 1) c1) rfl
            simpa using this
    · obtain rfl : i = 128 := by omega
      have hc1_0 : wr.cell? ⟨w.heap.size + 1, 0, none⟩ = some (.int .i64 n) := (blk_cell HB1.out 0).trans rfl
      have hc1_1 : wr.cell? ⟨w.heap.size + 1, 1, none⟩ = some (.slice A (ints (setsUpto F 128)).length c) := (blk_cell HB1.out 1).trans rfl
      have hc0_0 : wr.cell? ⟨w.heap.size, 0, none⟩ = some (.int .i64 0) := (blk_cell HB0.out 0).trans rfl
      have hc0_1 : wr.cell? ⟨w.heap.size, 1, none⟩ = some (.slice none 0 0) := (blk_cell HB0.out 1).trans rfl
      have hf0_0 := blk_frozen HB0.out 0
      have hf0_1 := blk_frozen HB0.out 1
      go_wp2_with fail
      refine bodyPost_ret (results_cell_row rfl _ _ w.heap.size 28 #[.int .i64 n, .slice A (ints (setsUpto F 128)).length c] (0, 0) _ rfl (by refine blk_put (cs := #[.int .i64 n, .slice none 0 0]) ?_ 1 _ rfl; refine blk_put (cs := #[.int .i64 0, .slice none 0 0]) ?_ 0 _ rfl; exact HB0.out) Try.underlying28 rfl (by kernel_rfl)) rfl ?_
      refine ⟨_, rfl, ?_, by repeat (first | exact HB.out | refine below_set ?_ (Nat.le_refl _))⟩
      exact Kd.R_mono (Kd.R_far (p := ⟨w.heap.size, 1, none⟩) (Kd.R_far (p := ⟨w.heap.size, 0, none⟩) (Kd.R_types HO.out HB0.out (by decide)) (fun _ hk => hk.2) _) (fun _ hk => hk.2) _) (fun _ _ => trivial)
end Go.Proofs.Ytjhjphgdjhahlaa.P
/- impl's 'rename' of a space. -/
namespace Go.Proofs.Ytjhjphgdjhahlaa.P
open Go.RowKit Go.Proofs.YtjhjphgdjhahlaaW.PrintWords Go.Proofs.YtjhjphgdjhahlaaW.PrintLast Go.Proofs.YtjhjphgdjhahlaaW.PrintMore
set_option linter.unusedVariables false
set_option maxHeartbeats 800000
set_option maxRecDepth 100000

theorem items_pure_k (x : Nat) (hx : x < 128) (k : Nat) (hk : 8 ≤ k) : impl_items.f k (x : Int) = some (ints (itemsOf x)) :=
  at_rounds (g := fun k => impl_items.f k (x : Int)) (fun k => impl_items.mono _ k) hk (items_pure x hx)

theorem renamed_loop (names it : List Nat) (hn : ∀ y ∈ names, y < 7) (hi : ∀ i ∈ it, i < names.length) (hl : it.length ≤ 7) (d : Nat) : ∀ (k j o : Nat), o < 128 → j ≤ it.length → it.length - j = d → d < k →
    impl_renamed.l0 k (ints names) (o : Int) (ints it) (it.length : Int) (j : Int) = some ((renL names (it.drop j) o : Nat) : Int) := by
  induction d with
  | zero =>
    intro k j o ho hj hd hk
    obtain ⟨k, rfl⟩ : ∃ m, k = m + 1 := ⟨k - 1, by omega⟩
    have : j = it.length := by omega
    subst this
    simp only [impl_renamed.l0]
    rw [if_neg (by omega), List.drop_length]
    rfl
  | succ d ih =>
    intro k j o ho hj hd hk
    obtain ⟨k, rfl⟩ : ∃ m, k = m + 1 := ⟨k - 1, by omega⟩
    have hlt : j < it.length := by omega
    have ha : it[j] ∈ it := List.getElem_mem hlt
    have h1 := hi _ ha
    have e1 : rd (ints it) (j : Int) = ((it[j] : Nat) : Int) := by rw [rd_ints]; simp [hlt]
    have e2 : rd (ints names) ((it[j] : Nat) : Int) = ((names[it[j]] : Nat) : Int) := by rw [rd_ints]; simp [h1]
    have h2 : names[it[j]] < 7 := hn _ (List.getElem_mem h1)
    simp only [impl_renamed.l0]
    rw [if_pos (by omega), if_pos (by omega), if_pos (by rw [ints_len]; omega), e1, if_pos (by omega), if_pos (by rw [ints_len]; omega), e2, if_pos (by omega), shl_one _ (by omega), go_wth _ _ ho h2, wrap_small (by omega) (by omega)]
    have := ih k (j + 1) (wth o (names[it[j]])) (wth_lt _ _ ho h2) (by omega) (by omega) (by omega)
    rw [show ((j : Int) + 1) = ((j + 1 : Nat) : Int) from by omega, this, List.drop_eq_getElem_cons hlt]
    simp only [renL, List.foldl_cons, List.getElem?_eq_getElem h1, Option.getD_some]

theorem renamed_pure (names : List Nat) (x : Nat) (hn : ∀ y ∈ names, y < 7) (hx : x < 2 ^ names.length) (hx2 : x < 128) : impl_renamed.f 9 (x : Int) (ints names) = some ((renN names x : Nat) : Int) := by
  unfold impl_renamed.f
  rw [items_pure_k x hx2 9 (by omega)]
  simp only [Option.bind_some]
  rw [ints_len]
  have := renamed_loop names (itemsOf x) hn (fun i hi => lt_of_testBit hx (itemsOf_mem hi).2) (itemsOf_len x) (itemsOf x).length 9 0 0 (by omega) (by omega) (by omega) (by have := itemsOf_len x; omega)
  simpa [renN] using this

theorem rename_calls (n : Int) (A : Option Addr) (l : List Int) (c : Nat) (A1 : Option Addr) (names : List Nat) (c1 : Nat) (w : World) (hr : Kd.C (Kd.int .i64) w A l.length l) (hr1 : Kd.C (Kd.int .i64) w A1 (ints names).length (ints names)) (hc1 : (ints names).length ≤ c1)
    (hv : ∀ x ∈ l, 0 ≤ x ∧ x < 2 ^ names.length) (hn7 : names.length ≤ 7) (hn : ∀ y ∈ names, y < 7) :
    Calls Try.prog 97 #[.agg #[.int .i64 n, .slice A l.length c], .slice A1 (ints names).length c1] w fun e w' => ∃ v, e = .returned (.agg #[.int .i64 n, v]) ∧ Kd.R (Kd.int .i64) 3 w' w.heap.size (fun _ => True) v (ints (setsOf (famOf (renI names l)))) ∧ Below w.heap.size w w' := by
  have hu := Try.underlying28
  have HR := Aside0.mk hr
  have HR1 := Aside0.mk hr1
  have HC1 := Aside0.mk hc1
  have HV := Aside0.mk hv
  have HN := Aside0.mk hn
  clear hr hr1 hc1 hv hn
  have hlen := HR.out.2.1
  go_enter Try.func97, Try.ntmps97
  go_wp2_with fail
  go_loopg [13] l.length (fun kq v13 w' => ∃ i : Nat, v13 = .int .i64 i ∧ i ≤ l.length ∧ Aside0 (kq = l.length - i) ∧ Aside0 (FamAt w' (w.heap.size + 1 + 1) (famOf (renI names (l.take i)))) ∧ Aside0 (w'.heap[w.heap.size]? = some (.cells #[.int .i64 n, .slice A l.length c] 28 (0, 0))) ∧ Aside0 (w'.heap[w.heap.size + 1]? = some (.cells #[.int .i64 0, .slice none 0 0] 28 (0, 0))) ∧ Aside0 (Below w.heap.size w w'))
  case atStart =>
    refine ⟨0, rfl, Nat.zero_le _, ⟨rfl⟩, ⟨?_⟩, ⟨blk_alloc (blk_alloc (heap_alloc_new _ _) _) _⟩, ⟨blk_alloc ?_ _⟩, ⟨below_alloc (below_alloc (below_alloc (Below.refl _ _) _) _) _⟩⟩
    · have := FamAt.new ((w.alloc (.cells #[Value.int .i64 n, .slice A l.length c] 28)).alloc (.cells #[Value.int .i64 0, .slice none 0 0] 28))
      simpa using this.ext (fun i _ => by simp [famOf, renI])
    · have := heap_alloc_new (w.alloc (.cells #[Value.int .i64 n, .slice A l.length c] 28)) (.cells #[Value.int .i64 0, .slice none 0 0] 28)
      simpa using this
  case round =>
    obtain ⟨i, rfl, hi, HK, HF, HB0, HB1, HB⟩ := hrel
    by_cases hlt : i < l.length
    · obtain ⟨ad, e1, hx⟩ := int_at HR.out i hlt
      cases e1
      replace hx := pw_cell_below HB.out hx
      have hm := HV.out (l[i]) (List.getElem_mem hlt)
      obtain ⟨m, hm1⟩ := Int.eq_ofNat_of_zero_le hm.1
      have hm3 : m < 2 ^ names.length := by have := hm.2; rw [hm1] at this; exact_mod_cast this
      have hm2 : m < 128 := Nat.lt_of_lt_of_le hm3 (Nat.pow_le_pow_right (n := 2) (by omega) hn7)
      have hgd : l[i]?.getD 0 = (m : Int) := by simp [hlt, hm1]
      rw [hgd] at hx
      have HRP := Aside0.mk (renamed_pure names m HN.out hm3 hm2)
      have hq := renN_lt names HN.out m
      have hsn := famOf_snoc (renI names l) i (by simpa [renI] using hlt) (by simp [renI])
      have e3 : (renI names l)[i]'(by simpa [renI] using hlt) = ((renN names m : Nat) : Int) := by simp [renI, hm1]
      have e4 : ∀ k, (renI names l).take k = renI names (l.take k) := fun k => by simp [renI, List.map_take]
      rw [e3, e4, e4, Int.toNat_natCast] at hsn
      have HSN := Aside0.mk hsn
      clear hm hm1 hm3 hgd hsn e3 e4
      obtain ⟨q, hqq⟩ : ∃ q, renN names m = q := ⟨_, rfl⟩
      rw [hqq] at hq HRP HSN
      clear hqq
      go_wp2_with fail
      have HRr := Aside0.mk (Kd.C_below HR1.out HB.out)
      go_region_with (go_at_call 134; refine (impl_renamed.calls 9 (m : Int) A1 c1 (ints names) (q : Int) _ (Kd.C_drew HRr.out) HC1.out HRP.out).mono ?_; rintro e w1 ⟨rfl, hb⟩; have hF1 := Aside0.mk (HF.out.drew.below hb); have hb0 := Aside0.mk (blk_below (blk_drew HB0.out) hb); have hb1 := Aside0.mk (blk_below (blk_drew HB1.out) hb); have hbb := Aside0.mk (below_step (below_drew1 HB.out) hb); have hcq := hF1.out.cell q hq; have hfq := hF1.out.frozen q; clear hb)
      all_goals
        go_wp2
        go_roundg (l.length - (i + 1))
        case measure => have := HK.out; omega
        case rel =>
          refine ⟨i + 1, by go_num, by omega, ⟨rfl⟩, ⟨?_⟩, ⟨blk_far hb0.out (Nat.ne_of_lt (by show _ < _ + 1 + 1; omega)) _⟩, ⟨blk_far hb1.out (Nat.ne_of_lt (by show _ < _ + 1 + 1; omega)) _⟩, ⟨below_set hbb.out (by omega)⟩⟩
          exact (hF1.out.set q true).ext (fun j _ => HSN.out j)
    · obtain rfl : i = l.length := by omega
      have hc0_0 : wr.cell? ⟨w.heap.size, 0, none⟩ = some (.int .i64 n) := (blk_cell HB0.out 0).trans rfl
      have hc0_1 : wr.cell? ⟨w.heap.size, 1, none⟩ = some (.slice A l.length c) := (blk_cell HB0.out 1).trans rfl
      go_wp2_with fail
      refine (space_calls (w.heap.size + 1 + 1) (famOf (renI names l)) n _ (by have := HF.out; rwa [List.take_length] at this)).mono ?_
      rintro e w1 ⟨v, rfl, ho, hb⟩
      obtain ⟨A2, c2, rfl⟩ := Kd.R_slice ho
      have hb1 := blk_below HB1.out hb
      have hc1_0 : w1.cell? ⟨w.heap.size + 1, 0, none⟩ = some (.int .i64 0) := (blk_cell hb1 0).trans rfl
      have hc1_1 : w1.cell? ⟨w.heap.size + 1, 1, none⟩ = some (.slice none 0 0) := (blk_cell hb1 1).trans rfl
      have hf1_0 := blk_frozen hb1 0
      have hf1_1 := blk_frozen hb1 1
      have HB1' := Aside0.mk hb1
      have HO := Aside0.mk ho
      have HBB := Aside0.mk (below_step HB.out hb)
      clear hb1 ho hb
      go_wp2_with fail
      refine bodyPost_ret (results_cell_row rfl _ _ (w.heap.size + 1) 28 #[.int .i64 n, .slice A2 (ints (setsOf (famOf (renI names l)))).length c2] (0, 0) _ rfl (by refine blk_put (cs := #[.int .i64 n, .slice none 0 0]) ?_ 1 _ rfl; refine blk_put (cs := #[.int .i64 0, .slice none 0 0]) ?_ 0 _ rfl; exact HB1'.out) Try.underlying28 rfl (by kernel_rfl)) rfl ?_
      refine ⟨_, rfl, ?_, by repeat (first | exact HBB.out | refine below_set ?_ (by omega))⟩
      have := HO.out
      exact Kd.R_mono (Kd.R_far (p := ⟨w.heap.size + 1, 1, none⟩) (Kd.R_far (p := ⟨w.heap.size + 1, 0, none⟩) (Kd.R_types (Kd.R_lower this HB.out.size) HB1'.out (by decide)) (fun _ hk => hk.2) _) (fun _ hk => hk.2) _) (fun _ _ => trivial)
end Go.Proofs.Ytjhjphgdjhahlaa.P
/- impl's 'leastNamed': the first one of all spaces that are alike. -/
namespace Go.Proofs.Ytjhjphgdjhahlaa.P
open Go.RowKit Go.Proofs.YtjhjphgdjhahlaaW.PrintWords Go.Proofs.YtjhjphgdjhahlaaW.PrintLast Go.Proofs.YtjhjphgdjhahlaaW.PrintMore
set_option linter.unusedVariables false
set_option maxHeartbeats 1600000
set_option maxRecDepth 100000

/-- the sets with other names, increasing -/
def named (x : List Nat) (l : List Int) : List Int := ints (setsOf (famOf (renI x l)))
def lessOf (l : List Int) (b : List Int) (x : List Nat) : List Int := if cmpL (named x l) b < 0 then named x l else b
def bestOf (l : List Int) (b : List Int) (h : List (List Nat)) : List Int := h.foldl (lessOf l) b
theorem bestOf_snoc (l b : List Int) (h : List (List Nat)) (x : List Nat) : bestOf l b (h ++ [x]) = lessOf l (bestOf l b h) x := by simp [bestOf]
theorem named_len (x : List Nat) (l : List Int) : (named x l).length ≤ 128 := by
  unfold named; rw [ints_len]; exact setsUpto_len _ _
theorem bestOf_len (l : List Int) (h : List (List Nat)) : ∀ b : List Int, b.length ≤ 128 → (bestOf l b h).length ≤ 128 := by
  induction h with
  | nil => intro b hb; exact hb
  | cons a h ih =>
    intro b hb
    simp only [bestOf, List.foldl_cons]
    apply ih
    unfold lessOf
    split
    · exact named_len _ _
    · exact hb

theorem bcell_ {W w1 : World} (hb : Below W.heap.size W w1) : (∀ b o, b < W.heap.size → w1.cell? ⟨b, o, none⟩ = W.cell? ⟨b, o, none⟩) ∧ (∀ b o, b < W.heap.size → w1.frozen? ⟨b, o, none⟩ = W.frozen? ⟨b, o, none⟩) :=
  ⟨fun b o h => hb.cell (p := ⟨b, o, none⟩) h, fun b o h => hb.frozen (p := ⟨b, o, none⟩) h⟩
/-- what the function value holds -/
def NI (n : Nat) (l : List Int) (base bo : Nat) (h : List (List Nat)) (φ : Nat → Prop) (W : World) : Prop :=
  φ bo ∧ ∃ v, W.heap[bo]? = some (.cells #[.int .i64 (n : Int), v] 28 (0, 0)) ∧ Kd.R (Kd.int .i64) 3 W base (fun j => φ j ∧ j ≠ bo) v (bestOf l (named (List.range n) l) h)

theorem named_teller (n : Nat) (hn7 : n ≤ 7) (l : List Int) (As : Option Addr) (cs : Nat) (base bs bo : Nat) (w0 : World) (hv : ∀ x ∈ l, 0 ≤ x ∧ x < 2 ^ n)
    (hbase : base ≤ w0.heap.size) (hbo : bo < w0.heap.size) (hne : bs ≠ bo) (hs : w0.heap[bs]? = some (.cells #[.int .i64 (n : Int), .slice As l.length cs] 28 (0, 0))) (hr : Kd.C (Kd.int .i64) w0 As l.length l) (hrb : ∀ ad, As = some ad → ad.block ≠ bo) :
    Teller 100 #[.pointer (some ⟨bs, 0, none⟩), .pointer (some ⟨bo, 0, none⟩)] (NI n l base bo) w0 (fun j => j = bo) (fun x => x.length = n ∧ ∀ y ∈ x, y < 7) where
  eg := enters_ (by rw [Try.func100]) (by decide) (by decide)
  low := fun j hj => by rw [hj]; exact hbo
  stay := by
    rintro h φ W W' S ⟨h0, v, hb, ho⟩ hk hS
    exact ⟨h0, v, blk_kb hb hk (fun hm => hS _ hm h0), Kd.R_mono (R_kb ho hk (fun k hk2 hm => hS _ hm hk2.1)) (fun _ h => h)⟩
  call := by
    rintro W h φ A c x hk ⟨h0, v, hb, ho⟩ hφ hC hc hA ⟨hx1, hx2⟩
    have hu := Try.underlying28
    have hsW := blk_kb hs hk hne
    have hrW := C_kb hr hk hrb
    obtain ⟨A2, c2, rfl⟩ := Kd.R_slice ho
    have hl2 := bestOf_len l h (named (List.range n) l) (named_len _ _)
    obtain ⟨bl, hbl⟩ : ∃ bl, bestOf l (named (List.range n) l) h = bl := ⟨_, rfl⟩
    rw [hbl] at ho hl2 hb
    have HBL := Aside0.mk hbl
    have HO := Aside0.mk ho
    have HB := Aside0.mk hb
    have HS := Aside0.mk hsW
    have HR := Aside0.mk hrW
    have HC := Aside0.mk hC
    have HCC := Aside0.mk hc
    have HX1 := Aside0.mk hx1
    have HX2 := Aside0.mk hx2
    have HV := Aside0.mk hv
    have HP := Aside0.mk hφ
    have H0 := Aside0.mk h0
    have HL2 := Aside0.mk hl2
    have HZW := Aside0.mk (show w0.heap.size ≤ W.heap.size from hk.size)
    have hc1_0 : W.cell? ⟨bs, 0, none⟩ = some (.int .i64 (n : Int)) := (blk_cell hsW 0).trans rfl
    have hc1_1 : W.cell? ⟨bs, 1, none⟩ = some (.slice As l.length cs) := (blk_cell hsW 1).trans rfl
    clear hbl ho hb hsW hrW hC hc hx1 hx2 hv hφ h0 hl2 hk hs hr hA
    show Calls _ _ #[.slice A (ints x).length c, .pointer (some ⟨bs, 0, none⟩), .pointer (some ⟨bo, 0, none⟩)] _ _
    go_enter Try.func100, Try.ntmps100
    go_wp2_with fail
    refine (rename_calls (n : Int) As l cs A x c _ HR.out HC.out HCC.out (fun y hy => by rw [HX1.out]; exact HV.out y hy) (by rw [HX1.out]; exact hn7) HX2.out).mono ?_
    rintro e w1 ⟨v1, rfl, ho1, hb1⟩
    change Kd.R (Kd.int .i64) 3 w1 W.heap.size (fun _ => True) v1 (named x l) at ho1
    obtain ⟨A1, c1, rfl⟩ := Kd.R_slice ho1
    have HO1 := Aside0.mk ho1
    have hN := named_len x l
    obtain ⟨nl, hnl⟩ : ∃ nl, named x l = nl := ⟨_, rfl⟩
    rw [hnl] at ho1 HO1 hN
    have HNL := Aside0.mk hnl
    have HB1 := Aside0.mk (blk_below HB.out hb1)
    have HO2 := Aside0.mk (Kd.R_below HO.out hb1)
    have HBW := Aside0.mk hb1
    have hc2_0 : w1.cell? ⟨bo, 0, none⟩ = some (.int .i64 (n : Int)) := (blk_cell HB1.out 0).trans rfl
    have hc2_1 : w1.cell? ⟨bo, 1, none⟩ = some (.slice A2 bl.length c2) := (blk_cell HB1.out 1).trans rfl
    clear ho1 hb1 hc1_0 hc1_1
    rw [hnl]
    clear hnl
    have hz1 : bo < w1.heap.size := blk_lt HB1.out
    go_wp2_with fail
    refine (impl_compare.calls (nl.length + 1) (n : Int) A1 c1 nl (n : Int) A2 c2 bl (cmpL nl bl) _ (Kd.C_alloc (Kd.R_reads' HO1.out).2.2 _) (Kd.R_reads' HO1.out).2.1 (Kd.C_alloc (Kd.R_reads' HO2.out).2.2 _) (Kd.R_reads' HO2.out).2.1 (by unfold impl_compare.f; rw [Compare_pure nl bl (by omega) (nl.length + 1) (by omega)]; rfl)).mono ?_
    rintro e w2 ⟨rfl, hb2⟩
    have HB2 := Aside0.mk (blk_below (blk_alloc HB1.out _) hb2)
    have HO3 := Aside0.mk (Kd.R_below (Kd.R_alloc HO1.out _) hb2)
    have HO4 := Aside0.mk (Kd.R_below (Kd.R_alloc HO2.out _) hb2)
    have HBX := Aside0.mk (blk_below (blk_new w1 _) hb2)
    have HBW2 := Aside0.mk (below_step (below_alloc HBW.out _) hb2)
    clear hb2 hc2_0 hc2_1 hz1
    obtain ⟨b, hb⟩ : ∃ b, decide (cmpL nl bl < 0) = b := ⟨_, rfl⟩
    obtain ⟨cv, hcv⟩ : ∃ cv, cmpL nl bl = cv := ⟨_, rfl⟩
    have HCV := Aside0.mk hcv
    rw [hcv] at hb ⊢
    clear hcv
    have HBX0 := (blk_cell HBX.out 0).trans rfl
    have HBX1 := (blk_cell HBX.out 1).trans rfl
    have hf0 := blk_frozen HB2.out 0
    have hf1 := blk_frozen HB2.out 1
    have hc3_0 : w2.cell? ⟨bo, 0, none⟩ = some (.int .i64 (n : Int)) := (blk_cell HB2.out 0).trans rfl
    have hc3_1 : w2.cell? ⟨bo, 1, none⟩ = some (.slice A2 bl.length c2) := (blk_cell HB2.out 1).trans rfl
    simp only [List.getElem?_toArray] at HBX0 HBX1
    cases b
    · have hlt : ¬ cv < 0 := by simpa using hb
      clear hb
      go_wp2_with fail
      go_end0
      refine ⟨rfl, φ, ⟨H0.out, _, HB2.out, ?_⟩, KB.of_below HBW2.out _, fun j hj => .inl hj, fun j hj => Nat.lt_of_lt_of_le (HP.out j hj) HBW2.out.size⟩
      rw [bestOf_snoc, HBL.out]
      unfold lessOf
      rw [HNL.out, HCV.out, if_neg (by omega)]
      exact HO4.out
    · have hlt : cv < 0 := by simpa using hb
      clear hb
      go_wp2_with fail
      go_end0
      have hbo2 : bo < w2.heap.size := blk_lt HB2.out
      have hzw := HZW.out
      refine ⟨rfl, fun j => φ j ∨ (W.heap.size ≤ j ∧ j < w2.heap.size), ⟨.inl H0.out, .slice A1 nl.length c1, ?_, ?_⟩, ?_, ?_, ?_⟩
      · refine blk_put (cs := #[.int .i64 (n : Int), .slice A2 bl.length c2]) ?_ 1 _ rfl
        exact blk_put (cs := #[.int .i64 (n : Int), .slice A2 bl.length c2]) HB2.out 0 _ rfl
      · rw [bestOf_snoc, HBL.out]
        unfold lessOf
        rw [HNL.out, HCV.out, if_pos hlt]
        have h9 : Kd.R (Kd.int .i64) 3 w2 W.heap.size (fun j => (φ j ∨ (W.heap.size ≤ j ∧ j < w2.heap.size)) ∧ j ≠ bo) (.slice A1 nl.length c1) nl :=
          Kd.R_mono (Kd.R_bound HO3.out) (fun k hk => ⟨.inr ⟨hk.2.1, hk.2.2.1⟩, by have := hk.2.1; omega⟩)
        exact Kd.R_lower (Kd.R_far (p := ⟨bo, 1, none⟩) (Kd.R_far (p := ⟨bo, 0, none⟩) h9 (fun _ hk => hk.2) _) (fun _ hk => hk.2) _) (by omega)
      · refine KB.setCell (KB.setCell (KB.of_below HBW2.out _) (p := ⟨bo, 0, none⟩) (.inl ⟨H0.out, .inl rfl⟩) _) (p := ⟨bo, 1, none⟩) (.inl ⟨H0.out, .inl rfl⟩) _
      · rintro j (hj | hj)
        · exact .inl hj
        · exact .inr hj.1
      · rintro j (hj | hj)
        · have := HP.out j hj; have := HBW2.out.size; simp [World.setCell]; omega
        · simpa [World.setCell] using hj.2
theorem firstNames_pure (n : Nat) (hn : n ≤ 7) : impl_firstNames.f 9 (n : Int) = some (ints (List.range n)) := by
  have : ∀ n, n ≤ 7 → impl_firstNames.f 9 ((n : Nat) : Int) = some (ints (List.range n)) := by decide +kernel
  exact this n hn
def leastL (n : Nat) (l : List Int) : List Int := bestOf l (named (List.range n) l) (perms n)
/-- where 'out' lies, once it has been made -/
structure LOut (n : Nat) (l : List Int) (sp : Array Value) (w : World) (bo : Nat) (v : Value) (wx : World) : Prop where
  ge : w.heap.size + 1 + 1 ≤ bo
  s : wx.heap[w.heap.size]? = some (.cells sp 28 (0, 0))
  r : wx.heap[w.heap.size + 1]? = some (.cells #[.int .i64 0, .slice none 0 0] 28 (0, 0))
  o : wx.heap[bo]? = some (.cells #[.int .i64 (n : Int), v] 28 (0, 0))
  row : Kd.R (Kd.int .i64) 3 wx w.heap.size (fun j => j ≠ bo) v (named (List.range n) l)
  b : Below w.heap.size w wx
section
variable {n : Nat} {l : List Int} {sp : Array Value} {w W3 w1 w2 : World} {v : Value} {bo : Nat}
theorem blk_bel {w w1 : World} {g : Nat} {o : Obj} (hb : Below w.heap.size w w1) (h : w.heap[g]? = some o) : w1.heap[g]? = some o := blk_below h hb
theorem blk_new2 (w : World) (o o' : Obj) : ((w.alloc o).alloc o').heap[w.heap.size + 1]? = some o' := by
  have := blk_new (w.alloc o) o'
  simpa using this
theorem blk_new3 (w : World) (o o' o'' : Obj) : (((w.alloc o).alloc o').alloc o'').heap[w.heap.size + 1 + 1]? = some o'' := by
  have := blk_new ((w.alloc o).alloc o') o''
  simpa using this
theorem lout_b (hb2 : Below W3.heap.size W3 w2) (hb1 : Below w.heap.size w W3) (ho : Kd.R (Kd.int .i64) 3 w2 W3.heap.size (fun _ => True) v (named (List.range n) l)) (hs : W3.heap[w.heap.size]? = some (.cells sp 28 (0, 0)))
    (hr : W3.heap[w.heap.size + 1]? = some (.cells #[.int .i64 0, .slice none 0 0] 28 (0, 0))) : LOut n l sp w w2.heap.size v (w2.alloc (.cells #[.int .i64 (n : Int), v] 28)) where
  ge := by have := blk_lt hr; have := hb2.size; omega
  s := blk_alloc (blk_below hs hb2) _
  r := blk_alloc (blk_below hr hb2) _
  o := blk_new _ _
  row := Kd.R_mono (Kd.R_lower (Kd.R_alloc (Kd.R_bound ho) _) hb1.size) (fun k hk => by have := hk.2.2.1; omega)
  b := below_alloc (below_step hb1 hb2) _
theorem lout_a (hb2 : Below W3.heap.size W3 w2) (hb1 : Below w.heap.size w W3) (ho : Kd.R (Kd.int .i64) 3 w2 W3.heap.size (fun _ => True) v (named (List.range n) l)) (hs : W3.heap[w.heap.size]? = some (.cells sp 28 (0, 0)))
    (hr : W3.heap[w.heap.size + 1]? = some (.cells #[.int .i64 0, .slice none 0 0] 28 (0, 0))) (hge : w.heap.size + 1 + 1 ≤ bo) (hz : W3.heap[bo]? = some (.cells #[.int .i64 0, .slice none 0 0] 28 (0, 0))) : LOut n l sp w bo v ((w2.setCell ⟨bo, 0, none⟩ (.int .i64 (n : Int))).setCell ⟨bo, 1, none⟩ v) where
  ge := hge
  s := blk_far (blk_far (blk_below hs hb2) (by show _ ≠ bo; omega) _) (by show _ ≠ bo; omega) _
  r := blk_far (blk_far (blk_below hr hb2) (by show _ ≠ bo; omega) _) (by show _ ≠ bo; omega) _
  o := blk_put (cs := #[.int .i64 (n : Int), .slice none 0 0]) (blk_put (cs := #[.int .i64 0, .slice none 0 0]) (blk_below hz hb2) 0 _ rfl) 1 _ rfl
  row := by
    have hlt := blk_lt hz
    have h9 : Kd.R (Kd.int .i64) 3 w2 W3.heap.size (fun j => j ≠ bo) v (named (List.range n) l) := Kd.R_mono (Kd.R_bound ho) (fun k hk => by have := hk.2.1; omega)
    exact Kd.R_lower (Kd.R_far (p := ⟨bo, 1, none⟩) (Kd.R_far (p := ⟨bo, 0, none⟩) h9 (fun _ hk => hk) _) (fun _ hk => hk) _) hb1.size
  b := below_set (below_set (below_step hb1 hb2) (by show _ ≤ bo; omega)) (by show _ ≤ bo; omega)
end
theorem leastNamed_calls (n : Nat) (h1 : 1 ≤ n) (hn7 : n ≤ 7) (A : Option Addr) (l : List Int) (c : Nat) (w : World) (hr : Kd.C (Kd.int .i64) w A l.length l) (hc : l.length ≤ c) (hl0 : l ≠ []) (hv : ∀ x ∈ l, 0 ≤ x ∧ x < 2 ^ n) (hok : ∀ y ∈ perms n, y.length = n ∧ ∀ z ∈ y, z < 7) :
    Calls Try.prog 53 #[.agg #[.int .i64 n, .slice A l.length c]] w fun e w' => ∃ v, e = .returned (.agg #[.int .i64 n, v]) ∧ Kd.R (Kd.int .i64) 3 w' w.heap.size (fun _ => True) v (leastL n l) ∧ Below w.heap.size w w' := by
  have hu := Try.underlying28
  have HR := Aside0.mk hr
  have HC := Aside0.mk hc
  have HV := Aside0.mk hv
  have HOK := Aside0.mk hok
  have hAl : ∀ ad, A = some ad → ad.block < w.heap.size := by
    intro ad e
    obtain ⟨ad', e1, hx⟩ := int_at hr 0 (by cases l; exact absurd rfl hl0; simp)
    rw [e] at e1; injection e1 with e1; subst e1
    have h8 := World.block_lt_of_cell? w _ hx
    have e8 : (ad.add 0).block = ad.block := by unfold Addr.add; split <;> rfl
    rwa [e8] at h8
  have HAL := Aside0.mk hAl
  have HF := Aside0.mk (firstNames_pure n hn7)
  clear hr hc hv hok hAl hl0
  go_enter Try.func53, Try.ntmps53
  go_upto_region 1 with fail
  go_cut [3] (fun v3 wx => ∃ (bo : Nat) (v : Value), v3 = .pointer (some ⟨bo, 0, none⟩) ∧ Aside0 (LOut n l #[.int .i64 (n : Int), .slice A l.length c] w bo v wx))
  case first =>
    go_region_with (first | (go_at_call 98; refine (impl_firstNames.calls 9 (n : Int) _ _ HF.out).mono ?_; rintro e w1 ⟨v0, rfl, ho, hb⟩; obtain ⟨A1, c1, rfl⟩ := Kd.R_slice ho; have HO := Aside0.mk ho; obtain ⟨hcx, hfx⟩ := bcell_ hb; have hbb : Below w.heap.size w w1 := below_step (by repeat (first | exact Below.refl _ _ | refine below_alloc ?_ _ | refine below_drew ?_ | refine pw_below_drewN ?_ _)) hb; have HBB := Aside0.mk hbb; have HBN := Aside0.mk hb; have hsz0 : w.heap.size < w1.heap.size := (by have := hb.size; simp at this; omega); (first | have hsz : w.heap.size + 1 + 1 < w1.heap.size := (by have := hb.size; simp at this; omega) | have hsz : w.heap.size + 1 < w1.heap.size := (by have := hb.size; simp at this; omega)); clear ho hb hbb) | (go_at_call 97; refine (rename_calls (n : Int) A l c A1 (List.range n) c1 _ (Kd.C_below HR.out (by repeat (first | exact HBB.out | refine below_alloc ?_ _ | refine below_drew ?_ | refine pw_below_drewN ?_ _))) (by repeat (first | exact (Kd.R_reads' HO.out).2.2 | refine Kd.C_alloc ?_ _ | refine Kd.C_drew ?_ | refine Kd.C_drewN ?_ _)) (Kd.R_reads' HO.out).2.1 (by simpa using HV.out) (by simpa using hn7) (by intro y hy; simp at hy; omega)).mono ?_; rintro e w2 ⟨v2, rfl, ho, hb⟩; obtain ⟨A2, c2, rfl⟩ := Kd.R_slice ho; have HO2 := Aside0.mk ho; obtain ⟨hcy, hfy⟩ := bcell_ hb; have HB2 := Aside0.mk hb; clear ho hb))
    all_goals
      go_wp2_with fail
      go_meet
      first
        | exact ⟨_, _, rfl, ⟨lout_b HB2.out HBB.out HO2.out (blk_bel HBN.out (blk_drew (blk_alloc (blk_new _ _) _))) (blk_bel HBN.out (blk_drew (blk_new2 _ _ _)))⟩⟩
        | exact ⟨_, _, rfl, ⟨lout_a HB2.out (below_alloc HBB.out _) HO2.out (blk_alloc (blk_bel HBN.out (blk_drew (blk_alloc (blk_new _ _) _))) _) (blk_alloc (blk_bel HBN.out (blk_drew (blk_new2 _ _ _))) _) (Nat.succ_le_of_lt hsz) (blk_new _ _)⟩⟩
        | exact ⟨_, _, rfl, ⟨lout_a HB2.out HBB.out HO2.out (blk_bel HBN.out (blk_drew (blk_alloc (blk_alloc (blk_new _ _) _) _))) (blk_bel HBN.out (blk_drew (blk_alloc (blk_new2 _ _ _) _))) (Nat.le_refl _) (blk_bel HBN.out (blk_drew (blk_new3 _ _ _ _)))⟩⟩
  case rest =>
    obtain ⟨bo, v, rfl, HLO⟩ := hcut
    have hc0 : wc.cell? ⟨w.heap.size, 0, none⟩ = some (.int .i64 (n : Int)) := (blk_cell HLO.out.s 0).trans rfl
    have hc1 : wc.cell? ⟨w.heap.size, 1, none⟩ = some (.slice A l.length c) := (blk_cell HLO.out.s 1).trans rfl
    go_wp2_with fail
    have hbo : bo < wc.heap.size := blk_lt HLO.out.o
    have hge := HLO.out.ge
    have hcall := orders_calls (named_teller n hn7 l A c w.heap.size w.heap.size bo wc HV.out HLO.out.b.size hbo (by omega) HLO.out.s (Kd.C_below HR.out HLO.out.b) (fun ad e => by have := HAL.out ad e; omega)) n h1 hn7 (φ := fun j => j < wc.heap.size)
      ⟨hbo, v, HLO.out.o, Kd.R_mono (Kd.R_bound HLO.out.row) (fun k hk => ⟨hk.2.2.1, hk.1⟩)⟩ (fun j hj => hj) HOK.out
    refine hcall.mono ?_
    clear hcall hc0 hc1
    rintro e w3 ⟨rfl, φ', ⟨hφ0, v3, hbo3, ho3⟩, hp1, hp2, hkb⟩
    obtain ⟨A3, c3, rfl⟩ := Kd.R_slice ho3
    change Kd.R (Kd.int .i64) 3 w3 w.heap.size (fun j => φ' j ∧ j ≠ bo) (.slice A3 (leastL n l).length c3) (leastL n l) at ho3
    change w3.heap[bo]? = some (.cells #[.int .i64 (n : Int), .slice A3 (leastL n l).length c3] 28 (0, 0)) at hbo3
    have HO3 := Aside0.mk ho3
    have HR3 := Aside0.mk (blk_kb HLO.out.r hkb (fun hx => by have := hx.2; omega))
    have HB3 := Aside0.mk (((KB.of_below HLO.out.b (fun j => j = bo)).then_ hkb (fun j _ hj => hj.2)).to_below (fun j hj he => by omega))
    have hc3_0 : w3.cell? ⟨bo, 0, none⟩ = some (.int .i64 (n : Int)) := (blk_cell hbo3 0).trans rfl
    have hc3_1 : w3.cell? ⟨bo, 1, none⟩ = some (.slice A3 (leastL n l).length c3) := (blk_cell hbo3 1).trans rfl
    have hc4_0 : w3.cell? ⟨w.heap.size + 1, 0, none⟩ = some (.int .i64 0) := (blk_cell HR3.out 0).trans rfl
    have hc4_1 : w3.cell? ⟨w.heap.size + 1, 1, none⟩ = some (.slice none 0 0) := (blk_cell HR3.out 1).trans rfl
    have hf4_0 := blk_frozen HR3.out 0
    have hf4_1 := blk_frozen HR3.out 1
    clear ho3 hbo3 hkb hp1 hp2
    go_wp2_with fail
    refine bodyPost_ret (results_cell_row rfl _ _ (w.heap.size + 1) 28 #[.int .i64 (n : Int), .slice A3 (leastL n l).length c3] (0, 0) _ rfl (by refine blk_put (cs := #[.int .i64 n, .slice none 0 0]) ?_ 1 _ rfl; refine blk_put (cs := #[.int .i64 0, .slice none 0 0]) ?_ 0 _ rfl; exact HR3.out) Try.underlying28 rfl (by kernel_rfl)) rfl ?_
    refine ⟨_, rfl, ?_, below_set (below_set HB3.out (by show _ ≤ w.heap.size + 1; omega)) (by show _ ≤ w.heap.size + 1; omega)⟩
    exact Kd.R_mono (Kd.R_far (p := ⟨w.heap.size + 1, 1, none⟩) (Kd.R_far (p := ⟨w.heap.size + 1, 0, none⟩) (Kd.R_types HO3.out HR3.out (by decide)) (fun _ hk => hk.2) _) (fun _ hk => hk.2) _) (fun _ _ => trivial)
def impl_leastNamed.f (a0_0 : Int) (l0_1 : List Int) : Option (Int × List Int) := if 1 ≤ a0_0 ∧ a0_0 ≤ 7 ∧ l0_1 ≠ [] ∧ l0_1.all (fun x => decide (0 ≤ x ∧ x < 2 ^ a0_0.toNat)) = true then some (a0_0, leastL a0_0.toNat l0_1) else none
theorem impl_leastNamed.calls (a0_0 : Int) (A0_1 : Option Addr) (c0_1 : Nat) (l0_1 : List Int) (r1 : Int) (r2 : List Int) (w : World) (hr0_1 : Kd.C (Kd.int .i64) w A0_1 l0_1.length l0_1) (hc0_1 : l0_1.length ≤ c0_1) (h : impl_leastNamed.f a0_0 l0_1 = some (r1, r2)) :
    Calls Try.prog 53 #[.agg #[.int .i64 a0_0, .slice A0_1 l0_1.length c0_1]] w fun e w' => ∃ v1_ : Value, e = .returned (.agg #[.int .i64 r1, v1_]) ∧ Kd.R (Kd.int .i64) 3 w' w.heap.size (fun _ => True) v1_ r2 ∧ Below w.heap.size w w' := by
  unfold impl_leastNamed.f at h
  split at h
  · rename_i hc
    obtain ⟨h1, h7, h0, ha⟩ := hc
    obtain ⟨n, rfl⟩ := Int.eq_ofNat_of_zero_le (show 0 ≤ a0_0 by omega)
    simp only [Option.some.injEq, Prod.mk.injEq, Int.toNat_natCast] at h ha
    obtain ⟨rfl, rfl⟩ := h
    refine leastNamed_calls n (by omega) (by omega) A0_1 l0_1 c0_1 w hr0_1 hc0_1 h0 (fun x hx => ?_) (fun y hy => perms_ok n (by omega) y hy)
    have := List.all_eq_true.1 ha x hx
    simpa using this
  · cases h
end Go.Proofs.Ytjhjphgdjhahlaa.P
/- A number put into an increasing list. No program. -/
namespace Go.Proofs.Ytjhjphgdjhahlaa.P
open Go.RowKit Go.Proofs.YtjhjphgdjhahlaaW.PrintWords Go.Proofs.YtjhjphgdjhahlaaW.PrintLast Go.Proofs.YtjhjphgdjhahlaaW.PrintMore
set_option linter.unusedVariables false

/-- a number put into an increasing list -/
def putL : List Int → Int → List Int
  | [], v => [v]
  | a :: l, v => if a < v then a :: putL l v else if a = v then a :: l else v :: a :: l
theorem putL_len (l : List Int) (v : Int) : (putL l v).length ≤ l.length + 1 := by
  induction l with
  | nil => simp [putL]
  | cons a l ih =>
    simp only [putL]
    split
    · simpa using ih
    · split <;> simp
/-! Put into the sets of a family. -/
theorem putL_snoc (l : List Int) (v m : Int) (h : v < m) : putL (l ++ [m]) v = putL l v ++ [m] := by
  induction l with
  | nil =>
    have h1 : ¬ m < v := by omega
    have h2 : ¬ m = v := by omega
    simp [putL, h1, h2]
  | cons a l ih =>
    simp only [List.cons_append, putL]
    split
    · rw [ih]; rfl
    · split <;> simp
theorem putL_last (l : List Int) (v : Int) (h : ∀ x ∈ l, x < v) : putL l v = l ++ [v] := by
  induction l with
  | nil => rfl
  | cons a l ih => simp only [putL, if_pos (h a (by simp)), ih (fun x hx => h x (by simp [hx])), List.cons_append]
theorem putL_here (l : List Int) (v : Int) (h : l.Pairwise (· < ·)) (hv : v ∈ l) : putL l v = l := by
  induction l with
  | nil => cases hv
  | cons a l ih =>
    rw [List.pairwise_cons] at h
    simp only [putL]
    rcases List.mem_cons.1 hv with rfl | hv
    · simp
    · rw [if_pos (h.1 v hv), ih h.2 hv]
theorem ints_snoc (l : List Nat) (x : Nat) : ints (l ++ [x]) = ints l ++ [(x : Int)] := by simp [ints]
theorem setsUpto_lt {F : Nat → Bool} {k x : Nat} (h : x ∈ setsUpto F k) : x < k ∧ F x = true := by simpa [setsUpto] using h
theorem setsUpto_congr {F G : Nat → Bool} {k : Nat} (h : ∀ i, i < k → F i = G i) : setsUpto F k = setsUpto G k := by
  unfold setsUpto; exact List.filter_congr (fun x hx => h x (by simpa using hx))
theorem putL_sets (F : Nat → Bool) (k v : Nat) (hv : v < k) : putL (ints (setsUpto F k)) (v : Int) = ints (setsUpto (upd F v true) k) := by
  induction k with
  | zero => omega
  | succ k ih =>
    rw [setsUpto_succ, setsUpto_succ]
    by_cases e : v = k
    · subst e
      have e1 : setsUpto (upd F v true) v = setsUpto F v := setsUpto_congr (fun i hi => by simp [upd]; omega)
      have e2 : upd F v true v = true := by simp [upd]
      rw [e1, if_pos e2]
      have hlt : ∀ x ∈ ints (setsUpto F v), x < (v : Int) := by
        intro x hx; simp only [ints, List.mem_map] at hx; obtain ⟨i, hi, rfl⟩ := hx; have := (setsUpto_lt hi).1; omega
      split
      · rw [ints_snoc]
        have hp : (ints (setsUpto F v) ++ [(v : Int)]).Pairwise (· < ·) := by
          rw [List.pairwise_append]
          refine ⟨?_, by simp, fun a ha b hb => by simp at hb; subst hb; exact hlt a ha⟩
          unfold ints setsUpto
          rw [List.pairwise_map]
          refine List.Pairwise.filter _ ?_
          have := List.pairwise_lt_range (n := v)
          exact this.imp (fun h => by omega)
        exact putL_here _ _ hp (by simp)
      · rw [ints_snoc]; exact putL_last _ _ hlt
    · have hlt : v < k := by omega
      have e2 : upd F v true k = F k := by simp [upd]; omega
      rw [e2]
      split
      · rw [ints_snoc, ints_snoc, putL_snoc _ _ _ (by omega), ih hlt]
      · exact ih hlt
theorem ints_setsUpto_rising (F : Nat → Bool) (k : Nat) : (ints (setsUpto F k)).Pairwise (· < ·) := by
  unfold ints setsUpto
  rw [List.pairwise_map]
  refine List.Pairwise.filter _ ?_
  exact (List.pairwise_lt_range (n := k)).imp (fun h => by omega)
end Go.Proofs.Ytjhjphgdjhahlaa.P
/- The reference's 'l1Put' and 'spPut'. -/
namespace Go.Proofs.Ytjhjphgdjhahlaa.P
open Go.RowKit Go.Proofs.YtjhjphgdjhahlaaW.PrintWords Go.Proofs.YtjhjphgdjhahlaaW.PrintLast Go.Proofs.YtjhjphgdjhahlaaW.PrintMore
set_option linter.unusedVariables false

theorem l1Put_from (l : List Int) (v : Int) (hl : l.length < 1152921504606) : ∀ (j i : Nat), i + j = l.length → Ev (fun k => spec_l1Put.l0 k l v (i : Int)) (l.take i ++ putL (l.drop i) v) := by
  intro j
  induction j with
  | zero =>
    intro i hi
    obtain rfl : i = l.length := by omega
    refine Ev.step (fun k => spec_l1Put.l0.eq_2 _ _ _ k) (Ev.neg (by omega) ?_)
    simp only [Option.bind_some]
    refine Ev.pos (by omega) (Ev.pos (by omega) (Ev.pos (by simp; omega) (Ev.pos (by simp; omega) (Ev.pos (by simp; omega) (Ev.one ?_)))))
    simp [putL]
  | succ j ih =>
    intro i hi
    have hil : i < l.length := by omega
    have ew : wrap64 ((i : Int) + 1) = ((i + 1 : Nat) : Int) := by unfold wrap64; omega
    have er : rd l (i : Int) = l[i] := rd_at l i hil
    refine Ev.step (fun k => spec_l1Put.l0.eq_2 _ _ _ k) (Ev.pos (by omega) (Ev.pos (by omega) ?_))
    rw [er, ew, List.drop_eq_getElem_cons hil]
    simp only [putL]
    by_cases h1 : l[i] < v
    · refine Ev.pos h1 ?_
      have := ih (i + 1) (by omega)
      rw [List.take_succ_eq_append_getElem hil, List.append_assoc] at this
      rw [if_pos h1]; exact this
    · refine Ev.neg h1 ?_
      rw [if_neg h1]
      by_cases h2 : l[i] = v
      · refine Ev.pos h2 (Ev.one ?_)
        rw [if_pos h2, ← List.drop_eq_getElem_cons hil, List.take_append_drop]
      · refine Ev.neg h2 ?_
        rw [if_neg h2]
        simp only [Option.bind_some]
        refine Ev.pos (by omega) (Ev.pos (by simp; omega) (Ev.pos (by simp; omega) (Ev.pos (by simp; omega) (Ev.one ?_))))
        simp only [Int.toNat_natCast, List.nil_append, List.append_assoc, List.singleton_append]
        rw [← List.drop_eq_getElem_cons hil]
theorem l1Put_pure (l : List Int) (v : Int) (hl : l.length < 1152921504606) : Ev (fun k => spec_l1Put.f k l v) (putL l v) :=
  Ev.congr (fun k => spec_l1Put.f.eq_1 k _ _) (by have := l1Put_from l v hl l.length 0 (by omega); simpa using this)
theorem spPut_pure (l : List Int) (v : Int) (hl : l.length < 1152921504606) : Ev (fun k => spec_spPut.f k l v) (putL l v) :=
  Ev.congr (fun k => spec_spPut.f.eq_1 k _ _) (Ev.bind (l1Put_pure l v hl) (Ev.now _))
end Go.Proofs.Ytjhjphgdjhahlaa.P
/- The reference's spaces with other names, and all orders. -/
namespace Go.Proofs.Ytjhjphgdjhahlaa.P
open Go.RowKit Go.Proofs.YtjhjphgdjhahlaaW.PrintWords Go.Proofs.YtjhjphgdjhahlaaW.PrintLast Go.Proofs.YtjhjphgdjhahlaaW.PrintMore
set_option linter.unusedVariables false

def renR (names : List Nat) (x i : Nat) : Nat := renL names ((List.range i).filter fun j => x.testBit j) 0
theorem renR_succ (names : List Nat) (x i : Nat) : renR names x (i + 1) = if x.testBit i then wth (renR names x i) (names[i]?.getD 0) else renR names x i := by
  unfold renR renL
  rw [List.range_succ, List.filter_append]
  cases h : x.testBit i <;> simp [h]
theorem renR_lt (names : List Nat) (hn : ∀ y ∈ names, y < 7) (x i : Nat) : renR names x i < 128 := renL_lt names hn _ 0 (by omega)
theorem filter_range_more (p : Nat → Bool) (n k : Nat) (h : ∀ i, n ≤ i → p i = false) : (List.range (n + k)).filter p = (List.range n).filter p := by
  induction k with
  | zero => rfl
  | succ k ih =>
    rw [← Nat.add_assoc, List.range_succ, List.filter_append, ih]
    simp [h (n + k) (by omega)]
theorem renR_all (names : List Nat) (x n : Nat) (hx : x < 2 ^ n) (hn : n ≤ 7) : renR names x n = renN names x := by
  unfold renR renN itemsOf
  have := filter_range_more (fun j => x.testBit j) n (7 - n) (fun i hi => Nat.testBit_lt_two_pow (Nat.lt_of_lt_of_le hx (Nat.pow_le_pow_right (by omega) hi)))
  rw [show n + (7 - n) = 7 by omega] at this
  rw [this]
section
variable (n : Nat) (hn7 : n ≤ 7) (names : List Nat) (hnl : names.length = n) (hn : ∀ y ∈ names, y < 7) (l : List Int) (hl : l.length < 1152921504606) (hv : ∀ x ∈ l, 0 ≤ x ∧ x < 2 ^ n)
include hn7 hnl hn hl hv
omit hl in
theorem alNamed_l1 (out : List Int) (x i : Nat) (hx : x < 2 ^ n) (r : List Int) (ho : out.length < 1152921504605) (hq : Ev (fun k => spec_alNamed.l0 k (ints names) (putL out ((renN names x : Nat) : Int)) l (l.length : Int) (wrap64 ((i : Int) + 1))) r) :
    ∀ (j c : Nat), c + j = n → Ev (fun k => spec_alNamed.l1 k (ints names) out (x : Int) ((renR names x c : Nat) : Int) l (l.length : Int) (i : Int) (ints names) ((ints names).length : Int) (c : Int)) r := by
  have hx128 : x < 128 := Nat.lt_of_lt_of_le hx (Nat.pow_le_pow_right (n := 2) (by omega) hn7)
  have hil : (ints names).length = n := by rw [ints_len, hnl]
  intro j
  induction j with
  | zero =>
    intro c hc
    obtain rfl : c = n := by omega
    refine Ev.step (fun k => spec_alNamed.l1.eq_2 _ _ _ _ _ _ _ _ _ _ k) (Ev.neg (by omega) ?_)
    rw [renR_all names x c hx hn7]
    exact Ev.bind (spPut_pure out _ (by omega)) hq
  | succ j ih =>
    intro c hc
    have hcn : c < names.length := by omega
    have ew : wrap64 ((c : Int) + 1) = ((c + 1 : Nat) : Int) := by unfold wrap64; omega
    have er : rd (ints names) (c : Int) = ((names[c] : Nat) : Int) := by rw [rd_ints]; simp [hcn]
    have hy : names[c] < 7 := hn _ (List.getElem_mem hcn)
    refine Ev.step (fun k => spec_alNamed.l1.eq_2 _ _ _ _ _ _ _ _ _ _ k) (Ev.pos (by omega) (Ev.pos (by omega) (Ev.pos (by omega) (Ev.bind (a := x.testBit c) (by rw [spIn_nat x c (by omega)]; exact Ev.now _) ?_))))
    have h2 := ih (c + 1) (by omega)
    rw [renR_succ, List.getElem?_eq_getElem hcn, Option.getD_some] at h2
    rw [er, ew]
    cases hb : x.testBit c with
    | true =>
      rw [hb] at h2
      refine Ev.pos rfl (Ev.pos (by omega) ?_)
      rw [shl_one _ (by omega), go_wth _ _ (renR_lt names hn x c) hy]
      simpa using h2
    | false =>
      rw [hb] at h2
      refine Ev.neg (by simp) ?_
      simpa using h2
theorem alNamed_l0 : ∀ (j i : Nat), i + j = l.length → Ev (fun k => spec_alNamed.l0 k (ints names) (ints (setsUpto (famOf (renI names (l.take i))) 128)) l (l.length : Int) (i : Int)) (named names l) := by
  intro j
  induction j with
  | zero =>
    intro i hi
    obtain rfl : i = l.length := by omega
    refine Ev.step (fun k => spec_alNamed.l0.eq_2 _ _ _ _ _ k) (Ev.neg (by omega) (Ev.one ?_))
    rw [List.take_length]; rfl
  | succ j ih =>
    intro i hi
    have hil : i < l.length := by omega
    have ew : wrap64 ((i : Int) + 1) = ((i + 1 : Nat) : Int) := by unfold wrap64; omega
    have hm := hv _ (List.getElem_mem hil)
    obtain ⟨x, hx⟩ := Int.eq_ofNat_of_zero_le hm.1
    have hx2 : x < 2 ^ n := by have := hm.2; rw [hx] at this; exact_mod_cast this
    have er : rd l (i : Int) = (x : Int) := by rw [rd_at l i hil, hx]
    refine Ev.step (fun k => spec_alNamed.l0.eq_2 _ _ _ _ _ k) (Ev.pos (by omega) (Ev.pos (by omega) (Ev.pos (by omega) ?_)))
    rw [er]
    have h0 : ((renR names x 0 : Nat) : Int) = 0 := by simp [renR, renL]
    have := alNamed_l1 n hn7 names hnl hn l hv (ints (setsUpto (famOf (renI names (l.take i))) 128)) x i hx2 (named names l) (by rw [ints_len]; have := setsUpto_len (famOf (renI names (l.take i))) 128; omega) ?_ n 0 (by omega)
    · rw [h0] at this; exact this
    · rw [ew, putL_sets _ 128 _ (renN_lt names hn x)]
      have hsn := famOf_snoc (renI names l) i (by simpa [renI] using hil) (by simp [renI])
      have e3 : (renI names l)[i]'(by simpa [renI] using hil) = ((renN names x : Nat) : Int) := by simp [renI, hx]
      have e4 : ∀ k, (renI names l).take k = renI names (l.take k) := fun k => by simp [renI, List.map_take]
      rw [e3, e4, e4, Int.toNat_natCast] at hsn
      have e5 : setsUpto (upd (famOf (renI names (l.take i))) (renN names x) true) 128 = setsUpto (famOf (renI names (l.take (i + 1)))) 128 := setsUpto_congr (fun j _ => hsn j)
      rw [e5]
      exact ih (i + 1) (by omega)
theorem alNamed_pure : Ev (fun k => spec_alNamed.f k (n : Int) l (ints names)) (named names l) := by
  refine Ev.congr (fun k => spec_alNamed.f.eq_1 k _ _ _) ?_
  have := alNamed_l0 n hn7 names hnl hn l hl hv l.length 0 (by omega)
  have e : ints (setsUpto (famOf (renI names (l.take 0))) 128) = [] := by
    simp [renI, ints, setsUpto, famOf]
  rw [e] at this; exact this
end
end Go.Proofs.Ytjhjphgdjhahlaa.P
/- The reference's 'l1Has'. -/
namespace Go.Proofs.Ytjhjphgdjhahlaa.P
open Go.RowKit Go.Proofs.YtjhjphgdjhahlaaW.PrintWords Go.Proofs.YtjhjphgdjhahlaaW.PrintLast Go.Proofs.YtjhjphgdjhahlaaW.PrintMore
set_option linter.unusedVariables false

theorem l1Has_from (l : List Int) (v : Int) (hl : l.length < 1152921504606) : ∀ (j i : Nat), i + j = l.length → Ev (fun k => spec_l1Has.l0 k v l (l.length : Int) (i : Int)) (decide (v ∈ l.drop i)) := by
  intro j
  induction j with
  | zero =>
    intro i hi
    obtain rfl : i = l.length := by omega
    refine Ev.step (fun k => spec_l1Has.l0.eq_2 _ _ _ _ k) (Ev.neg (by omega) (Ev.one ?_))
    simp
  | succ j ih =>
    intro i hi
    have hil : i < l.length := by omega
    have ew : wrap64 ((i : Int) + 1) = ((i + 1 : Nat) : Int) := by unfold wrap64; omega
    have er : rd l (i : Int) = l[i] := rd_at l i hil
    refine Ev.step (fun k => spec_l1Has.l0.eq_2 _ _ _ _ k) (Ev.pos (by omega) (Ev.pos (by omega) (Ev.pos (by omega) ?_)))
    rw [er, ew, List.drop_eq_getElem_cons hil]
    by_cases h1 : l[i] = v
    · refine Ev.pos h1 (Ev.one ?_)
      simp [h1]
    · refine Ev.neg h1 ?_
      have := ih (i + 1) (by omega)
      have e : decide (v ∈ l[i] :: l.drop (i + 1)) = decide (v ∈ l.drop (i + 1)) := by
        rw [decide_eq_decide, List.mem_cons]
        exact ⟨fun h => h.resolve_left (fun e => h1 e.symm), .inr⟩
      rw [e]; exact this
theorem l1Has_pure (l : List Int) (v : Int) (hl : l.length < 1152921504606) : Ev (fun k => spec_l1Has.f k l v) (decide (v ∈ l)) :=
  Ev.congr (fun k => spec_l1Has.f.eq_1 k _ _) (by have := l1Has_from l v hl l.length 0 (by omega); simpa using this)
end Go.Proofs.Ytjhjphgdjhahlaa.P
/- The reference's 'l1Own'. -/
namespace Go.Proofs.Ytjhjphgdjhahlaa.P
open Go.RowKit Go.Proofs.YtjhjphgdjhahlaaW.PrintWords Go.Proofs.YtjhjphgdjhahlaaW.PrintLast Go.Proofs.YtjhjphgdjhahlaaW.PrintMore
set_option linter.unusedVariables false

theorem l1Own_pure (l : List Int) (h : l.length < 1152921504606) : spec_l1Own.f l = some l := by
  unfold spec_l1Own.f
  simp only [Option.bind_some]
  rw [if_pos (by simp; omega)]; simp
end Go.Proofs.Ytjhjphgdjhahlaa.P
/- The reference's all orders. -/
namespace Go.Proofs.Ytjhjphgdjhahlaa.P
open Go.RowKit Go.Proofs.YtjhjphgdjhahlaaW.PrintWords Go.Proofs.YtjhjphgdjhahlaaW.PrintLast Go.Proofs.YtjhjphgdjhahlaaW.PrintMore
set_option linter.unusedVariables false
set_option maxHeartbeats 1000000

theorem flatMap_len {α β : Type} (l : List α) (f : α → List β) (B : Nat) (h : ∀ x ∈ l, (f x).length ≤ B) : (l.flatMap f).length ≤ l.length * B := by
  induction l with
  | nil => simp
  | cons a l ih =>
    have h1 := h a (by simp)
    have h2 := ih (fun x hx => h x (by simp [hx]))
    rw [List.flatMap_cons, List.length_append, List.length_cons, Nat.succ_mul]; omega
theorem words_len (F : Nat → Bool) (al : Nat) (d : Nat) : ∀ s, (wordsFrom F al d s).length ≤ 7 ^ d := by
  induction d with
  | zero => intro s; simp [wordsFrom]
  | succ d ih =>
    intro s
    simp only [wordsFrom]
    split
    · have := Nat.pow_pos (n := d + 1) (show 0 < 7 by omega)
      simp only [List.length_singleton]; omega
    · have h1 := flatMap_len (itemsOf (outer F s)) (fun i => (wordsFrom F al d (wth s i)).map (i :: ·)) (7 ^ d) (fun x _ => by rw [List.length_map]; exact ih _)
      have h2 := itemsOf_len (outer F s)
      have h3 : (itemsOf (outer F s)).length * 7 ^ d ≤ 7 * 7 ^ d := Nat.mul_le_mul_right _ h2
      rw [Nat.pow_succ, Nat.mul_comm]; omega
theorem famOf_free (m x : Nat) : famOf (ints (List.range m)) x = decide (x < m) := by
  unfold famOf ints
  rw [decide_eq_decide]
  simp only [List.mem_map, List.mem_range]
  constructor
  · rintro ⟨a, h, e⟩; omega
  · intro h; exact ⟨x, h, rfl⟩
theorem wth_lt_iff {n s i : Nat} (hs : s < 2 ^ n) : wth s i < 2 ^ n ↔ i < n := by
  unfold wth
  constructor
  · intro h
    have h1 : 2 ^ i ≤ s ||| 2 ^ i := Nat.right_le_or
    exact (Nat.pow_lt_pow_iff_right (by omega)).1 (Nat.lt_of_le_of_lt h1 h)
  · intro h; exact Nat.or_lt_two_pow hs (Nat.pow_lt_pow_right (by omega) h)
theorem cnt_full (n s : Nat) (hn : n ≤ 7) (hs : s < 2 ^ n) : cnt s = n ↔ s = 2 ^ n - 1 := by
  have : ∀ n, n ≤ 7 → ∀ s, s < 2 ^ n → (cnt s = n ↔ s = 2 ^ n - 1) := by decide +kernel
  exact this n hn s hs
section
variable (n : Nat) (h1 : 1 ≤ n) (hn7 : n ≤ 7)
include h1 hn7
theorem outer_free (s : Nat) (hs : s < 2 ^ n) : itemsOf (outer (famOf (ints (List.range (2 ^ n)))) s) = (List.range n).filter fun i => !s.testBit i := by
  unfold itemsOf
  have e : (List.range 7).filter (fun i => (outer (famOf (ints (List.range (2 ^ n)))) s).testBit i) = (List.range 7).filter (fun i => decide (i < n) && !s.testBit i) := by
    apply List.filter_congr
    intro i hi
    have hi7 : i < 7 := by simpa using hi
    rw [outer_bit, famOf_free]
    have : decide (wth s i < 2 ^ n) = decide (i < n) := by rw [decide_eq_decide]; exact wth_lt_iff hs
    rw [this, Bool.and_comm (decide (i < n))]; simp [hi7]
  have e2 := filter_range_more (fun i => decide (i < n) && !s.testBit i) n (7 - n) (fun i hi => by
    have h9 : ¬ i < n := by omega
    simp [h9])
  rw [show n + (7 - n) = 7 by omega] at e2
  rw [e, e2]
  apply List.filter_congr
  intro i hi
  have : i < n := by simpa using hi
  simp [this]
omit h1 hn7 in
theorem mem_ints (w : List Nat) (x : Nat) : (x : Int) ∈ ints w ↔ x ∈ w := by
  simp only [ints, List.mem_map]
  constructor
  · rintro ⟨a, h, e⟩
    have e2 : a = x := by omega
    subst e2; exact h
  · intro h; exact ⟨x, h, rfl⟩
omit h1 hn7 in
theorem alOrders_loop (w : List Nat) (s : Nat) (hn : n ≤ 7) (hw : w.length ≤ 7) (hb : ∀ x, s.testBit x = decide (x ∈ w)) (G : Nat → List (List Int)) (hGl : ∀ i, (G i).length ≤ 1000000)
    (hih : ∀ x, x < n → s.testBit x = false → Ev (fun k => spec_alOrders.f k (ints w ++ [(x : Int)]) (n : Int)) (G x)) :
    ∀ (m x : Nat), x + m = n → Ev (fun k => spec_alOrders.l0 k (ints w) (n : Int) (((List.range x).filter fun i => !s.testBit i).flatMap G) (x : Int)) (((List.range n).filter fun i => !s.testBit i).flatMap G) := by
  have hwi : (ints w).length ≤ 7 := by rw [ints_len]; exact hw
  intro m
  induction m with
  | zero =>
    intro x hx
    obtain rfl : x = n := by omega
    exact Ev.step (fun k => spec_alOrders.l0.eq_2 _ _ _ _ k) (Ev.neg (by omega) (Ev.now _))
  | succ m ihm =>
    intro x hx
    have hxn : x < n := by omega
    have ew : wrap64 ((x : Int) + 1) = ((x + 1 : Nat) : Int) := by unfold wrap64; omega
    have hh : decide ((x : Int) ∈ ints w) = s.testBit x := by
      rw [hb, decide_eq_decide]; exact mem_ints w x
    have h2 := ihm (x + 1) (by omega)
    rw [List.range_succ, List.filter_append, List.flatMap_append] at h2
    refine Ev.step (fun k => spec_alOrders.l0.eq_2 _ _ _ _ k) (Ev.pos (by omega) (Ev.bind (l1Has_pure _ _ (by omega)) ?_))
    rw [hh, ew]
    cases hbx : s.testBit x with
    | true =>
      refine Ev.pos rfl ?_
      simpa [hbx] using h2
    | false =>
      refine Ev.neg (by simp) ?_
      rw [l1Own_pure _ (by omega)]
      simp only [Option.bind_some]
      have h4 := flatMap_len ((List.range x).filter fun i => !s.testBit i) G 1000000 (fun i _ => hGl i)
      have h5 := List.length_filter_le (fun i => !s.testBit i) (List.range x)
      have h7 := hGl x
      simp only [List.length_range] at h5
      have h6 : ((List.range x).filter fun i => !s.testBit i).length * 1000000 ≤ 7 * 1000000 := Nat.mul_le_mul_right _ (by omega)
      refine Ev.pos (by omega) (Ev.bind (hih x hxn hbx) (Ev.pos (by omega) ?_))
      simpa [hbx] using h2
theorem alOrders_from : ∀ (j : Nat) (w : List Nat) (s : Nat), w.length + j = n → (∀ x, s.testBit x = decide (x ∈ w)) → s < 2 ^ n → cnt s = w.length →
    Ev (fun k => spec_alOrders.f k (ints w) (n : Int)) ((wordsFrom (famOf (ints (List.range (2 ^ n)))) (2 ^ n - 1) (8 - w.length) s).map fun y => ints (w ++ y)) := by
  intro j
  induction j with
  | zero =>
    intro w s hw hb hs hc
    have hal : s = 2 ^ n - 1 := (cnt_full n s hn7 hs).1 (by omega)
    clear hs
    refine Ev.step (fun k => spec_alOrders.f.eq_2 _ _ k) (Ev.pos (by rw [ints_len]; omega) ?_)
    rw [l1Own_pure _ (by rw [ints_len]; omega)]
    refine Ev.one ?_
    rw [show 8 - w.length = (7 - w.length) + 1 by omega]
    simp [wordsFrom, hal]
  | succ j ih =>
    intro w s hw hb hs hc
    have hwn : w.length ≠ n := by omega
    have hw7 : w.length ≤ 7 := by omega
    have hne : s ≠ 2 ^ n - 1 := fun e => by rw [(cnt_full n s hn7 hs).2 e] at hc; exact hwn hc.symm
    have hs128 : s < 128 := Nat.lt_of_lt_of_le hs (Nat.pow_le_pow_right (n := 2) (by omega) hn7)
    obtain ⟨d, hd⟩ : ∃ d, 8 - w.length = d + 1 := ⟨7 - w.length, by omega⟩
    have hd7 : d ≤ 7 := by omega
    obtain ⟨G, hG⟩ : ∃ G : Nat → List (List Int), (fun i => (wordsFrom (famOf (ints (List.range (2 ^ n)))) (2 ^ n - 1) d (wth s i)).map fun y => ints (w ++ i :: y)) = G := ⟨_, rfl⟩
    have hp7 : 7 ^ d ≤ 1000000 := Nat.le_trans (Nat.pow_le_pow_right (by omega) hd7) (by decide)
    have hGl : ∀ i, (G i).length ≤ 1000000 := fun i => by
      rw [← hG]; simp only [List.length_map]
      exact Nat.le_trans (words_len _ _ _ _) hp7
    have htot : (wordsFrom (famOf (ints (List.range (2 ^ n)))) (2 ^ n - 1) (8 - w.length) s).map (fun y => ints (w ++ y)) = ((List.range n).filter fun i => !s.testBit i).flatMap G := by
      rw [hd]; simp only [wordsFrom, if_neg hne]
      rw [outer_free n h1 hn7 s hs, List.map_flatMap, ← hG]
      congr 1; funext i; rw [List.map_map]; rfl
    rw [htot]
    refine Ev.step (fun k => spec_alOrders.f.eq_2 _ _ k) (Ev.neg (fun e => hwn (by rw [ints_len] at e; exact_mod_cast e)) ?_)
    refine alOrders_loop n w s hn7 hw7 hb G hGl (fun x hxn hbx => ?_) n 0 (Nat.zero_add n)
    have hlen : (w ++ [x]).length = w.length + 1 := by simp
    have hj : (w ++ [x]).length + j = n := by rw [hlen]; omega
    have h3 := ih (w ++ [x]) (wth s x) hj (fun z => by
      unfold wth; rw [Nat.testBit_or, hb, Nat.testBit_two_pow]
      have hm : (z ∈ w ++ [x]) ↔ (z ∈ w ∨ x = z) := by rw [List.mem_append, List.mem_singleton, eq_comm (a := z)]
      rw [Bool.eq_iff_iff, Bool.or_eq_true, decide_eq_true_iff, decide_eq_true_iff, decide_eq_true_iff, hm]) ((wth_lt_iff hs).2 hxn) (by rw [cnt_wth s x hs128 (Nat.lt_of_lt_of_le hxn hn7) hbx, hc, hlen])
    have e1 : 8 - (w ++ [x]).length = d := by rw [hlen]; omega
    have e2 : (wordsFrom (famOf (ints (List.range (2 ^ n)))) (2 ^ n - 1) d (wth s x)).map (fun y => ints ((w ++ [x]) ++ y)) = G x := by
      rw [← hG]
      apply List.map_congr_left
      intro y _
      rw [List.append_assoc]; rfl
    rw [e1, e2, ints_snoc] at h3
    exact h3
theorem alOrders_pure : Ev (fun k => spec_alOrders.f k [] (n : Int)) ((perms n).map ints) := by
  have := alOrders_from n h1 hn7 n [] 0 (by simp) (by simp) (Nat.pow_pos (by omega)) (by decide)
  exact this
end
end Go.Proofs.Ytjhjphgdjhahlaa.P
/- The reference's 'alLeast': the first sets of all names. -/
namespace Go.Proofs.Ytjhjphgdjhahlaa.P
open Go.RowKit Go.Proofs.YtjhjphgdjhahlaaW.PrintWords Go.Proofs.YtjhjphgdjhahlaaW.PrintLast Go.Proofs.YtjhjphgdjhahlaaW.PrintMore
set_option linter.unusedVariables false
set_option maxHeartbeats 1600000
set_option maxRecDepth 100000

theorem alLeast_calls (n : Nat) (h1 : 1 ≤ n) (hn7 : n ≤ 7) (A : Option Addr) (l : List Int) (c : Nat) (w : World) (hr : Kd.C (Kd.int .i64) w A l.length l) (hc : l.length ≤ c) (hl : l.length ≤ 128) (hv : ∀ x ∈ l, 0 ≤ x ∧ x < 2 ^ n) :
    Calls Try.prog 49 #[.agg #[.int .i64 n, .slice A l.length c]] w fun e w' => ∃ v0_ : Value, e = .returned (v0_) ∧ Kd.R (Kd.int .i64) 3 w' w.heap.size (fun _ => True) v0_ (bestOf l l (perms n)) ∧ Below w.heap.size w w' := by
  have hu := Try.underlying28
  obtain ⟨k0, hk0⟩ := Ev.rounds (alOrders_pure n h1 hn7)
  have HK0 := Aside0.mk hk0
  have HR := Aside0.mk hr
  have HC := Aside0.mk hc
  have HL := Aside0.mk hl
  have HV := Aside0.mk hv
  clear hr hc hl hv hk0
  go_enter Try.func49, Try.ntmps49
  go_wp2_with fail
  refine (spec_alOrders.calls k0 none 0 [] (n : Int) _ _ (Kd.C_nil _ _) (Nat.le_refl _) HK0.out).mono ?_
  rintro e w1 ⟨v0, rfl, hN, hb⟩
  obtain ⟨A0, c0, rfl⟩ := Kd.N_slice hN
  have HN := Aside0.mk (Kd.N_reads' hN).2.2
  have HB := Aside0.mk (below_step (below_alloc (Below.refl _ w) _) hb)
  have HS := Aside0.mk (blk_below (blk_new w _) hb)
  have hpl := words_len (famOf (ints (List.range (2 ^ n)))) (2 ^ n - 1) 8 0
  have hpl2 : ((perms n).map ints).length ≤ 5764801 := by rw [List.length_map]; exact hpl
  have elen : ((perms n).map ints).length = (perms n).length := by simp
  rw [elen] at HN hpl2
  have HPL := Aside0.mk hpl2
  have hPOK := perms_ok n hn7
  have HPOK := Aside0.mk hPOK
  clear hN hb hpl elen hPOK
  go_wp2_with fail
  obtain ⟨P, hP⟩ : ∃ P, perms n = P := ⟨_, rfl⟩
  have HPQ := Aside0.mk hP
  rw [hP] at HN HPL HPOK hpl2 ⊢
  clear hP HK0
  go_loopg [3, 13] P.length (fun kq v3 v13 w' => ∃ (i : Nat) (B : Option Addr) (cb : Nat), v13 = .int .i64 i ∧ v3 = .slice B (bestOf l l (P.take i)).length cb ∧ i ≤ P.length ∧ Aside0 (kq = P.length - i) ∧ Aside0 (Kd.C (Kd.int .i64) w' B (bestOf l l (P.take i)).length (bestOf l l (P.take i))) ∧ Aside0 ((bestOf l l (P.take i)).length ≤ cb) ∧ Aside0 (Below w1.heap.size w1 w'))
  case atStart => exact ⟨0, A, c, rfl, rfl, Nat.zero_le _, ⟨rfl⟩, ⟨Kd.C_below HR.out HB.out⟩, HC, ⟨Below.refl _ _⟩⟩
  case round =>
    obtain ⟨i, B, cb, rfl, rfl, hi, HK, HBC, HCB, HBW⟩ := hrel
    have hbl : (bestOf l l (P.take i)).length ≤ 128 := bestOf_len l (P.take i) l HL.out
    by_cases hlt : i < P.length
    · obtain ⟨x, hx⟩ : ∃ x, P[i] = x := ⟨_, rfl⟩
      have hxP : x ∈ P := by rw [← hx]; exact List.getElem_mem hlt
      obtain ⟨hx1, hx2⟩ := HPOK.out x hxP
      obtain ⟨ad, cc, e1, -, hK, hcell⟩ := Kd.C_get HN.out [] (i : Int) (by omega) (by omega)
      have eg : (P.map ints).getD ((i : Int)).toNat [] = ints x := by simp [hlt, hx]
      rw [eg] at hK
      obtain ⟨A2, c2, rfl, hc2, hC2⟩ := hK
      cases e1
      have hx0 := hcell 0 _ rfl
      replace hx0 := pw_cell_below HBW.out hx0
      simp only [Int.toNat_natCast] at hx0
      have esz : i * (Kd.slice 3 (Kd.int .i64)).sz + 0 = i := by show i * 1 + 0 = i; omega
      rw [esz] at hx0
      have HC2 := Aside0.mk hC2
      have HCC2 := Aside0.mk hc2
      have hbs : bestOf l l (P.take (i + 1)) = lessOf l (bestOf l l (P.take i)) x := by
        rw [List.take_succ_eq_append_getElem hlt, bestOf_snoc, hx]
      have HBS := Aside0.mk hbs
      obtain ⟨bl, hbl2⟩ : ∃ bl, bestOf l l (P.take i) = bl := ⟨_, rfl⟩
      rw [hbl2] at HBC HCB hbl HBS ⊢
      obtain ⟨k1, hk1⟩ := Ev.rounds (alNamed_pure n hn7 x hx1 hx2 l (by have := HL.out; omega) HV.out)
      have hnl := named_len x l
      have HK1 := Aside0.mk hk1
      obtain ⟨nl, hnl2⟩ : ∃ nl, named x l = nl := ⟨_, rfl⟩
      have HNL := Aside0.mk hnl2
      rw [hnl2] at HK1 hnl
      obtain ⟨k2, hk2⟩ := Ev.rounds (alBefore_pure nl bl (by omega) (by omega))
      have HK2 := Aside0.mk hk2
      have hs0 : wr.cell? ⟨w.heap.size, 0, none⟩ = some (.int .i64 (n : Int)) := (blk_cell (blk_below HS.out HBW.out) 0).trans rfl
      have hs1 : wr.cell? ⟨w.heap.size, 1, none⟩ = some (.slice A l.length c) := (blk_cell (blk_below HS.out HBW.out) 1).trans rfl
      clear hx hxP hx1 hx2 hcell eg hC2 hc2 esz hbs hbl2 hk1 hnl2 hk2
      go_wp2_with fail
      refine (spec_alNamed.calls k1 (n : Int) A c l A2 c2 (ints x) nl _ (Kd.C_below (Kd.C_below HR.out HB.out) HBW.out) HC.out (Kd.C_below HC2.out HBW.out) HCC2.out HK1.out).mono ?_
      rintro e w2 ⟨v1, rfl, ho, hb⟩
      obtain ⟨A3, c3, rfl⟩ := Kd.R_slice ho
      have HO := Aside0.mk (Kd.R_reads' ho).2
      have HB2 := Aside0.mk hb
      clear ho hb hs0 hs1 hx0
      go_wp2_with fail
      refine (spec_alBefore.calls k2 A3 c3 nl B cb bl _ _ HO.out.2 HO.out.1 (Kd.C_below HBC.out HB2.out) HCB.out HK2.out).mono ?_
      rintro e w3 ⟨rfl, hb⟩
      have HB3 := Aside0.mk hb.below
      clear hb
      by_cases hcm : cmpL nl bl < 0
      · have hd : decide (cmpL nl bl < 0) = true := by simpa using hcm
        have HCM := Aside0.mk hcm
        rw [hd]
        clear hcm hd
        go_wp2_with fail
        go_roundg (P.length - (i + 1))
        case measure => have := HK.out; omega
        case rel =>
          have e9 : bestOf l l (P.take (i + 1)) = nl := by rw [HBS.out]; unfold lessOf; rw [HNL.out, if_pos HCM.out]
          refine ⟨i + 1, A3, c3, by go_num, by rw [e9], by omega, ⟨rfl⟩, ⟨by rw [e9]; exact Kd.C_below HO.out.2 HB3.out⟩, ⟨by rw [e9]; exact HO.out.1⟩, ⟨below_step (below_step HBW.out HB2.out) HB3.out⟩⟩
      · have hd : decide (cmpL nl bl < 0) = false := by simpa using hcm
        have HCM := Aside0.mk hcm
        rw [hd]
        clear hcm hd
        go_wp2_with fail
        go_roundg (P.length - (i + 1))
        case measure => have := HK.out; omega
        case rel =>
          have e9 : bestOf l l (P.take (i + 1)) = bl := by rw [HBS.out]; unfold lessOf; rw [HNL.out, if_neg (by have := HCM.out; omega)]
          refine ⟨i + 1, B, cb, by go_num, by rw [e9], by omega, ⟨rfl⟩, ⟨by rw [e9]; exact Kd.C_below (Kd.C_below HBC.out HB2.out) HB3.out⟩, ⟨by rw [e9]; exact HCB.out⟩, ⟨below_step (below_step HBW.out HB2.out) HB3.out⟩⟩
    · obtain rfl : i = P.length := by omega
      rw [List.take_length] at HBC HCB hbl ⊢
      obtain ⟨bl, hbl2⟩ : ∃ bl, bestOf l l P = bl := ⟨_, rfl⟩
      have HBQ := Aside0.mk hbl2
      rw [hbl2] at HBC HCB hbl ⊢
      clear hbl2
      go_wp2_with fail
      refine (spec_l1Own.calls B cb bl bl _ HBC.out HCB.out (l1Own_pure bl (by omega))).mono ?_
      rintro e w2 ⟨v1, rfl, ho, hb⟩
      obtain ⟨A3, c3, rfl⟩ := Kd.R_slice ho
      have HO := Aside0.mk ho
      have HB2 := Aside0.mk hb
      clear ho hb
      go_wp2_with fail
      go_ret
      rw [HPQ.out, HBQ.out]
      refine ⟨.slice A3 bl.length c3, rfl, Kd.R_lower HO.out (Nat.le_trans HB.out.size HBW.out.size), below_step (below_step HB.out HBW.out) HB2.out⟩
def spec_alLeast.f (a0_0 : Int) (l0_1 : List Int) : Option (List Int) := if 1 ≤ a0_0 ∧ a0_0 ≤ 7 ∧ l0_1.length ≤ 128 ∧ l0_1.all (fun x => decide (0 ≤ x ∧ x < 2 ^ a0_0.toNat)) = true then some (bestOf l0_1 l0_1 (perms a0_0.toNat)) else none
theorem spec_alLeast.calls (a0_0 : Int) (A0_1 : Option Addr) (c0_1 : Nat) (l0_1 : List Int) (r : List Int) (w : World) (hr0_1 : Kd.C (Kd.int .i64) w A0_1 l0_1.length l0_1) (hc0_1 : l0_1.length ≤ c0_1) (h : spec_alLeast.f a0_0 l0_1 = some r) :
    Calls Try.prog 49 #[.agg #[.int .i64 a0_0, .slice A0_1 l0_1.length c0_1]] w fun e w' => ∃ v0_ : Value, e = .returned (v0_) ∧ Kd.R (Kd.int .i64) 3 w' w.heap.size (fun _ => True) v0_ r ∧ Below w.heap.size w w' := by
  unfold spec_alLeast.f at h
  split at h
  · rename_i hc
    obtain ⟨h1, h7, hl, ha⟩ := hc
    obtain ⟨n, rfl⟩ := Int.eq_ofNat_of_zero_le (show 0 ≤ a0_0 by omega)
    simp only [Option.some.injEq, Int.toNat_natCast] at h ha
    subst h
    refine alLeast_calls n (by omega) (by omega) A0_1 l0_1 c0_1 w hr0_1 hc0_1 hl (fun x hx => ?_)
    have := List.all_eq_true.1 ha x hx
    simpa using this
  · cases h
end Go.Proofs.Ytjhjphgdjhahlaa.P
-- PRINTED by print.py (a twelfth state) out of the translation. Not trusted: Lean checks it.
namespace Go.Proofs.Ytjhjphgdjhahlaa.P
open Go.RowKit Go.Proofs.YtjhjphgdjhahlaaW.PrintWords Go.Proofs.YtjhjphgdjhahlaaW.PrintLast Go.Proofs.YtjhjphgdjhahlaaW.PrintMore
attribute [local go_sem] max2_int min2_int max_two min_two max_three min_three max_four min_four   -- for this text's walks alone
set_option linter.unusedVariables false
set_option linter.unusedSimpArgs false

/-! ### spec_CountUpToNames: function 44 -/
def spec_CountUpToNames.l0 : Nat → Int → List (S28) → Int → Int → Option (Int × Bool)
  | 0, _, _, _, _ => none
  | k + 1, x4, x11, x12, x13 => if x13 < x12 then (if 0 ≤ x13 then (if x13 < (x11.length : Int) then ((spec_alLeast.f ((rd_T28 x11 x13).f0) ((rd_T28 x11 x13).f1)).bind fun t304 => ((spec_l1Same.f k t304 ((rd_T28 x11 x13).f1)).bind fun t307 => (if t307 = true then (spec_CountUpToNames.l0 k (wrap64 (x4 + 1)) x11 x12 (wrap64 (x13 + 1))) else (spec_CountUpToNames.l0 k x4 x11 x12 (wrap64 (x13 + 1)))))) else (none)) else (none)) else (some (x4, true))
def spec_CountUpToNames.f (k : Nat) (a0 : Int) : Option (Int × Bool) := (spec_l1In.f a0 1 4).bind fun t298 => (if t298 = true then ((spec_alSpaces.f k a0).bind fun t299 => (spec_CountUpToNames.l0 k 0 t299 (t299.length : Int) 0)) else (some (0, false)))
theorem spec_CountUpToNames.mono_l : ∀ k, (∀ y0 y1 y2 y3, LeO (spec_CountUpToNames.l0 k y0 y1 y2 y3) (spec_CountUpToNames.l0 (k + 1) y0 y1 y2 y3))
  | 0 => fun _ _ _ _ r h => by simp [spec_CountUpToNames.l0] at h
  | k + 1 => by
    have ih0 := spec_CountUpToNames.mono_l k
    · intro y0 y1 y2 y3
      unfold spec_CountUpToNames.l0
      repeat' first
      | (with_reducible exact ih0 _ _ _ _)
      | (with_reducible exact spec_alSpaces.mono _ _)
      | (with_reducible exact spec_l1Same.mono _ _ _)
      | (with_reducible exact LeO.refl _)
      | (with_reducible exact LeO.none _)
      | (with_reducible refine LeO.ite ?_ ?_)
      | (with_reducible refine LeO.bind ?_ (fun _ => ?_))
      | exact ih0 _ _ _ _
      | exact spec_alSpaces.mono _ _
      | exact spec_l1Same.mono _ _ _
      | exact LeO.none _
      | refine LeO.ite ?_ ?_
      | refine LeO.bind ?_ (fun _ => ?_)
theorem spec_CountUpToNames.mono : ∀ a0 k, LeO (spec_CountUpToNames.f k a0) (spec_CountUpToNames.f (k + 1) a0) := by
  intro a0 k
  have ih0 := spec_CountUpToNames.mono_l k
  unfold spec_CountUpToNames.f
  repeat' first
      | (with_reducible exact ih0 _ _ _ _)
      | (with_reducible exact spec_alSpaces.mono _ _)
      | (with_reducible exact spec_l1Same.mono _ _ _)
      | (with_reducible exact LeO.refl _)
      | (with_reducible exact LeO.none _)
      | (with_reducible refine LeO.ite ?_ ?_)
      | (with_reducible refine LeO.bind ?_ (fun _ => ?_))
      | exact ih0 _ _ _ _
      | exact spec_alSpaces.mono _ _
      | exact spec_l1Same.mono _ _ _
      | exact LeO.none _
      | refine LeO.ite ?_ ?_
      | refine LeO.bind ?_ (fun _ => ?_)
set_option maxHeartbeats 8000000 in
set_option maxRecDepth 100000 in
theorem spec_CountUpToNames.calls (k : Nat) (a0 : Int) (r1 : Int) (r2 : Bool) (w : World) (h : spec_CountUpToNames.f k a0 = some (r1, r2)) :
    Calls Try.prog 44 #[.int .i64 a0] w fun e w' => e = .returned (.tuple #[.int .i64 r1, .bool r2]) ∧ Below w.heap.size w w' := by
  have hu28 := Try.underlying28
  have HB := Aside0.mk (Below.refl w.heap.size w)
  have H : ((spec_l1In.f a0 1 4).bind fun t298 => (if t298 = true then ((spec_alSpaces.f k a0).bind fun t299 => (spec_CountUpToNames.l0 k 0 t299 (t299.length : Int) 0)) else (some (0, false)))) = some (r1, r2) := h
  clear h
  replace H := Option.bind_eq_some_iff.mp H
  obtain ⟨t298, A20, H⟩ := H
  replace H : (if t298 = true then ((spec_alSpaces.f k a0).bind fun t299 => (spec_CountUpToNames.l0 k 0 t299 (t299.length : Int) 0)) else (some (0, false))) = some (r1, r2) := H
  have A2 := Aside0.mk A20
  clear A20
  by_cases c3 : t298 = true
  · subst c3
    have H1 : ((spec_alSpaces.f k a0).bind fun t299 => (spec_CountUpToNames.l0 k 0 t299 (t299.length : Int) 0)) = some (r1, r2) := by rw [if_pos rfl] at H; exact H
    clear H
    have H := H1
    clear H1
    replace H := Option.bind_eq_some_iff.mp H
    obtain ⟨t299, A40, H⟩ := H
    replace H : (spec_CountUpToNames.l0 k 0 t299 (t299.length : Int) 0) = some (r1, r2) := H
    have A4 := Aside0.mk A40
    clear A40
    have H' := Aside0.mk H
    clear H
    go_enter Try.func44, Try.ntmps44
    go_wp2_with (first | ((with_reducible refine gate_callee (f := 83) rfl ?_); refine goesL_ (some 8) rfl rfl Try.func83 (by kernel_rfl) rfl #[.int .i64 a0, .int .i64 1, .int .i64 4] rfl (by (try simp only [List.map_toArray, List.map_cons, List.map_nil]); first | done | rfl | (simp only [List.length_drop, List.length_take]; rfl)) ?_; (with_reducible refine (spec_l1In.calls a0 1 4 true _ A2.out).mono ?_); rintro e w' ⟨rfl, ⟨nd, rfl⟩⟩; refine ⟨_, rfl, ?_⟩) | ((with_reducible refine gate_callee (f := 87) rfl ?_); refine goesL_ (some 11) rfl rfl Try.func87 (by kernel_rfl) rfl #[.int .i64 a0] rfl (by (try simp only [List.map_toArray, List.map_cons, List.map_nil]); first | done | rfl | (simp only [List.length_drop, List.length_take]; rfl)) ?_; (with_reducible refine (spec_alSpaces.calls k a0 t299 _ A4.out).mono ?_); rintro e w5 ⟨v300, rfl, ho0, hb⟩; refine ⟨_, rfl, ?_⟩; have n0_ := Aside0.mk (Kd.N_lower (Kd.N_mono (ok' := fun k_ => True) ho0 (fun k_ hk_ => trivial)) (below_size (by repeat (first | (with_reducible first | exact HB.out | apply below_alloc | apply pw_below_drewN | apply below_drew1) | exact HB.out)))); have n1_ := Aside0.mk (below_step (by repeat (first | (with_reducible first | exact HB.out | apply below_alloc | apply pw_below_drewN | apply below_drew1) | exact HB.out)) hb); clear HB; have HO301 := n0_; have HB := n1_; clear n0_ n1_; (try clear hb); (try clear hb2); (try clear hk); (try clear hi); (try clear ho0); obtain ⟨Ao6, co6, eo6⟩ := Kd.N_slice HO301.out; subst eo6))
    go_loopg [4, 13] k (fun kq v4 v13 w' => ∃ (x4_1 : Int) (x13_1 : Int), v4 = .int .i64 x4_1 ∧ v13 = .int .i64 x13_1 ∧ Aside0 (spec_CountUpToNames.l0 kq x4_1 t299 (t299.length : Int) x13_1 = some (r1, r2)) ∧ Aside0 (kq ≤ k) ∧ Aside0 (Kd.N k28 28 w' w.heap.size (fun _ => True) (.slice Ao6 t299.length co6) t299) ∧ Aside0 (Below w.heap.size w w'))
    case atStart => exact ⟨(0), (0), (by first | rfl | (simp; done) | (simp [*]; done)), (by first | rfl | (simp; done) | (simp [*]; done)), H', ⟨Nat.le_refl _⟩, ⟨by (with_reducible repeat (first | apply Kd.N_alloc | apply Kd.N_drewN | apply Kd.N_drew)); exact HO301.out⟩, ⟨by repeat (first | (with_reducible first | exact HB.out | apply below_alloc | apply pw_below_drewN | apply below_drew1) | exact HB.out)⟩⟩
    case round =>
      clear H'
      try clear p2
      try clear c3
      try clear c4
      obtain ⟨x4_1, x13_1, rfl, rfl, HA, HK1, HO_11, HB⟩ := hrel
      cases gk with
      | zero => exact absurd HA.out (by simp [spec_CountUpToNames.l0])
      | succ k1 =>
        have H := HA.out
        clear HA
        simp only [spec_CountUpToNames.l0] at H
        by_cases c7 : x13_1 < (t299.length : Int)
        · rw [if_pos c7] at H
          have c7b0 : decide (x13_1 < (t299.length : Int)) = true := decide_eq_true c7
          clear c7
          by_cases c8 : 0 ≤ x13_1
          · rw [if_pos c8] at H
            have c8b0 : decide (0 ≤ x13_1) = true := decide_eq_true c8
            clear c8
            by_cases c9 : x13_1 < (t299.length : Int)
            · rw [if_pos c9] at H
              have c9b0 : decide (x13_1 < (t299.length : Int)) = true := decide_eq_true c9
              clear c9
              replace H := Option.bind_eq_some_iff.mp H
              obtain ⟨t304, A100, H⟩ := H
              replace H : ((spec_l1Same.f k1 t304 ((rd_T28 t299 x13_1).f1)).bind fun t307 => (if t307 = true then (spec_CountUpToNames.l0 k1 (wrap64 (x4_1 + 1)) t299 (t299.length : Int) (wrap64 (x13_1 + 1))) else (spec_CountUpToNames.l0 k1 x4_1 t299 (t299.length : Int) (wrap64 (x13_1 + 1))))) = some (r1, r2) := H
              have A10 := Aside0.mk A100
              clear A100
              replace H := Option.bind_eq_some_iff.mp H
              obtain ⟨t307, A110, H⟩ := H
              replace H : (if t307 = true then (spec_CountUpToNames.l0 k1 (wrap64 (x4_1 + 1)) t299 (t299.length : Int) (wrap64 (x13_1 + 1))) else (spec_CountUpToNames.l0 k1 x4_1 t299 (t299.length : Int) (wrap64 (x13_1 + 1)))) = some (r1, r2) := H
              have A11 := Aside0.mk A110
              clear A110
              by_cases c12 : t307 = true
              · subst c12
                have H1 : (spec_CountUpToNames.l0 k1 (wrap64 (x4_1 + 1)) t299 (t299.length : Int) (wrap64 (x13_1 + 1))) = some (r1, r2) := by rw [if_pos rfl] at H; exact H
                clear H
                have H := H1
                clear H1
                have H' := Aside0.mk H
                clear H
                have p302 : 0 ≤ (x13_1 : Int) := of_decide_eq_true (by first | (with_reducible assumption) | assumption)
                have q302 : x13_1 < (t299.length : Int) := of_decide_eq_true (by first | (with_reducible assumption) | assumption)
                obtain ⟨ad302, A302_1, c302_1, e302, hx302_0, hx302_1, hl302_1, hi302_1⟩ := at_T28 (Kd.N_reads' HO_11.out).2.2 x13_1 p302 q302
                cases e302
                obtain ⟨ce302, hce302, hMe302, hcc302⟩ := Kd.N_get HO_11.out z28 x13_1 p302 (by first | exact q302 | exact of_decide_eq_true (by first | (with_reducible assumption) | assumption) | (have e_ := (Kd.N_reads' HO_11.out).1; omega))
                obtain ⟨ua302_1, uc302_1, rfl, ul302_1, ge302_1⟩ := k28_openF hMe302
                have hv302_1 := hcc302 1 _ rfl
                rw [add_field _ _ 1 (by omega)] at hv302_1
                replace hv302_1 := Option.some.inj (hv302_1.symm.trans hx302_1)
                injection hv302_1 with hva_ hvn_ hvc_
                rw [hva_] at ge302_1
                rw [hvc_] at ul302_1
                have HL302_1 := Aside0.mk (show Kd.V (Kd.int .i64) 3 _ w.heap.size _ _ ((rd_T28 t299 x13_1).f1) from Kd.V_mk ul302_1 ge302_1)
                clear hva_ hvn_ hvc_ ge302_1 ul302_1
                clear hcc302 hce302
                have HR302_1 := Aside0.mk hi302_1
                have HC302_1 := Aside0.mk hl302_1
                clear hi302_1 hl302_1
                replace p302 := eq_true p302
                replace q302 := eq_true q302
                try go_wp2_with (first | ((with_reducible refine gate_dst (N := 6) rfl ?_); refine box_event ?hg (N := 6) ?hd (cs := #[.int .i64 0, .slice none 0 0]) (t := 28) ?hr ?_; (case hd => rfl); (case hg => rfl); (case hr => first | (go_simp; done) | (go_simp; rfl)); intro gb303 hg w13 hbox hb; have n0_ := Aside0.mk (Kd.N_below (Kd.N_elderB (by (with_reducible repeat (first | apply Kd.N_alloc | apply Kd.N_drewN | apply Kd.N_drew)); exact HO_11.out) gb303 (Nat.le_of_eq hg.symm)) hb); have n1_ := Aside0.mk (Kd.V_below (Kd.V_elderB (by (with_reducible repeat (first | apply Kd.V_alloc | apply Kd.V_drewN | apply Kd.V_drew)); exact HL302_1.out) gb303 (Nat.le_of_eq hg.symm)) hb); have n2_ := Aside0.mk (Kd.C_below (by repeat (first | (with_reducible exact HR302_1.out) | (with_reducible refine Kd.C_alloc ?_ _) | (with_reducible refine Kd.C_drewN ?_ _) | (with_reducible refine Kd.C_drew ?_) | exact HR302_1.out)) hb); have n3_ := Aside0.mk (below_step (by repeat (first | (with_reducible first | exact HB.out | apply below_alloc | apply pw_below_drewN | apply below_drew1) | exact HB.out)) hb); have n4_ := Aside0.mk (hbox); have n5_ := Aside0.mk ((by rw [hg]; exact (below_size (by repeat (first | (with_reducible first | exact HB.out | apply below_alloc | apply pw_below_drewN | apply below_drew1) | exact HB.out))) : w.heap.size ≤ gb303)); have n6_ := Aside0.mk ((by rw [hg]; exact (below_size (by repeat (first | (with_reducible first | exact HB.out | apply below_alloc | apply pw_below_drewN | apply below_drew1) | exact HB.out))) : w.heap.size ≤ gb303)); clear HO_11; clear HL302_1; clear HR302_1; clear HB; have HO_11 := n0_; have HL302_1 := n1_; have HR302_1 := n2_; have HB := n3_; have BK303 := n4_; have GW303 := n5_; have GE303 := n6_; clear n0_ n1_ n2_ n3_ n4_ n5_ n6_; clear hb hbox hg; have hcz14_0 : w13.cell? ⟨gb303, 0, none⟩ = some (.int .i64 0) := (blk_cell BK303.out 0).trans rfl; have hcz14_1 : w13.cell? ⟨gb303, 1, none⟩ = some (.slice none 0 0) := (blk_cell BK303.out 1).trans rfl; have hfz14_0 := blk_frozen BK303.out 0; have hfz14_1 := blk_frozen BK303.out 1))
                have n0_ : Aside0 (Kd.N k28 28 ((w13.setCell ⟨gb303, 0, none⟩ (.int .i64 ((rd_T28 t299 x13_1).f0))).setCell ⟨gb303, 1, none⟩ (.slice A302_1 ((rd_T28 t299 x13_1).f1).length c302_1)) w.heap.size (fun k_ => k_ ≠ gb303) (.slice (some ad302) t299.length co6) t299) := ⟨by (with_reducible repeat (first | apply Kd.N_alloc | apply Kd.N_drewN | apply Kd.N_drew)); exact Kd.N_mono (Kd.N_far (p := ⟨gb303, 1, none⟩) (Kd.N_far (p := ⟨gb303, 0, none⟩) (Kd.N_mono HO_11.out (fun k_ hk => (⟨hk, hk.2⟩ : _ ∧ k_ ≠ gb303))) (fun _ hk => hk.2) (.int .i64 ((rd_T28 t299 x13_1).f0))) (fun _ hk => hk.2) (.slice A302_1 ((rd_T28 t299 x13_1).f1).length c302_1)) (fun _ hk => hk.1.2)⟩
                have n1_ : Aside0 (Kd.V (Kd.int .i64) 3 ((w13.setCell ⟨gb303, 0, none⟩ (.int .i64 ((rd_T28 t299 x13_1).f0))).setCell ⟨gb303, 1, none⟩ (.slice A302_1 ((rd_T28 t299 x13_1).f1).length c302_1)) w.heap.size (fun k_ => some k_ ≠ (.slice (some ad302) t299.length co6 : Value).ownBlock ∧ k_ ≠ gb303) (.slice A302_1 ((rd_T28 t299 x13_1).f1).length c302_1) ((rd_T28 t299 x13_1).f1)) := ⟨by (with_reducible repeat (first | apply Kd.V_alloc | apply Kd.V_drewN | apply Kd.V_drew)); exact Kd.V_mono (Kd.V_far (p := ⟨gb303, 1, none⟩) (Kd.V_far (p := ⟨gb303, 0, none⟩) (Kd.V_mono HL302_1.out (fun k_ hk => (⟨hk, hk.2⟩ : _ ∧ k_ ≠ gb303))) (fun _ hk => hk.2) (.int .i64 ((rd_T28 t299 x13_1).f0))) (fun _ hk => hk.2) (.slice A302_1 ((rd_T28 t299 x13_1).f1).length c302_1)) (fun _ hk => ⟨hk.1.1.2, hk.1.2⟩)⟩
                have n2_ : Aside0 (((w13.setCell ⟨gb303, 0, none⟩ (.int .i64 ((rd_T28 t299 x13_1).f0))).setCell ⟨gb303, 1, none⟩ (.slice A302_1 ((rd_T28 t299 x13_1).f1).length c302_1)).heap[gb303]? = some (.cells #[.int .i64 ((rd_T28 t299 x13_1).f0), .slice A302_1 ((rd_T28 t299 x13_1).f1).length c302_1] 28 (0, 0))) := ⟨by (with_reducible repeat (first | refine blk_drewN ?_ _ | refine blk_drew ?_ | refine blk_alloc ?_ _)); refine blk_put (cs := #[.int .i64 ((rd_T28 t299 x13_1).f0), .slice none 0 0]) ?_ 1 _ rfl; (with_reducible repeat (first | refine blk_drewN ?_ _ | refine blk_drew ?_ | refine blk_alloc ?_ _)); refine blk_put (cs := #[.int .i64 0, .slice none 0 0]) ?_ 0 _ rfl; (with_reducible repeat (first | refine blk_drewN ?_ _ | refine blk_drew ?_ | refine blk_alloc ?_ _)); exact BK303.out⟩
                have n3_ : Aside0 (Below w.heap.size w ((w13.setCell ⟨gb303, 0, none⟩ (.int .i64 ((rd_T28 t299 x13_1).f0))).setCell ⟨gb303, 1, none⟩ (.slice A302_1 ((rd_T28 t299 x13_1).f1).length c302_1))) := ⟨by repeat (first | (with_reducible first | exact HB.out | apply below_alloc | apply pw_below_drewN | apply below_drew1 | refine below_set ?_ GE303.out) | exact HB.out)⟩
                (try clear HO_11)
                (try clear HL302_1)
                (try clear BK303)
                (try clear HB)
                generalize ((w13.setCell ⟨gb303, 0, none⟩ (.int .i64 ((rd_T28 t299 x13_1).f0))).setCell ⟨gb303, 1, none⟩ (.slice A302_1 ((rd_T28 t299 x13_1).f1).length c302_1)) = w15 at n0_ n1_ n2_ n3_ ⊢
                have HO_11 := n0_
                have HL302_1 := n1_
                have BK303 := n2_
                have HB := n3_
                clear n0_ n1_ n2_ n3_
                have n0_ := Aside0.mk (Kd.N_drew HO_11.out)
                have n1_ := Aside0.mk (Kd.V_drew HL302_1.out)
                have n2_ := Aside0.mk (blk_drew BK303.out)
                have n3_ := Aside0.mk (below_drew1 HB.out)
                clear HO_11
                clear HL302_1
                clear BK303
                clear HB
                have HO_11 := n0_
                have HL302_1 := n1_
                have BK303 := n2_
                have HB := n3_
                clear n0_ n1_ n2_ n3_
                refine start_ (n := 5) (S := fun w' => w'.cell? ⟨gb303, 0, none⟩ = some (.int .i64 ((rd_T28 t299 x13_1).f0)) ∧ w'.cell? ⟨gb303, 1, none⟩ = some (.slice A302_1 ((rd_T28 t299 x13_1).f1).length c302_1)) (ds := []) #[false, false, false, false, false] (by kernel_rfl) rfl rfl ⟨(blk_cell BK303.out 0).trans rfl, (blk_cell BK303.out 1).trans rfl⟩ (fun hHeld => ?_)
                generalize w15.drew = w16 at HO_11 HL302_1 BK303 HB hHeld ⊢
                refine pure_ (i := 2) (N := some 19) (v := ?_) (a' := ?_) #[false, false, true, false, false] rfl rfl (by kernel_rfl) (fun _ _ _ h => h) (Or.inl ⟨by rfl, ?_⟩) ?_ ?_
                rotate_left
                · intro w'
                  go_simp
                  with_reducible rfl
                rotate_left
                · simp only [Act.put, List.setIfInBounds_toArray, List.set_cons_zero, List.set_cons_succ, i64_w, i32_w]
                  rfl
                refine take_ (i := 0) (N := some 17) (v := ?_) (a' := ?_) #[true, false, true, false, false] rfl rfl (by kernel_rfl) (fun _ _ _ h => h) (Or.inl ⟨by rfl, ?_⟩) hHeld ?_ ?_
                rotate_left
                · rintro w' ⟨s0, s1⟩
                  go_simp
                  with_reducible rfl
                rotate_left
                · simp only [Act.put, List.setIfInBounds_toArray, List.set_cons_zero, List.set_cons_succ, i64_w, i32_w]
                  rfl
                refine take_ (i := 3) (N := some 20) (v := ?_) (a' := ?_) #[true, false, true, true, false] rfl rfl (by kernel_rfl) (fun _ _ _ h => h) (Or.inl ⟨by rfl, ?_⟩) hHeld ?_ ?_
                rotate_left
                · rintro w' ⟨s0, s1⟩
                  go_simp
                  with_reducible rfl
                rotate_left
                · simp only [Act.put, List.setIfInBounds_toArray, List.set_cons_zero, List.set_cons_succ, i64_w, i32_w]
                  rfl
                refine one_ (i := 1) (N := some 18) #[true, true, true, true, false] rfl rfl (by kernel_rfl) (by decide) (fun K hK => ?_)
                refine goes_ Try.func49 (by kernel_rfl) rfl #[.agg #[.int .i64 ((rd_T28 t299 x13_1).f0), .slice A302_1 ((rd_T28 t299 x13_1).f1).length c302_1]] (by rfl) rfl rfl (by (try simp only [List.map_toArray, List.map_cons, List.map_nil]); first | done | rfl | (simp only [List.length_drop, List.length_take]; rfl)) ?_
                with_reducible refine (spec_alLeast.calls ((rd_T28 t299 x13_1).f0) _ _ ((rd_T28 t299 x13_1).f1) t304 _ ?side1 ?side2 A10.out).mono ?_
                (case side1 => repeat (first | exact ((Kd.V_reads' (by (with_reducible repeat (first | apply Kd.V_alloc | apply Kd.V_drewN | apply Kd.V_drew)); exact HL302_1.out)).2.2) | (with_reducible refine Kd.C_alloc ?_ _) | (with_reducible refine Kd.C_drewN ?_ _) | (with_reducible refine Kd.C_drew ?_)))
                (case side2 => exact HC302_1.out)
                rintro e w17 ⟨v305, rfl, ho0, hb⟩
                refine ⟨_, rfl, ?_⟩
                have n0_ := Aside0.mk (Kd.N_elder' (by (with_reducible repeat (first | apply Kd.N_alloc | apply Kd.N_drewN | apply Kd.N_drew)); exact HO_11.out) (Kd.R_base ho0) hb)
                have n1_ := Aside0.mk (Kd.V_elder' (by (with_reducible repeat (first | apply Kd.V_alloc | apply Kd.V_drewN | apply Kd.V_drew)); exact HL302_1.out) (Kd.R_base ho0) hb)
                have n2_ := Aside0.mk (Kd.R_lower ho0 (below_size (by repeat (first | (with_reducible first | exact HB.out | apply below_alloc | apply pw_below_drewN | apply below_drew1 | refine below_set ?_ GE303.out) | exact HB.out))))
                have n3_ := Aside0.mk (blk_below (g := gb303) (o := .cells #[.int .i64 ((rd_T28 t299 x13_1).f0), .slice A302_1 ((rd_T28 t299 x13_1).f1).length c302_1] 28 (0, 0)) (by (with_reducible repeat (first | refine blk_drewN ?_ _ | refine blk_drew ?_ | refine blk_alloc ?_ _)); exact BK303.out) hb)
                have n4_ := Aside0.mk (below_step (by repeat (first | (with_reducible first | exact HB.out | apply below_alloc | apply pw_below_drewN | apply below_drew1 | refine below_set ?_ GE303.out) | exact HB.out)) hb)
                clear HO_11
                clear HL302_1
                clear BK303
                clear HB
                have HO_11 := n0_
                have HL302_1 := n1_
                have HO306 := n2_
                have BK303 := n3_
                have HB := n4_
                clear n0_ n1_ n2_ n3_ n4_
                (try clear hb)
                (try clear hb2)
                (try clear hk)
                (try clear hi)
                (try clear ho0)
                obtain ⟨Ao18, co18, eo18⟩ := Kd.R_slice HO306.out
                (first | subst eo18 | (injection eo18 with f1_ f2_ f3_; have f4_ := f1_.symm; have f5_ := f3_.symm; clear f1_ f2_ f3_; subst f4_; subst f5_))
                refine hK.out _ _ ⟨(blk_cell BK303.out 0).trans rfl, (blk_cell BK303.out 1).trans rfl⟩ (fun hHeld => ?_)
                clear hK K
                refine norm_ (a' := ?_) ?_ ?_
                rotate_left
                · show Act.put _ (some 18) _ = _
                  simp only [Act.put, List.setIfInBounds_toArray, List.set_cons_zero, List.set_cons_succ, i64_w, i32_w]
                  rfl
                refine one_ (i := 4) (N := some 21) #[true, true, true, true, true] rfl rfl (by kernel_rfl) (by decide) (fun K hK => ?_)
                refine goes_ Try.func48 (by kernel_rfl) rfl #[.slice Ao18 t304.length co18, .slice A302_1 ((rd_T28 t299 x13_1).f1).length c302_1] (by rfl) rfl rfl (by (try simp only [List.map_toArray, List.map_cons, List.map_nil]); first | done | rfl | (simp only [List.length_drop, List.length_take]; rfl)) ?_
                with_reducible refine (spec_l1Same.calls k1 _ _ t304 _ _ ((rd_T28 t299 x13_1).f1) true _ ?side1 ?side2 ?side3 ?side4 A11.out).mono ?_
                (case side1 => repeat (first | exact (Kd.R_reads' HO306.out).2.2 | (with_reducible refine Kd.C_alloc ?_ _) | (with_reducible refine Kd.C_drewN ?_ _) | (with_reducible refine Kd.C_drew ?_)))
                (case side2 => exact (Kd.R_reads' HO306.out).2.1)
                (case side3 => repeat (first | exact ((Kd.V_reads' (by (with_reducible repeat (first | apply Kd.V_alloc | apply Kd.V_drewN | apply Kd.V_drew)); exact HL302_1.out)).2.2) | (with_reducible refine Kd.C_alloc ?_ _) | (with_reducible refine Kd.C_drewN ?_ _) | (with_reducible refine Kd.C_drew ?_)))
                (case side4 => exact HC302_1.out)
                rintro e w' ⟨rfl, ⟨nd, rfl⟩⟩
                refine ⟨_, rfl, ?_⟩
                refine hK.out _ _ ⟨(blk_cell BK303.out 0).trans rfl, (blk_cell BK303.out 1).trans rfl⟩ (fun hHeld => ?_)
                clear hK K
                refine norm_ (a' := ?_) ?_ ?_
                rotate_left
                · show Act.put _ (some 21) _ = _
                  simp only [Act.put, List.setIfInBounds_toArray, List.set_cons_zero, List.set_cons_succ, i64_w, i32_w]
                  rfl
                refine done_ (by kernel_rfl) ?_
                try go_wp2
                go_roundg k1
                case measure => have := HK1.out; omega
                case rel => exact ⟨(wrap64 (x4_1 + 1)), (wrap64 (x13_1 + 1)), (by first | rfl | (simp; done) | (simp [*]; done)), (by first | rfl | (simp; done) | (simp [*]; done)), H', ⟨by have := HK1.out; omega⟩, ⟨by (with_reducible repeat (first | apply Kd.N_alloc | apply Kd.N_drewN | apply Kd.N_drew)); exact Kd.N_mono HO_11.out (fun _ hk => trivial)⟩, ⟨by repeat (first | (with_reducible first | exact HB.out | apply below_alloc | apply pw_below_drewN | apply below_drew1 | refine below_set ?_ GE303.out) | exact HB.out)⟩⟩
              · replace c12 := Bool.eq_false_iff.mpr c12
                subst c12
                have H1 : (spec_CountUpToNames.l0 k1 x4_1 t299 (t299.length : Int) (wrap64 (x13_1 + 1))) = some (r1, r2) := by rw [if_neg (show ¬ (false = true) by decide)] at H; exact H
                clear H
                have H := H1
                clear H1
                have H' := Aside0.mk H
                clear H
                have p302 : 0 ≤ (x13_1 : Int) := of_decide_eq_true (by first | (with_reducible assumption) | assumption)
                have q302 : x13_1 < (t299.length : Int) := of_decide_eq_true (by first | (with_reducible assumption) | assumption)
                obtain ⟨ad302, A302_1, c302_1, e302, hx302_0, hx302_1, hl302_1, hi302_1⟩ := at_T28 (Kd.N_reads' HO_11.out).2.2 x13_1 p302 q302
                cases e302
                obtain ⟨ce302, hce302, hMe302, hcc302⟩ := Kd.N_get HO_11.out z28 x13_1 p302 (by first | exact q302 | exact of_decide_eq_true (by first | (with_reducible assumption) | assumption) | (have e_ := (Kd.N_reads' HO_11.out).1; omega))
                obtain ⟨ua302_1, uc302_1, rfl, ul302_1, ge302_1⟩ := k28_openF hMe302
                have hv302_1 := hcc302 1 _ rfl
                rw [add_field _ _ 1 (by omega)] at hv302_1
                replace hv302_1 := Option.some.inj (hv302_1.symm.trans hx302_1)
                injection hv302_1 with hva_ hvn_ hvc_
                rw [hva_] at ge302_1
                rw [hvc_] at ul302_1
                have HL302_1 := Aside0.mk (show Kd.V (Kd.int .i64) 3 _ w.heap.size _ _ ((rd_T28 t299 x13_1).f1) from Kd.V_mk ul302_1 ge302_1)
                clear hva_ hvn_ hvc_ ge302_1 ul302_1
                clear hcc302 hce302
                have HR302_1 := Aside0.mk hi302_1
                have HC302_1 := Aside0.mk hl302_1
                clear hi302_1 hl302_1
                replace p302 := eq_true p302
                replace q302 := eq_true q302
                try go_wp2_with (first | ((with_reducible refine gate_dst (N := 6) rfl ?_); refine box_event ?hg (N := 6) ?hd (cs := #[.int .i64 0, .slice none 0 0]) (t := 28) ?hr ?_; (case hd => rfl); (case hg => rfl); (case hr => first | (go_simp; done) | (go_simp; rfl)); intro gb303 hg w19 hbox hb; have n0_ := Aside0.mk (Kd.N_below (Kd.N_elderB (by (with_reducible repeat (first | apply Kd.N_alloc | apply Kd.N_drewN | apply Kd.N_drew)); exact HO_11.out) gb303 (Nat.le_of_eq hg.symm)) hb); have n1_ := Aside0.mk (Kd.V_below (Kd.V_elderB (by (with_reducible repeat (first | apply Kd.V_alloc | apply Kd.V_drewN | apply Kd.V_drew)); exact HL302_1.out) gb303 (Nat.le_of_eq hg.symm)) hb); have n2_ := Aside0.mk (Kd.C_below (by repeat (first | (with_reducible exact HR302_1.out) | (with_reducible refine Kd.C_alloc ?_ _) | (with_reducible refine Kd.C_drewN ?_ _) | (with_reducible refine Kd.C_drew ?_) | exact HR302_1.out)) hb); have n3_ := Aside0.mk (below_step (by repeat (first | (with_reducible first | exact HB.out | apply below_alloc | apply pw_below_drewN | apply below_drew1) | exact HB.out)) hb); have n4_ := Aside0.mk (hbox); have n5_ := Aside0.mk ((by rw [hg]; exact (below_size (by repeat (first | (with_reducible first | exact HB.out | apply below_alloc | apply pw_below_drewN | apply below_drew1) | exact HB.out))) : w.heap.size ≤ gb303)); have n6_ := Aside0.mk ((by rw [hg]; exact (below_size (by repeat (first | (with_reducible first | exact HB.out | apply below_alloc | apply pw_below_drewN | apply below_drew1) | exact HB.out))) : w.heap.size ≤ gb303)); clear HO_11; clear HL302_1; clear HR302_1; clear HB; have HO_11 := n0_; have HL302_1 := n1_; have HR302_1 := n2_; have HB := n3_; have BK303 := n4_; have GW303 := n5_; have GE303 := n6_; clear n0_ n1_ n2_ n3_ n4_ n5_ n6_; clear hb hbox hg; have hcz20_0 : w19.cell? ⟨gb303, 0, none⟩ = some (.int .i64 0) := (blk_cell BK303.out 0).trans rfl; have hcz20_1 : w19.cell? ⟨gb303, 1, none⟩ = some (.slice none 0 0) := (blk_cell BK303.out 1).trans rfl; have hfz20_0 := blk_frozen BK303.out 0; have hfz20_1 := blk_frozen BK303.out 1))
                have n0_ : Aside0 (Kd.N k28 28 ((w19.setCell ⟨gb303, 0, none⟩ (.int .i64 ((rd_T28 t299 x13_1).f0))).setCell ⟨gb303, 1, none⟩ (.slice A302_1 ((rd_T28 t299 x13_1).f1).length c302_1)) w.heap.size (fun k_ => k_ ≠ gb303) (.slice (some ad302) t299.length co6) t299) := ⟨by (with_reducible repeat (first | apply Kd.N_alloc | apply Kd.N_drewN | apply Kd.N_drew)); exact Kd.N_mono (Kd.N_far (p := ⟨gb303, 1, none⟩) (Kd.N_far (p := ⟨gb303, 0, none⟩) (Kd.N_mono HO_11.out (fun k_ hk => (⟨hk, hk.2⟩ : _ ∧ k_ ≠ gb303))) (fun _ hk => hk.2) (.int .i64 ((rd_T28 t299 x13_1).f0))) (fun _ hk => hk.2) (.slice A302_1 ((rd_T28 t299 x13_1).f1).length c302_1)) (fun _ hk => hk.1.2)⟩
                have n1_ : Aside0 (Kd.V (Kd.int .i64) 3 ((w19.setCell ⟨gb303, 0, none⟩ (.int .i64 ((rd_T28 t299 x13_1).f0))).setCell ⟨gb303, 1, none⟩ (.slice A302_1 ((rd_T28 t299 x13_1).f1).length c302_1)) w.heap.size (fun k_ => some k_ ≠ (.slice (some ad302) t299.length co6 : Value).ownBlock ∧ k_ ≠ gb303) (.slice A302_1 ((rd_T28 t299 x13_1).f1).length c302_1) ((rd_T28 t299 x13_1).f1)) := ⟨by (with_reducible repeat (first | apply Kd.V_alloc | apply Kd.V_drewN | apply Kd.V_drew)); exact Kd.V_mono (Kd.V_far (p := ⟨gb303, 1, none⟩) (Kd.V_far (p := ⟨gb303, 0, none⟩) (Kd.V_mono HL302_1.out (fun k_ hk => (⟨hk, hk.2⟩ : _ ∧ k_ ≠ gb303))) (fun _ hk => hk.2) (.int .i64 ((rd_T28 t299 x13_1).f0))) (fun _ hk => hk.2) (.slice A302_1 ((rd_T28 t299 x13_1).f1).length c302_1)) (fun _ hk => ⟨hk.1.1.2, hk.1.2⟩)⟩
                have n2_ : Aside0 (((w19.setCell ⟨gb303, 0, none⟩ (.int .i64 ((rd_T28 t299 x13_1).f0))).setCell ⟨gb303, 1, none⟩ (.slice A302_1 ((rd_T28 t299 x13_1).f1).length c302_1)).heap[gb303]? = some (.cells #[.int .i64 ((rd_T28 t299 x13_1).f0), .slice A302_1 ((rd_T28 t299 x13_1).f1).length c302_1] 28 (0, 0))) := ⟨by (with_reducible repeat (first | refine blk_drewN ?_ _ | refine blk_drew ?_ | refine blk_alloc ?_ _)); refine blk_put (cs := #[.int .i64 ((rd_T28 t299 x13_1).f0), .slice none 0 0]) ?_ 1 _ rfl; (with_reducible repeat (first | refine blk_drewN ?_ _ | refine blk_drew ?_ | refine blk_alloc ?_ _)); refine blk_put (cs := #[.int .i64 0, .slice none 0 0]) ?_ 0 _ rfl; (with_reducible repeat (first | refine blk_drewN ?_ _ | refine blk_drew ?_ | refine blk_alloc ?_ _)); exact BK303.out⟩
                have n3_ : Aside0 (Below w.heap.size w ((w19.setCell ⟨gb303, 0, none⟩ (.int .i64 ((rd_T28 t299 x13_1).f0))).setCell ⟨gb303, 1, none⟩ (.slice A302_1 ((rd_T28 t299 x13_1).f1).length c302_1))) := ⟨by repeat (first | (with_reducible first | exact HB.out | apply below_alloc | apply pw_below_drewN | apply below_drew1 | refine below_set ?_ GE303.out) | exact HB.out)⟩
                (try clear HO_11)
                (try clear HL302_1)
                (try clear BK303)
                (try clear HB)
                generalize ((w19.setCell ⟨gb303, 0, none⟩ (.int .i64 ((rd_T28 t299 x13_1).f0))).setCell ⟨gb303, 1, none⟩ (.slice A302_1 ((rd_T28 t299 x13_1).f1).length c302_1)) = w21 at n0_ n1_ n2_ n3_ ⊢
                have HO_11 := n0_
                have HL302_1 := n1_
                have BK303 := n2_
                have HB := n3_
                clear n0_ n1_ n2_ n3_
                have n0_ := Aside0.mk (Kd.N_drew HO_11.out)
                have n1_ := Aside0.mk (Kd.V_drew HL302_1.out)
                have n2_ := Aside0.mk (blk_drew BK303.out)
                have n3_ := Aside0.mk (below_drew1 HB.out)
                clear HO_11
                clear HL302_1
                clear BK303
                clear HB
                have HO_11 := n0_
                have HL302_1 := n1_
                have BK303 := n2_
                have HB := n3_
                clear n0_ n1_ n2_ n3_
                refine start_ (n := 5) (S := fun w' => w'.cell? ⟨gb303, 0, none⟩ = some (.int .i64 ((rd_T28 t299 x13_1).f0)) ∧ w'.cell? ⟨gb303, 1, none⟩ = some (.slice A302_1 ((rd_T28 t299 x13_1).f1).length c302_1)) (ds := []) #[false, false, false, false, false] (by kernel_rfl) rfl rfl ⟨(blk_cell BK303.out 0).trans rfl, (blk_cell BK303.out 1).trans rfl⟩ (fun hHeld => ?_)
                generalize w21.drew = w22 at HO_11 HL302_1 BK303 HB hHeld ⊢
                refine pure_ (i := 2) (N := some 19) (v := ?_) (a' := ?_) #[false, false, true, false, false] rfl rfl (by kernel_rfl) (fun _ _ _ h => h) (Or.inl ⟨by rfl, ?_⟩) ?_ ?_
                rotate_left
                · intro w'
                  go_simp
                  with_reducible rfl
                rotate_left
                · simp only [Act.put, List.setIfInBounds_toArray, List.set_cons_zero, List.set_cons_succ, i64_w, i32_w]
                  rfl
                refine take_ (i := 0) (N := some 17) (v := ?_) (a' := ?_) #[true, false, true, false, false] rfl rfl (by kernel_rfl) (fun _ _ _ h => h) (Or.inl ⟨by rfl, ?_⟩) hHeld ?_ ?_
                rotate_left
                · rintro w' ⟨s0, s1⟩
                  go_simp
                  with_reducible rfl
                rotate_left
                · simp only [Act.put, List.setIfInBounds_toArray, List.set_cons_zero, List.set_cons_succ, i64_w, i32_w]
                  rfl
                refine take_ (i := 3) (N := some 20) (v := ?_) (a' := ?_) #[true, false, true, true, false] rfl rfl (by kernel_rfl) (fun _ _ _ h => h) (Or.inl ⟨by rfl, ?_⟩) hHeld ?_ ?_
                rotate_left
                · rintro w' ⟨s0, s1⟩
                  go_simp
                  with_reducible rfl
                rotate_left
                · simp only [Act.put, List.setIfInBounds_toArray, List.set_cons_zero, List.set_cons_succ, i64_w, i32_w]
                  rfl
                refine one_ (i := 1) (N := some 18) #[true, true, true, true, false] rfl rfl (by kernel_rfl) (by decide) (fun K hK => ?_)
                refine goes_ Try.func49 (by kernel_rfl) rfl #[.agg #[.int .i64 ((rd_T28 t299 x13_1).f0), .slice A302_1 ((rd_T28 t299 x13_1).f1).length c302_1]] (by rfl) rfl rfl (by (try simp only [List.map_toArray, List.map_cons, List.map_nil]); first | done | rfl | (simp only [List.length_drop, List.length_take]; rfl)) ?_
                with_reducible refine (spec_alLeast.calls ((rd_T28 t299 x13_1).f0) _ _ ((rd_T28 t299 x13_1).f1) t304 _ ?side1 ?side2 A10.out).mono ?_
                (case side1 => repeat (first | exact ((Kd.V_reads' (by (with_reducible repeat (first | apply Kd.V_alloc | apply Kd.V_drewN | apply Kd.V_drew)); exact HL302_1.out)).2.2) | (with_reducible refine Kd.C_alloc ?_ _) | (with_reducible refine Kd.C_drewN ?_ _) | (with_reducible refine Kd.C_drew ?_)))
                (case side2 => exact HC302_1.out)
                rintro e w23 ⟨v305, rfl, ho0, hb⟩
                refine ⟨_, rfl, ?_⟩
                have n0_ := Aside0.mk (Kd.N_elder' (by (with_reducible repeat (first | apply Kd.N_alloc | apply Kd.N_drewN | apply Kd.N_drew)); exact HO_11.out) (Kd.R_base ho0) hb)
                have n1_ := Aside0.mk (Kd.V_elder' (by (with_reducible repeat (first | apply Kd.V_alloc | apply Kd.V_drewN | apply Kd.V_drew)); exact HL302_1.out) (Kd.R_base ho0) hb)
                have n2_ := Aside0.mk (Kd.R_lower ho0 (below_size (by repeat (first | (with_reducible first | exact HB.out | apply below_alloc | apply pw_below_drewN | apply below_drew1 | refine below_set ?_ GE303.out) | exact HB.out))))
                have n3_ := Aside0.mk (blk_below (g := gb303) (o := .cells #[.int .i64 ((rd_T28 t299 x13_1).f0), .slice A302_1 ((rd_T28 t299 x13_1).f1).length c302_1] 28 (0, 0)) (by (with_reducible repeat (first | refine blk_drewN ?_ _ | refine blk_drew ?_ | refine blk_alloc ?_ _)); exact BK303.out) hb)
                have n4_ := Aside0.mk (below_step (by repeat (first | (with_reducible first | exact HB.out | apply below_alloc | apply pw_below_drewN | apply below_drew1 | refine below_set ?_ GE303.out) | exact HB.out)) hb)
                clear HO_11
                clear HL302_1
                clear BK303
                clear HB
                have HO_11 := n0_
                have HL302_1 := n1_
                have HO306 := n2_
                have BK303 := n3_
                have HB := n4_
                clear n0_ n1_ n2_ n3_ n4_
                (try clear hb)
                (try clear hb2)
                (try clear hk)
                (try clear hi)
                (try clear ho0)
                obtain ⟨Ao24, co24, eo24⟩ := Kd.R_slice HO306.out
                (first | subst eo24 | (injection eo24 with f1_ f2_ f3_; have f4_ := f1_.symm; have f5_ := f3_.symm; clear f1_ f2_ f3_; subst f4_; subst f5_))
                refine hK.out _ _ ⟨(blk_cell BK303.out 0).trans rfl, (blk_cell BK303.out 1).trans rfl⟩ (fun hHeld => ?_)
                clear hK K
                refine norm_ (a' := ?_) ?_ ?_
                rotate_left
                · show Act.put _ (some 18) _ = _
                  simp only [Act.put, List.setIfInBounds_toArray, List.set_cons_zero, List.set_cons_succ, i64_w, i32_w]
                  rfl
                refine one_ (i := 4) (N := some 21) #[true, true, true, true, true] rfl rfl (by kernel_rfl) (by decide) (fun K hK => ?_)
                refine goes_ Try.func48 (by kernel_rfl) rfl #[.slice Ao24 t304.length co24, .slice A302_1 ((rd_T28 t299 x13_1).f1).length c302_1] (by rfl) rfl rfl (by (try simp only [List.map_toArray, List.map_cons, List.map_nil]); first | done | rfl | (simp only [List.length_drop, List.length_take]; rfl)) ?_
                with_reducible refine (spec_l1Same.calls k1 _ _ t304 _ _ ((rd_T28 t299 x13_1).f1) false _ ?side1 ?side2 ?side3 ?side4 A11.out).mono ?_
                (case side1 => repeat (first | exact (Kd.R_reads' HO306.out).2.2 | (with_reducible refine Kd.C_alloc ?_ _) | (with_reducible refine Kd.C_drewN ?_ _) | (with_reducible refine Kd.C_drew ?_)))
                (case side2 => exact (Kd.R_reads' HO306.out).2.1)
                (case side3 => repeat (first | exact ((Kd.V_reads' (by (with_reducible repeat (first | apply Kd.V_alloc | apply Kd.V_drewN | apply Kd.V_drew)); exact HL302_1.out)).2.2) | (with_reducible refine Kd.C_alloc ?_ _) | (with_reducible refine Kd.C_drewN ?_ _) | (with_reducible refine Kd.C_drew ?_)))
                (case side4 => exact HC302_1.out)
                rintro e w' ⟨rfl, ⟨nd, rfl⟩⟩
                refine ⟨_, rfl, ?_⟩
                refine hK.out _ _ ⟨(blk_cell BK303.out 0).trans rfl, (blk_cell BK303.out 1).trans rfl⟩ (fun hHeld => ?_)
                clear hK K
                refine norm_ (a' := ?_) ?_ ?_
                rotate_left
                · show Act.put _ (some 21) _ = _
                  simp only [Act.put, List.setIfInBounds_toArray, List.set_cons_zero, List.set_cons_succ, i64_w, i32_w]
                  rfl
                refine done_ (by kernel_rfl) ?_
                try go_wp2
                go_roundg k1
                case measure => have := HK1.out; omega
                case rel => exact ⟨(x4_1), (wrap64 (x13_1 + 1)), (by first | rfl | (simp; done) | (simp [*]; done)), (by first | rfl | (simp; done) | (simp [*]; done)), H', ⟨by have := HK1.out; omega⟩, ⟨by (with_reducible repeat (first | apply Kd.N_alloc | apply Kd.N_drewN | apply Kd.N_drew)); exact Kd.N_mono HO_11.out (fun _ hk => trivial)⟩, ⟨by repeat (first | (with_reducible first | exact HB.out | apply below_alloc | apply pw_below_drewN | apply below_drew1 | refine below_set ?_ GE303.out) | exact HB.out)⟩⟩
            · rw [if_neg c9] at H
              exact absurd H (by simp)
          · rw [if_neg c8] at H
            exact absurd H (by simp)
        · rw [if_neg c7] at H
          have c7b0 : decide (x13_1 < (t299.length : Int)) = false := decide_eq_false c7
          clear c7
          simp only [Option.some.injEq, Prod.mk.injEq] at H
          obtain ⟨rfl, rfl⟩ := H
          go_wp2
          go_ret2
          exact ⟨by first | rfl | (simp [errW_none, errW_some] <;> rfl) | (simp [*, errW_none, errW_some] <;> rfl), by repeat (first | (with_reducible first | exact HB.out | apply below_alloc | apply pw_below_drewN | apply below_drew1) | exact HB.out)⟩
  · replace c3 := Bool.eq_false_iff.mpr c3
    subst c3
    have H1 : (some (0, false)) = some (r1, r2) := by rw [if_neg (show ¬ (false = true) by decide)] at H; exact H
    clear H
    have H := H1
    clear H1
    simp only [Option.some.injEq, Prod.mk.injEq] at H
    obtain ⟨rfl, rfl⟩ := H
    go_enter Try.func44, Try.ntmps44
    go_wp2_with (first | ((with_reducible refine gate_callee (f := 83) rfl ?_); refine goesL_ (some 8) rfl rfl Try.func83 (by kernel_rfl) rfl #[.int .i64 a0, .int .i64 1, .int .i64 4] rfl (by (try simp only [List.map_toArray, List.map_cons, List.map_nil]); first | done | rfl | (simp only [List.length_drop, List.length_take]; rfl)) ?_; (with_reducible refine (spec_l1In.calls a0 1 4 false _ A2.out).mono ?_); rintro e w' ⟨rfl, ⟨nd, rfl⟩⟩; refine ⟨_, rfl, ?_⟩))
    go_ret2
    exact ⟨by first | rfl | (simp [errW_none, errW_some] <;> rfl) | (simp [*, errW_none, errW_some] <;> rfl), by repeat (first | (with_reducible first | exact HB.out | apply below_alloc | apply pw_below_drewN | apply below_drew1) | exact HB.out)⟩

end Go.Proofs.Ytjhjphgdjhahlaa.P
/- The numbers of slices.SortFunc at Space in this translation (written by the kit's lay-plain.mjs). -/
-- plain
namespace Go.Proofs.Ytjhjphgdjhahlaa.P
open Go.Shelf
def sortSp_ren : Go.Shelf.Ren := ⟨fun | 6 => 125 | 15 => 142 | 14 => 141 | 28 => 155 | 29 => 156 | 20 => 147 | 21 => 148 | 22 => 149 | 23 => 150 | 24 => 151 | 25 => 152 | 26 => 153 | 27 => 154 | 46 => 157 | 47 => 158 | 48 => 159 | 49 => 160 | 50 => 161 | 57 => 162 | n => n, fun | 22 => 59 | 24 => 28 | 25 => 69 | 3 => 3 | 39 => 115 | 0 => 0 | 53 => 138 | 55 => 84 | 4 => 4 | 46 => 132 | 45 => 131 | 50 => 38 | 5 => 5 | 9 => 9 | 66 => 140 | 70 => 144 | 76 => 146 | 77 => 147 | n => n, fun | n => n⟩
theorem sortSp : Go.Proofs.SlLaysF0.n6 Try.prog sortSp_ren := {
  mixed := by kernel_rfl
  f6 := ⟨Try.f125.name, by decide, Try.func125.trans (congrArg some (by kernel_rfl))⟩
  f14 := ⟨Try.f141.name, by decide, Try.func141.trans (congrArg some (by kernel_rfl))⟩
  f15 := Try.func142.trans (congrArg some (by kernel_rfl))
  f20 := ⟨Try.f147.name, by decide, Try.func147.trans (congrArg some (by kernel_rfl))⟩
  f21 := ⟨Try.f148.name, by decide, Try.func148.trans (congrArg some (by kernel_rfl))⟩
  f22 := ⟨Try.f149.name, by decide, Try.func149.trans (congrArg some (by kernel_rfl))⟩
  f23 := ⟨Try.f150.name, by decide, Try.func150.trans (congrArg some (by kernel_rfl))⟩
  f24 := ⟨Try.f151.name, by decide, Try.func151.trans (congrArg some (by kernel_rfl))⟩
  f25 := ⟨Try.f152.name, by decide, Try.func152.trans (congrArg some (by kernel_rfl))⟩
  f26 := ⟨Try.f153.name, by decide, Try.func153.trans (congrArg some (by kernel_rfl))⟩
  f27 := ⟨Try.f154.name, by decide, Try.func154.trans (congrArg some (by kernel_rfl))⟩
  f28 := Try.func155.trans (congrArg some (by kernel_rfl))
  f29 := Try.func156.trans (congrArg some (by kernel_rfl))
  f46 := ⟨Try.f157.name, by decide, Try.func157.trans (congrArg some (by kernel_rfl))⟩
  f47 := Try.func158.trans (congrArg some (by kernel_rfl))
  f48 := Try.func159.trans (congrArg some (by kernel_rfl))
  f49 := ⟨Try.f160.name, by decide, Try.func160.trans (congrArg some (by kernel_rfl))⟩
  f50 := ⟨Try.f161.name, by decide, Try.func161.trans (congrArg some (by kernel_rfl))⟩
  f57 := ⟨Try.f162.name, by decide, Try.func162.trans (congrArg some (by kernel_rfl))⟩
  t0 := Try.underlying0
  a0 := Try.isAgg0
  z0 := Try.sizeOf0
  v0 := Try.zeroValue0
  t3 := Try.underlying3
  a3 := Try.isAgg3
  z3 := Try.sizeOf3
  v3 := Try.zeroValue3
  t4 := Try.underlying4
  a4 := Try.isAgg4
  z4 := Try.sizeOf4
  v4 := Try.zeroValue4
  t5 := Try.underlying5
  a5 := Try.isAgg5
  z5 := Try.sizeOf5
  v5 := Try.zeroValue5
  t9 := Try.underlying9
  a9 := Try.isAgg9
  z9 := Try.sizeOf9
  v9 := Try.zeroValue9
  t22 := Try.underlying59
  a22 := Try.isAgg59
  z22 := Try.sizeOf59
  v22 := Try.zeroValue59
  t25 := Try.underlying69
  a25 := Try.isAgg69
  z25 := Try.sizeOf69
  v25 := Try.zeroValue69
  t39 := Try.underlying115
  a39 := Try.isAgg115
  z39 := Try.sizeOf115
  v39 := Try.zeroValue115
  t45 := Try.underlying131
  a45 := Try.isAgg131
  z45 := Try.sizeOf131
  v45 := Try.zeroValue131
  t46 := Try.underlying132
  a46 := Try.isAgg132
  z46 := Try.sizeOf132
  v46 := Try.zeroValue132
  t50 := Try.underlying38
  a50 := Try.isAgg38
  z50 := Try.sizeOf38
  v50 := Try.zeroValue38
  t53 := Try.underlying138
  a53 := Try.isAgg138
  z53 := Try.sizeOf138
  v53 := Try.zeroValue138
  t55 := Try.underlying84
  a55 := Try.isAgg84
  z55 := Try.sizeOf84
  v55 := Try.zeroValue84
  t66 := Try.underlying140
  a66 := Try.isAgg140
  z66 := Try.sizeOf140
  v66 := Try.zeroValue140
  t70 := Try.underlying144
  a70 := Try.isAgg144
  z70 := Try.sizeOf144
  v70 := Try.zeroValue144
  t76 := Try.underlying146
  a76 := Try.isAgg146
  z76 := Try.sizeOf146
  v76 := Try.zeroValue146
  t77 := Try.underlying147
  a77 := Try.isAgg147
  z77 := Try.sizeOf147
  v77 := Try.zeroValue147 }
end Go.Proofs.Ytjhjphgdjhahlaa.P
/- slices.SortFunc of a row of spaces by impl's 'compare': the row is sorted, and still no two of its spaces lead to one block. -/
namespace Go.Proofs.Ytjhjphgdjhahlaa.P
open Go.Shelf Go.RowKit Go.Sort Go.Proofs.YtjhjphgdjhahlaaW.PrintWords Go.Proofs.YtjhjphgdjhahlaaW.PrintLast Go.Proofs.YtjhjphgdjhahlaaW.PrintMore
set_option linter.unusedVariables false
set_option maxHeartbeats 800000

section
variable {α : Type} [Inhabited α] (enc : α → List Value) (k : Nat) (w : World) (g m : Nat) (dk : Array α) (os : Array Obj)
theorem sw_heap {j : Nat} (hj : j < w.heap.size) (hne : j ≠ g) : (sortWorldK enc k w g 0 m dk os).heap[j]? = w.heap[j]? := by
  unfold sortWorldK
  rw [heap_grow_old _ _ (by rw [size_putRowK]; exact hj)]
  unfold putRowK putRow mapBlock
  simp only [Array.getElem?_modify]
  rw [if_neg (fun h => hne h.symm)]
  rfl
theorem sw_row {cur : Array Value} {t : Nat} {fz : Nat × Nat} (h : w.heap[g]? = some (.cells cur t fz)) : (sortWorldK enc k w g 0 m dk os).heap[g]? = some (.cells (putCells id 0 (flatK enc k dk) cur) t fz) := by
  have hg : g < w.heap.size := (Array.getElem?_eq_some_iff.1 h).1
  unfold sortWorldK
  rw [heap_grow_old _ _ (by rw [size_putRowK]; exact hg)]
  unfold putRowK putRow mapBlock
  simp only [Array.getElem?_modify]
  have : (Go.Sort.ahead w m).heap = w.heap := rfl
  rw [this, h]; simp [onCells]
theorem sw_kb : KB w (sortWorldK enc k w g 0 m dk os) (fun j => j = g) :=
  ⟨rfl, rfl, rfl, size_sortWorldK_c enc k w g 0 m dk os, fun j hj hne => sw_heap enc k w g m dk os hj hne⟩
end

theorem sort_calls (W : World) (base : Nat) (v : Value) (xs : List S28) (hS : Kd.S k28 28 W base (fun _ => True) v xs) (hne : xs ≠ []) (hl : ∀ x ∈ xs, x.f1.length < 4611686018427387904) (hn : xs.length < 4611686018427387904) :
    Calls Try.prog 125 #[v, .func (.func 52) #[] #[]] W fun e w' => e = .returned (.tuple #[]) ∧ ∃ ys, Kd.S k28 28 w' base (fun _ => True) v ys ∧ ys.Perm xs ∧ ys.Pairwise (fun a b => cmpL a.f1 b.f1 ≤ 0) ∧ KB W w' (fun j => base ≤ j) := by
  obtain ⟨f, h0, inner, ho, hr⟩ := hS
  rw [List.length_zipIdx] at ho
  have hpos : 0 < xs.length := List.length_pos_iff.2 hne
  have hsz : (Kd.tag f k28).sz = 2 := rfl
  rw [hsz] at ho hr
  obtain ⟨hin, hov⟩ := ho
  rcases hov with ⟨_, h00⟩ | ⟨g, cap, cur, rfl, hbg, hg, hnc, hcm, hcs, hct⟩
  · omega
  have hglt : g < W.heap.size := blk_lt hg
  obtain ⟨hrl, hre⟩ := hr
  -- the elements: their places
  letI inh : Inhabited (Fin xs.length) := ⟨⟨0, hpos⟩⟩
  let enc : Fin xs.length → List Value := fun i => (inner.drop (i.1 * 2)).take 2
  have hk : ∀ i, (enc i).length = 2 := fun i => by
    have := i.2
    simp only [enc, List.length_take, List.length_drop, hin]; omega
  have hM : ∀ i : Fin xs.length, ∃ v1, enc i = [.int .i64 xs[i].f0, v1] ∧ Kd.R (Kd.int .i64) 3 W base (fun j => (True ∧ some j ≠ (Value.slice (some ⟨g, 0, none⟩) xs.length cap).ownBlock) ∧ f j = i.1) v1 xs[i].f1 := fun i => by
    have hz : xs.zipIdx[i.1]? = some (xs[i], i.1) := Kd.zip_at (by simp)
    exact k28_openM (hre i.1 _ hz)
  have h1 : ∀ i, ∀ u ∈ enc i, u.oneCell' = true := fun i u hu => by
    have hz : xs.zipIdx[i.1]? = some (xs[i], i.1) := Kd.zip_at (by simp)
    exact k28.K_one (k28.K_of_M (hre i.1 _ hz)) u hu
  let cf : Fin xs.length → Fin xs.length → Int := fun i j => cmpL xs[i].f1 xs[j].f1
  have hO : SWO (ltOf cf) := {
    irrefl := fun x => by simp [ltOf, cf, cmpL_self]
    trans := fun x y z h h' => by
      simp only [ltOf, cf, decide_eq_true_eq] at *
      have := cmpL_trans xs[x].f1 xs[y].f1 xs[z].f1 (by omega) (by omega)
      have h2 := this.1
      rcases Int.lt_or_eq_of_le h2 with h3 | h3
      · exact h3
      · have := (this.2 h3).1; omega
    ntrans := fun x y z h h' => by
      simp only [ltOf, cf, decide_eq_false_iff_not] at *
      have e1 := cmpL_neg xs[x].f1 xs[y].f1
      have e2 := cmpL_neg xs[y].f1 xs[z].f1
      have e3 := cmpL_neg xs[x].f1 xs[z].f1
      have := (cmpL_trans xs[z].f1 xs[y].f1 xs[x].f1 (by omega) (by omega)).1
      omega }
  let d : Array (Fin xs.length) := (List.finRange xs.length).toArray
  have hds : d.size = xs.length := by simp [d]
  have hdg : ∀ j (h : j < xs.length), d[j]! = ⟨j, h⟩ := fun j h => by
    rw [getElem!_pos d j (by rw [hds]; exact h)]; simp [d]
  have hinn : ∀ j, j < xs.length * 2 → (enc d[j / 2]!)[j % 2]! = inner[j]! := fun j hj => by
    rw [hdg (j / 2) (by omega)]
    simp only [enc]
    rw [List.getElem!_eq_getElem?_getD, List.getElem!_eq_getElem?_getD, List.getElem?_take_of_lt (by omega), List.getElem?_drop]
    congr 2; omega
  have hH : HoldsK enc 2 W g 0 d := fun j hj => by
    rw [size_flatK, hds] at hj
    refine ⟨?_, blk_frozen hg _⟩
    rw [blk_cell hg, get_flatK _ _ _ _ (by rw [hds]; exact hj), hinn j hj, Nat.zero_add]
    have hjc : j < cur.size := by rw [hcs]; have := Nat.mul_le_mul_right 2 hnc; omega
    rw [List.getElem!_eq_getElem?_getD, ← hct, List.getElem?_take_of_lt hj, Array.getElem?_toList, Array.getElem?_eq_getElem hjc]; rfl
  have eg : ∀ args w, (callFunc 52 args).run Try.prog w = .ok (.enter 52 args) w := enters_of Try.func52 (by kernel_rfl) rfl
  have hcmp : CmpLays Try.prog 52 #[] enc 2 cf g 0 d.size W := by
    intro m os dk hdk x y
    obtain ⟨vx, ex, hx⟩ := hM x
    obtain ⟨vy, ey, hy⟩ := hM y
    have mv : ∀ (i : Fin xs.length) (u : Value), Kd.R (Kd.int .i64) 3 W base (fun j => (True ∧ some j ≠ (Value.slice (some ⟨g, 0, none⟩) xs.length cap).ownBlock) ∧ f j = i.1) u xs[i].f1 → Kd.R (Kd.int .i64) 3 (sortWorldK enc 2 W g 0 m dk os) base (fun _ => True) u xs[i].f1 := fun i u hu =>
      Kd.R_mono (R_kb hu (sw_kb enc 2 W g m dk os) (fun j hj he => hj.1.2 (by simp [Value.ownBlock, he]))) (fun _ _ => trivial)
    have hx' := mv x vx hx
    have hy' := mv y vy hy
    obtain ⟨Ax, cx, rfl⟩ := Kd.R_slice hx'
    obtain ⟨Ay, cy, rfl⟩ := Kd.R_slice hy'
    obtain ⟨_, hx2, hx3⟩ := Kd.R_reads' hx'
    obtain ⟨_, hy2, hy3⟩ := Kd.R_reads' hy'
    rw [ex, ey]
    exact compare_calls xs[x].f0 xs[y].f0 Ax cx xs[x].f1 Ay cy xs[y].f1 _ hx3 hx2 hy3 hy2 (hl _ (List.getElem_mem _))
  have hcon := AnyQ.slices_SortFunc sortSp 2 Try.isAgg28 Try.sizeOf28 enc hk h1 cf hO 52 #[] g 0 cap d W eg hcmp hH hglt (by rw [hds]; exact hn)
  change Calls Try.prog 125 _ _ _ at hcon
  rw [hds] at hcon
  refine hcon.mono ?_
  rintro e w' ⟨rfl, d', m, os, hp, hso, rfl⟩
  obtain ⟨hp1, _, hp2⟩ := hp
  rw [hds] at hp1
  have ex : ∀ (a : Array (Fin xs.length)) (n : Nat), a.size = n → a.extract 0 n = a := fun a n h => by subst h; exact Array.extract_size
  have e1 := ex d' xs.length hp1
  have e2 := ex d xs.length hds
  rw [e1, e2] at hp2
  have hp3 : d'.toList.Perm (List.finRange xs.length) := by simpa [d] using hp2
  have hnd : (d'.toList.map Fin.val).Nodup := by
    have : (d'.toList.map Fin.val).Perm ((List.finRange xs.length).map Fin.val) := hp3.map _
    refine this.nodup_iff.2 ?_
    have : (List.finRange xs.length).map Fin.val = List.range xs.length := by
      apply List.ext_getElem <;> simp
    rw [this]; exact List.nodup_range
  have hdl : d'.toList.length = xs.length := by simpa using hp1
  refine ⟨rfl, d'.toList.map (fun i => xs[i]), ?_, ?_, ?_, (sw_kb enc 2 W g m d' os).mono (fun j _ hj => by subst hj; exact hbg)⟩
  · refine ⟨fun j => (d'.toList.map Fin.val).idxOf (f j), fun _ _ => trivial, (flatK enc 2 d').toList, ?_, ?_⟩
    · change World.ownsRow _ base 28 2 _ _ _
      rw [List.length_zipIdx, List.length_map, hdl]
      refine ⟨by simp [hp1], .inr ⟨g, cap, _, rfl, hbg, sw_row enc 2 W g m d' os hg, hnc, hcm, by simp [putCells, hcs], ?_⟩⟩
      apply List.ext_getElem?
      intro j
      by_cases hj : j < xs.length * 2
      · have hjc : j < cur.size := by rw [hcs]; have := Nat.mul_le_mul_right 2 hnc; omega
        have hjf : j < (flatK enc 2 d').size := by rw [size_flatK, hp1]; exact hj
        rw [List.getElem?_take_of_lt hj, Array.getElem?_toList, Array.getElem?_toList, Array.getElem?_eq_getElem hjf]
        simp only [putCells, Array.getElem?_mapIdx, Array.getElem?_eq_getElem hjc, Option.map_some]
        rw [if_pos ⟨Nat.zero_le _, by omega⟩, Nat.sub_zero, getElem!_pos _ j hjf]; rfl
      · rw [List.getElem?_eq_none (by simp; omega), List.getElem?_eq_none (by simp [hp1]; omega)]
    · change Reps _ 2 _ _
      refine ⟨by simp [hp1], fun p q hq => ?_⟩
      have hpl : p < xs.length := by have := (List.getElem?_eq_some_iff.1 hq).1; simpa [hp1] using this
      have hpd : p < d'.size := by rw [hp1]; exact hpl
      rw [List.getElem?_zipIdx, List.getElem?_map, Array.getElem?_toList, Array.getElem?_eq_getElem hpd] at hq
      simp only [Option.map_some, Nat.zero_add, Option.some.injEq] at hq
      subst hq
      have hch : ((flatK enc 2 d').toList.drop (p * 2)).take 2 = enc d'[p] := by
        apply List.ext_getElem?
        intro j
        by_cases hj : j < 2
        · have hjf : p * 2 + j < (flatK enc 2 d').size := by rw [size_flatK, hp1]; omega
          rw [List.getElem?_take_of_lt hj, List.getElem?_drop, Array.getElem?_toList, Array.getElem?_eq_getElem hjf, ← getElem!_pos (flatK enc 2 d') (p * 2 + j) hjf, get_flatK _ _ _ _ (by rw [hp1]; omega), show (p * 2 + j) / 2 = p by omega, show (p * 2 + j) % 2 = j by omega, getElem!_pos d' p hpd]
          rw [List.getElem!_eq_getElem?_getD, List.getElem?_eq_getElem (by rw [hk]; exact hj)]; rfl
        · rw [List.getElem?_eq_none (by simp; omega), List.getElem?_eq_none (by rw [hk]; omega)]
      show k28.M _ base _ xs[d'[p]] _
      rw [hch]
      have hz : xs.zipIdx[(d'[p]).1]? = some (xs[d'[p]], (d'[p]).1) := Kd.zip_at (by simp)
      have hm : k28.M W base _ xs[d'[p]] (enc d'[p]) := hre (d'[p]).1 _ hz
      refine k28.M_mono ?_ (Kd.M_step (w1 := sortWorldK enc 2 W g 0 m d' os) hm (fun j hj hjl => sw_heap enc 2 W g m d' os hjl (fun he => hj.1.2 (by simp [Value.ownBlock, he]))))
      rintro j ⟨hj1, hj2⟩
      refine ⟨hj1, ?_⟩
      show (d'.toList.map Fin.val).idxOf (f j) = p
      have : f j = (d'[p]).1 := hj2
      rw [this]
      have hpp : p < (d'.toList.map Fin.val).length := by simp [hp1, hpl]
      have hg2 : (d'.toList.map Fin.val)[p] = (d'[p]).1 := by simp
      rw [← hg2]
      exact hnd.idxOf_getElem p hpp
  · have := hp3.map (fun i => xs[i])
    refine this.trans ?_
    have e : (List.finRange xs.length).map (fun i => xs[i]) = xs := by apply List.ext_getElem <;> simp
    rw [e]
  · rw [List.pairwise_map, List.pairwise_iff_getElem]
    intro i j hi hj hij
    have := hso i j (Nat.zero_le _) hij (by rw [← hdl]; exact hj)
    have hi' : i < d'.size := by simpa using hi
    have hj' : j < d'.size := by simpa using hj
    rw [getElem!_pos d' i hi', getElem!_pos d' j hj'] at this
    simp only [ltOf, cf, decide_eq_false_iff_not] at this
    have e3 := cmpL_neg xs[d'[j]].f1 xs[d'[i]].f1
    simp only [Array.getElem_toList]
    omega
end Go.Proofs.Ytjhjphgdjhahlaa.P
