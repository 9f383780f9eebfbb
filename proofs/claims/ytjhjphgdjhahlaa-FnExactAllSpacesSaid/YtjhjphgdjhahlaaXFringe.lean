/- impl's fringes: 'inner' and 'outer' of a family. -/
import Derived.Test.YtjhjphgdjhahlaaQ0
import Derived.Test.YtjhjphgdjhahlaaQ5
import Derived.Test.YtjhjphgdjhahlaaXCore
import Derived.Test.YtjhjphgdjhahlaaXFam
namespace Go.Proofs.Ytjhjphgdjhahlaa.P
open Go.RowKit Go.Proofs.YtjhjphgdjhahlaaW.PrintWords Go.Proofs.YtjhjphgdjhahlaaW.PrintLast Go.Proofs.YtjhjphgdjhahlaaW.PrintMore
set_option linter.unusedVariables false
set_option maxHeartbeats 800000
set_option maxRecDepth 100000

theorem items_pure (x : Nat) (hx : x < 128) : impl_items.f 8 (x : Int) = some (ints (itemsOf x)) := by
  have : ∀ x, x < 128 → impl_items.f 8 ((x : Nat) : Int) = some (ints (itemsOf x)) := by decide +kernel
  exact this x hx

theorem items_get (x : Nat) (j : Nat) (h : j < (itemsOf x).length) : ∃ i, i < 7 ∧ (itemsOf x)[j]? = some i ∧ (ints (itemsOf x))[j]?.getD 0 = (i : Int) := by
  have hm : (itemsOf x)[j] ∈ itemsOf x := List.getElem_mem h
  refine ⟨(itemsOf x)[j], ?_, by simp [h], by simp [ints, h]⟩
  simp only [itemsOf, List.mem_filter, List.mem_range] at hm
  exact hm.1

theorem inner_calls (g x : Nat) (F : Nat → Bool) (w : World) (hx : x < 128) (hF : FamAt w g F) :
    Calls Try.prog 130 #[.pointer (some ⟨g, 0, none⟩), .int .i64 (x : Int)] w fun e w' => e = .returned (.int .i64 ((inner F x : Nat) : Int)) ∧ Below w.heap.size w w' := by
  have HF := Aside0.mk hF
  clear hF
  go_enter Try.func130, Try.ntmps130
  go_wp2_with (go_at_call 110; refine (impl_items.calls 8 (x : Int) _ w (items_pure x hx)).mono ?_; rintro e w1 ⟨v0, rfl, ho, hb⟩; have HO := Aside0.mk ho; have HB := Aside0.mk hb; clear ho hb; obtain ⟨A, c, rfl⟩ := Kd.R_slice HO.out)
  have hlen : (ints (itemsOf x)).length = (itemsOf x).length := by simp [ints]
  have hl7 : (itemsOf x).length ≤ 7 := List.length_filter_le _ _
  have HLEN := Aside0.mk hlen
  clear hlen

  go_loopg [5, 11] (itemsOf x).length (fun kq v5 v11 w' => ∃ i : Nat, v11 = .int .i64 i ∧ v5 = .int .i64 ((innerF F x ((itemsOf x).take i) : Nat) : Int) ∧ i ≤ (itemsOf x).length ∧ Aside0 (kq = (itemsOf x).length - i) ∧ Aside0 (Below w1.heap.size w1 w'))
  case atStart => exact ⟨0, rfl, rfl, Nat.zero_le _, ⟨rfl⟩, ⟨Below.refl _ _⟩⟩
  case round =>
    obtain ⟨i, rfl, rfl, hi, HK, HB1⟩ := hrel
    by_cases hlt : i < (itemsOf x).length
    · obtain ⟨a, ha, hg, hg2⟩ := items_get x i hlt
      obtain ⟨ad, e1, hx1⟩ := int_at ((Kd.R_reads' HO.out).2.2) i (by rw [HLEN.out]; exact hlt)
      cases e1
      rw [hg2] at hx1
      replace hx1 := pw_cell_below HB1.out hx1
      have HLT : i < (ints (itemsOf x)).length := by rw [HLEN.out]; exact hlt
      have hF1 := (HF.out.below HB.out).below HB1.out
      obtain ⟨p, hp1, hp2, hp⟩ := bit_letter a (by omega)
      obtain ⟨q, hq⟩ : ∃ q, wout x a = q := ⟨_, rfl⟩
      have hq1 : Go.bits .andNot .i64 (x : Int) p = (q : Int) := by rw [hp, ← hq]; exact go_wout x a hx ha
      have hq2 : q < 128 := by rw [← hq]; exact wout_lt x a hx
      have hor : ∀ o : Nat, o < 128 → Go.bits .or .i64 (o : Int) p = ((wth o a : Nat) : Int) := fun o ho => by rw [hp]; exact go_wth o a ho ha
      have hcell := hF1.cell q hq2
      have hol := innerF_lt F x ((itemsOf x).take i) (by intro j hj; have := List.mem_of_mem_take hj; simp [itemsOf] at this; exact this.1)
      obtain ⟨o, ho⟩ : ∃ o, innerF F x ((itemsOf x).take i) = o := ⟨_, rfl⟩
      rw [ho] at hol
      have hor1 := hor o hol
      have HQ := Aside0.mk hq
      have HO1 := Aside0.mk ho
      have HOR := Aside0.mk hor
      rw [ho]
      obtain ⟨b, hb⟩ : ∃ b, F q = b := ⟨_, rfl⟩
      rw [hb] at hcell
      have HBB := Aside0.mk hb
      have HG := Aside0.mk hg
      have htk : (itemsOf x).take (i + 1) = (itemsOf x).take i ++ [a] := by
        rw [List.take_add_one, hg]; rfl
      have HTK := Aside0.mk htk
      clear hF1 hp hq ho hor hb hg htk
      cases b
      all_goals
        go_wp2
        go_quiet (fail)
        go_wp2
        go_roundg ((itemsOf x).length - (i + 1))
        case measure => have := HK.out; omega
        case rel =>
          refine ⟨i + 1, by go_num, ?_, by omega, ⟨rfl⟩, ⟨by repeat (first | exact HB1.out | apply pw_below_drewN)⟩⟩
          rw [HTK.out, innerF_snoc, HQ.out, HBB.out, HO1.out]
          simp
    · have hi2 : i = (itemsOf x).length := by omega
      have HI := Aside0.mk hi2
      have hge : ¬ i < (ints (itemsOf x)).length := by rw [HLEN.out]; exact hlt
      clear hi2
      go_wp2
      go_ret
      refine ⟨?_, below_then HB.out HB.out.size HB1.out⟩
      rw [HI.out, List.take_length]; rfl
theorem outer_calls (g x : Nat) (F : Nat → Bool) (w : World) (hx : x < 128) (hF : FamAt w g F) :
    Calls Try.prog 111 #[.pointer (some ⟨g, 0, none⟩), .int .i64 (x : Int)] w fun e w' => e = .returned (.int .i64 ((outer F x : Nat) : Int)) ∧ Below w.heap.size w w' := by
  have HF := Aside0.mk hF
  clear hF
  go_enter Try.func111, Try.ntmps111
  go_wp2_with fail
  go_loopg [5, 7] 7 (fun kq v5 v7 w' => ∃ i : Nat, v7 = .int .i64 i ∧ v5 = .int .i64 ((outerF F x (List.range i) : Nat) : Int) ∧ i ≤ 7 ∧ Aside0 (kq = 7 - i) ∧ Aside0 (Below w.heap.size w w'))
  case atStart => exact ⟨0, rfl, rfl, Nat.zero_le _, ⟨rfl⟩, ⟨Below.refl _ _⟩⟩
  case round =>
    obtain ⟨i, rfl, rfl, hi, HK, HB1⟩ := hrel
    by_cases hlt : i < 7
    · obtain ⟨p, hp1, hp2, hp⟩ := bit_letter i (by omega)
      obtain ⟨q, hq⟩ : ∃ q, wth x i = q := ⟨_, rfl⟩
      have hq1 : Go.bits .or .i64 (x : Int) p = (q : Int) := by rw [hp, ← hq]; exact go_wth x i hx hlt
      have hq2 : q < 128 := by rw [← hq]; exact wth_lt x i hx hlt
      have hol := outerF_lt F x i hi
      obtain ⟨o, ho⟩ : ∃ o, outerF F x (List.range i) = o := ⟨_, rfl⟩
      rw [ho] at hol
      have hor1 : Go.bits .or .i64 (o : Int) p = ((wth o i : Nat) : Int) := by rw [hp]; exact go_wth o i hol hlt
      have hcell := (HF.out.below HB1.out).cell q hq2
      obtain ⟨sh, hsh, hbit⟩ := shr_letter x i hx (by omega)
      obtain ⟨b, hb⟩ : ∃ b, F q = b := ⟨_, rfl⟩
      rw [hb] at hcell
      obtain ⟨c, hc⟩ : ∃ c, x.testBit i = c := ⟨_, rfl⟩
      rw [hc] at hbit
      have hs := outerF_succ F x i
      rw [hq, hb, ho, hc] at hs
      have HO1 := Aside0.mk ho
      have HS := Aside0.mk hs
      rw [ho]
      clear hp hq ho hb hc hs
      cases c <;> cases b
      all_goals
        simp only [Bool.false_eq_true, if_false, if_true] at hbit
        go_wp2_with fail
        go_quiet (fail)
        go_wp2
        go_roundg (7 - (i + 1))
        case measure => have := HK.out; omega
        case rel =>
          refine ⟨i + 1, by go_num, ?_, by omega, ⟨rfl⟩, ⟨by repeat (first | exact HB1.out | apply pw_below_drewN)⟩⟩
          rw [HS.out]
          simp
    · have hi2 : i = 7 := by omega
      subst hi2
      go_wp2
      go_ret
      exact ⟨rfl, HB1.out⟩
end Go.Proofs.Ytjhjphgdjhahlaa.P
