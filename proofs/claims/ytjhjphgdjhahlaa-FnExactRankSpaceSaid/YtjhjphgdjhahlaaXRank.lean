/- Each space of few items is one of all that are listed, at one place. -/
import Derived.Test.YtjhjphgdjhahlaaQ0
import Derived.Test.YtjhjphgdjhahlaaXCore
import Derived.Test.YtjhjphgdjhahlaaXFamily
import Derived.Test.YtjhjphgdjhahlaaXGood
import Derived.Test.YtjhjphgdjhahlaaXRankSpace
import Derived.Test.YtjhjphgdjhahlaaXSpaces
namespace Go.Proofs.Ytjhjphgdjhahlaa.P
open Go.RowKit Go.Proofs.YtjhjphgdjhahlaaW.PrintWords Go.Proofs.YtjhjphgdjhahlaaW.PrintLast Go.Proofs.YtjhjphgdjhahlaaW.PrintMore
set_option linter.unusedVariables false

theorem bits_exist (p : Nat → Bool) : ∀ K, ∃ m, m < 2 ^ K ∧ ∀ i, i < K → m.testBit i = p i
  | 0 => ⟨0, by simp, fun i h => by omega⟩
  | K + 1 => by
    obtain ⟨m, hm, hp⟩ := bits_exist p K
    cases hK : p K with
    | true =>
      refine ⟨m ||| 2 ^ K, Nat.or_lt_two_pow (Nat.lt_of_lt_of_le hm (Nat.pow_le_pow_right (by omega) (by omega))) (Nat.pow_lt_pow_right (by omega) (by omega)), fun i hi => ?_⟩
      rw [Nat.testBit_or, Nat.testBit_two_pow]
      by_cases h : i = K
      · subst h; simp [hK]
      · rw [hp i (by omega)]; simp; omega
    | false =>
      refine ⟨m, Nat.lt_of_lt_of_le hm (Nat.pow_le_pow_right (by omega) (by omega)), fun i hi => ?_⟩
      by_cases h : i = K
      · subst h; rw [hK]; exact Nat.testBit_lt_two_pow hm
      · exact hp i (by omega)
theorem setsM_mem (n m : Nat) (h1 : 2 ≤ 2 ^ n) (x : Int) : x ∈ setsM n m ↔ x = 0 ∨ (∃ i : Nat, x = ((i + 1 : Nat) : Int) ∧ i < 2 ^ n - 2 ∧ m.testBit i = true) ∨ x = ((2 ^ n - 1 : Nat) : Int) := by
  simp only [setsM, midM, List.mem_append, List.mem_singleton, List.mem_map, List.mem_filter, List.mem_range, or_assoc]
  constructor
  · rintro (h | ⟨i, ⟨h, hb⟩, rfl⟩ | h)
    · exact .inl h
    · exact .inr (.inl ⟨i, rfl, h, hb⟩)
    · exact .inr (.inr h)
  · rintro (h | ⟨i, rfl, h, hb⟩ | h)
    · exact .inl h
    · exact .inr (.inl ⟨i, ⟨h, hb⟩, rfl⟩)
    · exact .inr (.inr h)
theorem setsM_inj (n m m' : Nat) (h1 : 1 ≤ n) (h4 : n ≤ 4) (hm : m < 2 ^ (2 ^ n - 2)) (hm' : m' < 2 ^ (2 ^ n - 2)) (h : setsM n m = setsM n m') : m = m' := by
  obtain ⟨p1, p2, _, _⟩ := pow_small n h1 h4
  have key : ∀ a b, setsM n a = setsM n b → ∀ i, i < 2 ^ n - 2 → a.testBit i = true → b.testBit i = true := fun a b hab i hi ha => by
    have : ((i + 1 : Nat) : Int) ∈ setsM n b := by rw [← hab, setsM_mem n a p1]; exact .inr (.inl ⟨i, rfl, hi, ha⟩)
    rw [setsM_mem n b p1] at this
    rcases this with h | ⟨j, h, _, hb⟩ | h
    · omega
    · obtain rfl : i = j := by omega
      exact hb
    · omega
  apply Nat.eq_of_testBit_eq
  intro i
  by_cases hi : i < 2 ^ n - 2
  · rw [Bool.eq_iff_iff]; exact ⟨key m m' h i hi, key m' m h.symm i hi⟩
  · rw [Nat.testBit_lt_two_pow (Nat.lt_of_lt_of_le hm (Nat.pow_le_pow_right (by omega) (by omega))), Nat.testBit_lt_two_pow (Nat.lt_of_lt_of_le hm' (Nat.pow_le_pow_right (by omega) (by omega)))]
/-- A space is one of those that numbers tell. -/
theorem isSp_setsM (n : Nat) (l : List Int) (h1 : 1 ≤ n) (h4 : n ≤ 4) (h : isSpB n l = true) : ∃ m, m < 2 ^ (2 ^ n - 2) ∧ setsM n m = l := by
  obtain ⟨p1, p2, _, _⟩ := pow_small n h1 h4
  unfold isSpB at h
  rw [if_pos (by omega)] at h
  simp only [isSpN, Int.toNat_natCast, Bool.and_eq_true] at h
  obtain ⟨_, hr, h0, hA, _⟩ := h
  obtain ⟨hs, hb⟩ := rising_of hr
  have h0' : (0 : Int) ∈ l := by simpa [famOf] using h0
  have hA' : ((2 ^ n - 1 : Nat) : Int) ∈ l := by simpa [famOf_nat] using hA
  have hc : ((2 ^ n : Nat) : Int) = 2 ^ n := by simp
  obtain ⟨m, hm, hp⟩ := bits_exist (fun i => famOf l (i + 1)) (2 ^ n - 2)
  refine ⟨m, hm, ?_⟩
  have hs2 := setsM_rising n m h1
  have nd : ∀ {a : List Int}, a.Pairwise (· < ·) → a.Nodup := fun h => h.imp (fun h => by omega)
  have hperm : (setsM n m).Perm l := by
    rw [List.perm_ext_iff_of_nodup (nd hs2) (nd hs)]
    intro x
    rw [setsM_mem n m p1]
    constructor
    · rintro (rfl | ⟨i, rfl, hi, ht⟩ | rfl)
      · exact h0'
      · rw [hp i hi, famOf_nat] at ht; simpa using ht
      · exact hA'
    · intro hx
      have hxb := hb x hx
      rw [← hc] at hxb
      by_cases hx0 : x = 0
      · exact .inl hx0
      · by_cases hxA : x = ((2 ^ n - 1 : Nat) : Int)
        · exact .inr (.inr hxA)
        · obtain ⟨i, hi⟩ : ∃ i : Nat, x = ((i + 1 : Nat) : Int) := ⟨x.toNat - 1, by omega⟩
          have hil : i < 2 ^ n - 2 := by omega
          refine .inr (.inl ⟨i, hi, hil, ?_⟩)
          rw [hp i hil, famOf_nat, ← hi]; simpa using hx
  exact List.Perm.eq_of_pairwise (le := fun a b => a < b) (fun a b _ _ h h' => by omega) hs2 hs hperm
/-- .. and it stands at one place of the list of all. -/
theorem allSp_place (n : Nat) (l : List Int) (h1 : 1 ≤ n) (h4 : n ≤ 4) (h : isSpB n l = true) : ∃ j, ∃ hj : j < (allSp n).length, (allSp n)[j].f1 = l ∧ ∀ i (hi : i < (allSp n).length), (allSp n)[i].f1 = l → i = j := by
  obtain ⟨m, hm, rfl⟩ := isSp_setsM n l h1 h4 h
  have hmem : (⟨(n : Int), setsM n m⟩ : S28) ∈ allSp n := by
    refine (List.mergeSort_perm _ _).mem_iff.2 ?_
    exact List.mem_map.2 ⟨m, List.mem_filter.2 ⟨by simpa using hm, h⟩, rfl⟩
  have hnd : ((allSp n).map (·.f1)).Nodup := by
    have hp : ((allSp n).map (·.f1)).Perm ((rawSpaces n).map (·.f1)) := (List.mergeSort_perm _ _).map _
    refine hp.nodup_iff.2 ?_
    unfold rawSpaces rawS List.Nodup
    rw [List.map_map, List.pairwise_map]
    refine List.Pairwise.imp_of_mem ?_ (List.nodup_range.filter (goodM n))
    intro a b ha hb hab he
    have ha' := (List.mem_filter.1 ha).1
    have hb' := (List.mem_filter.1 hb).1
    exact hab (setsM_inj n a b h1 h4 (by simpa using ha') (by simpa using hb') he)
  obtain ⟨j, hj, he⟩ := List.getElem_of_mem hmem
  refine ⟨j, hj, by rw [he], fun i hi hfi => ?_⟩
  have hi' : i < ((allSp n).map (·.f1)).length := by simpa using hi
  have hj' : j < ((allSp n).map (·.f1)).length := by simpa using hj
  exact (List.getElem_inj (h₀ := hi') (h₁ := hj') hnd).1 (by simp [hfi, he])
theorem rank_at {xs : List S28} {l : List Int} {j : Nat} (hj : j < xs.length) (he : xs[j].f1 = l) (hu : ∀ i (hi : i < xs.length), xs[i].f1 = l → i = j) : rankI xs l = (j : Int) := by
  letI : Inhabited S28 := ⟨z28⟩
  unfold rankI
  have := Lib.idxBy_hit (fun (_ : S28) y => decide (y.f1 = l)) xs xs.length j z28 hj (Nat.le_refl _) (by simp [hj, he]) (fun i hi => by
    have hil : i < xs.length := by omega
    simp only [getElem!_pos xs i hil, decide_eq_false_iff_not]
    intro h
    have := hu i hil h
    omega)
  rwa [List.take_length] at this
end Go.Proofs.Ytjhjphgdjhahlaa.P
