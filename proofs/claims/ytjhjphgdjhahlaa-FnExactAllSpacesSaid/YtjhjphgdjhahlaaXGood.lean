/- spec's 'spGood' says of a list of sets what impl's IsSpace says: no program's walk, the printed functions alone. -/
import Derived.Test.YtjhjphgdjhahlaaQ0
import Derived.Test.YtjhjphgdjhahlaaQ1
import Derived.Test.YtjhjphgdjhahlaaQ2
import Derived.Test.YtjhjphgdjhahlaaXCore
namespace Go.Proofs.Ytjhjphgdjhahlaa.P
open Go.RowKit Go.Proofs.YtjhjphgdjhahlaaW.PrintWords Go.Proofs.YtjhjphgdjhahlaaW.PrintLast Go.Proofs.YtjhjphgdjhahlaaW.PrintMore
set_option linter.unusedVariables false

section
variable {α : Type} {c : Prop} [Decidable c] {A B : Nat → Option α} {r : α}
theorem Ev.pos (hc : c) (h : Ev A r) : Ev (fun k => if c then A k else B k) r := Ev.congr (fun _ => if_pos hc) h
theorem Ev.neg (hc : ¬ c) (h : Ev B r) : Ev (fun k => if c then A k else B k) r := Ev.congr (fun _ => if_neg hc) h
theorem Ev.one {r' : α} (h : r' = r) : Ev (fun _ => some r') r := by subst h; exact Ev.now _
end

theorem famOf_nat (l : List Int) (x : Nat) : famOf l x = decide ((x : Int) ∈ l) := rfl
theorem spIn_nat (x i : Nat) (hi : i < 64) : spec_spIn.f (x : Int) (i : Int) = some (x.testBit i) := by
  unfold spec_spIn.f
  rw [if_pos (by omega)]
  have e : shr .i64 (x : Int) (i : Int) = ((x / 2 ^ i : Nat) : Int) := by
    unfold shr; rw [Nat.min_eq_left (by simp [IntKind.bits]; omega)]; simp
  rw [e, Int.tmod_eq_emod_of_nonneg (Int.natCast_nonneg _), Nat.testBit_eq_decide_div_mod_eq]
  congr 1
  rw [Bool.eq_iff_iff]
  simp only [beq_iff_eq, decide_eq_true_eq]
  omega
theorem rd_at (l : List Int) (i : Nat) (h : i < l.length) : rd l (i : Int) = l[i] := by unfold rd; simp [h]

theorem spHas_from (l : List Int) (x : Int) (hs : l.Pairwise (· < ·)) (hl : l.length < 1152921504606846976) : ∀ (m lo hi : Nat), hi - lo ≤ m → lo ≤ hi → hi ≤ l.length → (∀ j (h : j < l.length), j < lo → l[j] < x) → (∀ j (h : j < l.length), hi ≤ j → x ≤ l[j]) →
    Ev (fun k => spec_spHas.l0 k l x (lo : Int) (hi : Int)) (decide (x ∈ l)) := by
  have lt : ∀ i j (hi : i < l.length) (hj : j < l.length), i < j → l[i] < l[j] := fun i j hi hj h => List.pairwise_iff_getElem.1 hs i j hi hj h
  intro m
  induction m with
  | zero =>
    intro lo hi hm hle hhl h1 h2
    obtain rfl : lo = hi := by omega
    refine Ev.step (fun k => spec_spHas.l0.eq_2 _ _ _ _ k) ?_
    refine Ev.neg (by omega) ?_
    by_cases hlo : lo < l.length
    · refine Ev.pos (by omega) (Ev.pos (by omega) (Ev.one ?_))
      rw [rd_at l lo hlo, Bool.eq_iff_iff]
      simp only [beq_iff_eq, decide_eq_true_eq]
      constructor
      · rintro rfl; exact List.getElem_mem _
      · intro hm
        obtain ⟨j, hj, rfl⟩ := List.getElem_of_mem hm
        rcases Nat.lt_trichotomy j lo with h | h | h
        · have := h1 j hj h; omega
        · subst h; rfl
        · have := h2 lo hlo (Nat.le_refl _); have := lt lo j hlo hj h; omega
    · refine Ev.neg (by omega) (Ev.one ?_)
      rw [eq_comm, decide_eq_false_iff_not]
      intro hm
      obtain ⟨j, hj, rfl⟩ := List.getElem_of_mem hm
      have := h1 j hj (by omega); omega
  | succ m ih =>
    intro lo hi hm hle hhl h1 h2
    by_cases hlt : lo < hi
    · refine Ev.step (fun k => spec_spHas.l0.eq_2 _ _ _ _ k) ?_
      have em : wrap64 (Int.tdiv (wrap64 ((lo : Int) + (hi : Int))) 2) = (((lo + hi) / 2 : Nat) : Int) := by
        have : wrap64 ((lo : Int) + (hi : Int)) = ((lo + hi : Nat) : Int) := by unfold wrap64; omega
        rw [this, Int.tdiv_eq_ediv_of_nonneg (by omega)]; unfold wrap64; omega
      have hmid : (lo + hi) / 2 < l.length := by omega
      simp only [em]
      refine Ev.pos (by omega) (Ev.pos (by omega) (Ev.pos (by omega) ?_))
      rw [rd_at l _ hmid]
      by_cases hc : l[(lo + hi) / 2] < x
      · refine Ev.pos hc ?_
        rw [wrap_small (by omega) (by omega)]
        have := ih ((lo + hi) / 2 + 1) hi (by omega) (by omega) hhl (fun j hj hjl => by
          rcases Nat.lt_or_ge j ((lo + hi) / 2) with h | h
          · have := lt j _ hj hmid h; omega
          · obtain rfl : j = (lo + hi) / 2 := by omega
            exact hc) h2
        simpa using this
      · refine Ev.neg hc ?_
        exact ih lo ((lo + hi) / 2) (by omega) (by omega) (by omega) h1 (fun j hj hjl => by
          rcases Nat.lt_or_ge ((lo + hi) / 2) j with h | h
          · have := lt _ j hmid hj h; omega
          · obtain rfl : j = (lo + hi) / 2 := by omega
            omega)
    · exact ih lo hi (by omega) hle hhl h1 h2
theorem spHas_pure (l : List Int) (x : Int) (hs : l.Pairwise (· < ·)) (hl : l.length < 1152921504606846976) : Ev (fun k => spec_spHas.f k l x) (decide (x ∈ l)) :=
  spHas_from l x hs hl l.length 0 l.length (by omega) (by omega) (by omega) (fun _ _ h => by omega) (fun _ _ h => by omega)

theorem go_xout (x i : Nat) (hx : x < 128) (hi : i < 7) (hb : x.testBit i = true) : Go.bits .xor .i64 (x : Int) (shl .i64 1 (i : Int)) = ((wout x i : Nat) : Int) := by
  have : ∀ x, x < 128 → ∀ i, i < 7 → x.testBit i = true → Go.bits .xor .i64 ((x : Nat) : Int) (shl .i64 1 ((i : Nat) : Int)) = ((wout x i : Nat) : Int) := by decide +kernel
  exact this x hx i hi hb
def innerR (F : Nat → Bool) (x i : Nat) : Nat := (List.range i).foldl (fun o j => if x.testBit j then (if F (wout x j) then wth o j else o) else o) 0
theorem innerR_all (F : Nat → Bool) (x : Nat) : innerR F x 7 = inner F x := by
  unfold innerR inner innerF itemsOf
  rw [List.foldl_filter]
theorem innerR_succ (F : Nat → Bool) (x i : Nat) : innerR F x (i + 1) = if x.testBit i then (if F (wout x i) then wth (innerR F x i) i else innerR F x i) else innerR F x i := by
  simp [innerR, List.range_succ]
theorem innerR_lt (F : Nat → Bool) (x i : Nat) (hi : i ≤ 7) : innerR F x i < 128 := by
  induction i with
  | zero => simp [innerR]
  | succ i ih =>
    rw [innerR_succ]
    have := ih (by omega)
    split
    · split
      · exact wth_lt _ _ this (by omega)
      · exact this
    · exact this
theorem spInner_from (l : List Int) (x : Nat) (hx : x < 128) (hs : l.Pairwise (· < ·)) (hl : l.length < 1152921504606846976) : ∀ (m i : Nat), i + m = 7 →
    Ev (fun k => spec_spInner.l0 k l (x : Int) ((innerR (famOf l) x i : Nat) : Int) (i : Int)) ((inner (famOf l) x : Nat) : Int) := by
  intro m
  induction m with
  | zero =>
    intro i hi
    obtain rfl : i = 7 := by omega
    refine Ev.step (fun k => spec_spInner.l0.eq_2 _ _ _ _ k) ?_
    refine Ev.neg (by omega) (Ev.one (by rw [innerR_all]))
  | succ m ih =>
    intro i hi
    refine Ev.step (fun k => spec_spInner.l0.eq_2 _ _ _ _ k) ?_
    refine Ev.pos (by omega) (Ev.bind (by rw [spIn_nat x i (by omega)]; exact Ev.now _) ?_)
    have h2 := ih (i + 1) (by omega)
    have ew : wrap64 ((i : Int) + 1) = ((i + 1 : Nat) : Int) := by rw [wrap_small (by omega) (by omega)]; omega
    simp only [ew]
    rw [innerR_succ] at h2
    cases hb : x.testBit i with
    | true =>
      rw [hb] at h2
      simp only [if_true] at h2 ⊢
      refine Ev.pos (by omega) (Ev.bind (by rw [go_xout x i hx (by omega) hb]; exact spHas_pure l _ hs hl) ?_)
      rw [famOf_nat] at h2
      cases hf : decide (((wout x i : Nat) : Int) ∈ l) with
      | true =>
        rw [hf] at h2
        simp only [if_true] at h2 ⊢
        rw [shl_one i (by omega), go_wth _ i (innerR_lt _ _ _ (by omega)) (by omega)]
        exact h2
      | false =>
        rw [hf] at h2
        simp only [Bool.false_eq_true, if_false] at h2 ⊢
        exact h2
    | false =>
      rw [hb] at h2
      simp only [Bool.false_eq_true, if_false] at h2 ⊢
      exact h2
theorem spInner_pure (l : List Int) (x : Nat) (hx : x < 128) (hs : l.Pairwise (· < ·)) (hl : l.length < 1152921504606846976) : Ev (fun k => spec_spInner.f k l (x : Int)) ((inner (famOf l) x : Nat) : Int) := by
  have := spInner_from l x hx hs hl 7 0 (by omega)
  exact this

theorem l1Rising_from (l : List Int) (n : Nat) (hn : n < 8) (hl : l.length < 1152921504606846976) : ∀ (m i : Nat), i + m = l.length →
    Ev (fun k => spec_l1Rising.l0 k l 0 (2 ^ n - 1) l (l.length : Int) (i : Int)) ((List.range' i m).all (incOk n l)) := by
  intro m
  induction m with
  | zero =>
    intro i hi
    refine Ev.step (fun k => spec_l1Rising.l0.eq_2 _ _ _ _ _ _ k) ?_
    exact Ev.neg (by omega) (Ev.now _)
  | succ m ih =>
    intro i hi
    have hil : i < l.length := by omega
    refine Ev.step (fun k => spec_l1Rising.l0.eq_2 _ _ _ _ _ _ k) ?_
    have ei : spec_l1In.f (rd l (i : Int)) 0 (2 ^ n - 1) = some (decide (0 ≤ l[i] ∧ l[i] < 2 ^ n)) := by
      rw [rd_at l i hil]
      unfold spec_l1In.f
      by_cases h : l[i] ≥ 0
      · rw [if_pos h]; congr 1; rw [decide_eq_decide]; omega
      · rw [if_neg h]; congr 1; rw [eq_comm, decide_eq_false_iff_not]; omega
    refine Ev.pos (by omega) (Ev.pos (by omega) (Ev.pos (by omega) (Ev.bind (by rw [ei]; exact Ev.now _) ?_)))
    have ew : wrap64 ((i : Int) + 1) = ((i + 1 : Nat) : Int) := by rw [wrap_small (by omega) (by omega)]; omega
    have h2 := ih (i + 1) (by omega)
    have er : (List.range' i (m + 1)).all (incOk n l) = (incOk n l i && (List.range' (i + 1) m).all (incOk n l)) := by rw [List.range'_succ]; rfl
    have ec : incOk n l i = (decide (0 ≤ l[i] ∧ l[i] < 2 ^ n) && (decide (i = 0) || decide (l[i - 1]?.getD 0 < l[i]))) := by unfold incOk; simp [hil]
    rw [er, ec]
    simp only [ew]
    cases hd : decide (0 ≤ l[i] ∧ l[i] < 2 ^ n) with
    | false => simp only [Bool.false_eq_true, if_false, Bool.false_and]; exact Ev.now _
    | true =>
      simp only [if_true, Bool.true_and]
      by_cases h0 : i = 0
      · subst h0
        refine Ev.neg (by omega) ?_
        simpa using h2
      · have e1 : wrap64 ((i : Int) - 1) = ((i - 1 : Nat) : Int) := by unfold wrap64; omega
        simp only [e1]
        refine Ev.pos (by omega) (Ev.pos (by omega) (Ev.pos (by omega) ?_))
        rw [rd_at l i hil, rd_at l (i - 1) (by omega)]
        have e2 : l[i - 1]?.getD 0 = l[i - 1] := by simp [show i - 1 < l.length by omega]
        rw [e2]
        by_cases h : l[i - 1] ≥ l[i]
        · refine Ev.pos h (Ev.one ?_)
          rw [show decide (i = 0) = false by simpa using h0, show decide (l[i - 1] < l[i]) = false by rw [decide_eq_false_iff_not]; omega]; rfl
        · refine Ev.neg h ?_
          rw [show decide (l[i - 1] < l[i]) = true by rw [decide_eq_true_eq]; omega]
          simpa using h2
theorem l1Rising_pure (l : List Int) (n : Nat) (hn : n < 8) (hl : l.length < 1152921504606846976) : Ev (fun k => spec_l1Rising.f k l 0 (2 ^ n - 1)) ((List.range l.length).all (incOk n l)) := by
  have := l1Rising_from l n hn hl l.length 0 (by omega)
  rw [← List.range_eq_range'] at this
  exact this
/-- What rising says. -/
theorem rising_of {l : List Int} {n : Nat} (h : (List.range l.length).all (incOk n l) = true) : l.Pairwise (· < ·) ∧ ∀ x ∈ l, 0 ≤ x ∧ x < 2 ^ n := by
  rw [List.all_eq_true] at h
  have h' : ∀ i (hi : i < l.length), (0 ≤ l[i] ∧ l[i] < 2 ^ n) ∧ (i = 0 ∨ l[i - 1]?.getD 0 < l[i]) := fun i hi => by
    have := h i (by simpa using hi)
    simpa [incOk, hi] using this
  constructor
  · rw [List.pairwise_iff_getElem]
    intro i j hi hj hij
    obtain ⟨m, rfl⟩ : ∃ m, j = i + 1 + m := ⟨j - i - 1, by omega⟩
    induction m with
    | zero =>
      have := (h' (i + 1) hj).2
      simp [hi] at this
      exact this
    | succ m ih =>
      have h1 := ih (by omega) (by omega)
      have h2 := (h' (i + 1 + (m + 1)) hj).2
      have e : i + 1 + (m + 1) - 1 = i + 1 + m := by omega
      rw [e] at h2
      simp [show i + 1 + m < l.length by omega] at h2
      omega
  · intro x hx
    obtain ⟨i, hi, rfl⟩ := List.getElem_of_mem hx
    exact (h' i hi).1

section
set_option linter.unusedSectionVars false
variable (l : List Int) (n : Nat) (hn : n < 8) (hs : l.Pairwise (· < ·)) (hb : ∀ x ∈ l, 0 ≤ x ∧ x < 2 ^ n) (hl : l.length < 1152921504606846976)
include hn hs hb hl
theorem el_nat (i : Nat) (hi : i < l.length) : ∃ x : Nat, l[i] = (x : Int) ∧ x < 128 ∧ l[i].toNat = x := by
  have h1 := hb _ (List.getElem_mem hi)
  refine ⟨l[i].toNat, by omega, ?_, rfl⟩
  have : (2 : Int) ^ n ≤ 128 := by
    have : (2 : Nat) ^ n ≤ 2 ^ 7 := Nat.pow_le_pow_right (by omega) (by omega)
    have h3 : ((2 ^ n : Nat) : Int) ≤ ((2 ^ 7 : Nat) : Int) := by exact_mod_cast this
    simpa using h3
  omega
theorem spGood_l1 (x : Nat) (hx : x < 128) (a : Int) (e : Int) (i : Nat) (q : Bool) (hq : Ev (fun k => spec_spGood.l0 k l e (wrap64 ((i : Int) + 1)) a l) q) : ∀ (m j : Nat), j + m = l.length →
    Ev (fun k => spec_spGood.l1 k (x : Int) l e (i : Int) l (l.length : Int) (j : Int) a l) ((l.drop j).all (fun y => famOf l (x ||| y.toNat)) && q) := by
  intro m
  induction m with
  | zero =>
    intro j hj
    refine Ev.step (fun k => spec_spGood.l1.eq_2 _ _ _ _ _ _ _ _ _ k) ?_
    refine Ev.neg (by omega) ?_
    rw [List.drop_eq_nil_of_le (by omega)]
    exact hq
  | succ m ih =>
    intro j hj
    have hjl : j < l.length := by omega
    refine Ev.step (fun k => spec_spGood.l1.eq_2 _ _ _ _ _ _ _ _ _ k) ?_
    obtain ⟨y, hy, hy1, hy2⟩ := el_nat l n hn hs hb hl j hjl
    have h2 := ih (j + 1) (by omega)
    have ew : wrap64 ((j : Int) + 1) = ((j + 1 : Nat) : Int) := by rw [wrap_small (by omega) (by omega)]; omega
    refine Ev.pos (by omega) (Ev.pos (by omega) (Ev.pos (by omega) (Ev.bind (by rw [rd_at l j hjl, hy, go_or x y hx hy1]; exact spHas_pure l _ hs hl) ?_)))
    rw [List.drop_eq_getElem_cons hjl, List.all_cons, hy2, famOf_nat]
    simp only [ew]
    cases hd : decide (((x ||| y : Nat) : Int) ∈ l) with
    | true => simp only [if_true, Bool.true_and]; exact h2
    | false => simp only [Bool.false_eq_true, if_false, Bool.false_and]; exact Ev.now _
theorem spGood_l0 (a : Int) : ∀ (m i : Nat), i + m = l.length → Ev (fun k => spec_spGood.l0 k l (l.length : Int) (i : Int) a l) ((l.drop i).all (rowOk (famOf l) l)) := by
  intro m
  induction m with
  | zero =>
    intro i hi
    refine Ev.step (fun k => spec_spGood.l0.eq_2 _ _ _ _ _ k) ?_
    refine Ev.neg (by omega) ?_
    rw [List.drop_eq_nil_of_le (by omega)]
    exact Ev.now _
  | succ m ih =>
    intro i hi
    have hil : i < l.length := by omega
    obtain ⟨x, hx, hx1, hx2⟩ := el_nat l n hn hs hb hl i hil
    have h2 := ih (i + 1) (by omega)
    have ew : wrap64 ((i : Int) + 1) = ((i + 1 : Nat) : Int) := by rw [wrap_small (by omega) (by omega)]; omega
    have h3 := spGood_l1 l n hn hs hb hl x hx1 a (l.length : Int) i _ (by rw [ew]; exact h2) l.length 0 (by omega)
    have e : (l.drop i).all (rowOk (famOf l) l) = ((decide ((x : Int) = 0) || decide (inner (famOf l) x ≠ 0)) && ((l.drop 0).all (fun y => famOf l (x ||| y.toNat)) && (l.drop (i + 1)).all (rowOk (famOf l) l))) := by
      rw [List.drop_eq_getElem_cons hil, List.all_cons, List.drop_zero, ← Bool.and_assoc]
      unfold rowOk orOk
      rw [hx2, hx]
    rw [e]
    refine Ev.step (fun k => spec_spGood.l0.eq_2 _ _ _ _ _ k) ?_
    refine Ev.pos (by omega) (Ev.pos (by omega) (Ev.pos (by omega) ?_))
    rw [rd_at l i hil, hx]
    by_cases hp : (x : Int) > 0
    · refine Ev.pos hp (Ev.bind (spInner_pure l x hx1 hs hl) ?_)
      refine Ev.step (fun k => spec_spGood.j3.eq_2 _ _ _ _ _ _ _ k) ?_
      rw [show decide ((x : Int) = 0) = false by rw [decide_eq_false_iff_not]; omega, Bool.false_or]
      by_cases hz : inner (famOf l) x = 0
      · refine Ev.pos (by rw [hz]; rfl) (Ev.one ?_)
        simp [hz]
      · refine Ev.neg (by simp; omega) ?_
        rw [show decide (inner (famOf l) x ≠ 0) = true by simpa using hz, Bool.true_and]
        exact h3
    · refine Ev.neg hp ?_
      refine Ev.step (fun k => spec_spGood.j3.eq_2 _ _ _ _ _ _ _ k) ?_
      refine Ev.neg (by simp) ?_
      rw [show decide ((x : Int) = 0) = true by rw [decide_eq_true_eq]; omega, Bool.true_or, Bool.true_and]
      exact h3
end
theorem pow_wrap (n : Nat) (hn : n < 8) : wrap64 ((shl .i64 1 (n : Int)) - 1) = (2 : Int) ^ n - 1 ∧ shl .i64 1 (n : Int) = (2 : Int) ^ n ∧ ((2 ^ n - 1 : Nat) : Int) = 2 ^ n - 1 := by
  have : ∀ n, n < 8 → wrap64 ((shl .i64 1 ((n : Nat) : Int)) - 1) = (2 : Int) ^ n - 1 ∧ shl .i64 1 (n : Int) = (2 : Int) ^ n ∧ ((2 ^ n - 1 : Nat) : Int) = 2 ^ n - 1 := by decide +kernel
  exact this n hn
/-- spec's 'spGood' asks what impl's IsSpace asks. -/
theorem spGood_pure (a : Int) (l : List Int) (hl : l.length < 1152921504606846976) : Ev (fun k => spec_spGood.f k a l) (isSpB a l) := by
  unfold isSpB
  have ei : spec_spItems.f a = some (decide (1 ≤ a ∧ a ≤ 7)) := by
    unfold spec_spItems.f spec_l1In.f
    by_cases h : a ≥ 1
    · rw [if_pos h]; simp only [Option.bind_some]; congr 1; rw [decide_eq_decide]; omega
    · rw [if_neg h]; simp only [Option.bind_some]; congr 1; rw [eq_comm, decide_eq_false_iff_not]; omega
  by_cases ha : 1 ≤ a ∧ a ≤ 7
  · rw [if_pos ha]
    obtain ⟨n, rfl⟩ : ∃ n : Nat, a = n := ⟨a.toNat, by omega⟩
    have hn : n < 8 := by omega
    obtain ⟨p1, p2, p3⟩ := pow_wrap n hn
    rw [show ((n : Int)).toNat = n by omega]
    unfold isSpN
    refine Ev.congr (fun k => spec_spGood.f.eq_1 k _ _) (Ev.bind (by rw [ei]; exact Ev.now _) ?_)
    rw [show decide (1 ≤ (n : Int) ∧ (n : Int) ≤ 7) = true by simpa using ha]
    refine Ev.pos rfl (Ev.pos (by omega) ?_)
    rw [p1, p2]
    have hj0 : ∀ (b : Bool), b = true → Ev (fun k => spec_spGood.j0 k b (n : Int) l) false := fun b hb => by
      refine Ev.step (fun k => spec_spGood.j0.eq_2 _ _ _ k) (Ev.pos hb (Ev.now _))
    have hc : (l.length : Int) > 2 ^ n ↔ ¬ l.length ≤ 2 ^ n := by
      have : ((2 ^ n : Nat) : Int) = 2 ^ n := by simp
      omega
    by_cases hlen : l.length ≤ 2 ^ n
    · refine Ev.neg (by rw [hc]; simpa using hlen) (Ev.bind (l1Rising_pure l n hn hl) ?_)
      rw [show decide (l.length ≤ 2 ^ n) = true by simpa using hlen, Bool.true_and]
      cases hr : (List.range l.length).all (incOk n l) with
      | false => rw [Bool.false_and]; exact hj0 _ rfl
      | true =>
        obtain ⟨hs, hb⟩ := rising_of hr
        rw [Bool.true_and]
        refine Ev.step (fun k => spec_spGood.j0.eq_2 _ _ _ k) (Ev.neg (by simp) (Ev.bind (spHas_pure l 0 hs hl) ?_))
        have hj1 : Ev (fun k => spec_spGood.j1 k true (n : Int) l) false := Ev.step (fun k => spec_spGood.j1.eq_2 _ _ _ k) (Ev.pos rfl (Ev.now _))
        have e0 : famOf l 0 = decide ((0 : Int) ∈ l) := rfl
        rw [e0]
        cases h0 : decide ((0 : Int) ∈ l) with
        | false => rw [Bool.false_and]; exact Ev.neg (by simp) hj1
        | true =>
          rw [Bool.true_and]
          refine Ev.pos rfl (Ev.pos (by omega) (Ev.bind (by rw [p1]; exact spHas_pure l _ hs hl) ?_))
          have e1 : famOf l (2 ^ n - 1) = decide (((2 : Int) ^ n - 1) ∈ l) := by rw [famOf_nat, p3]
          rw [e1]
          cases h1 : decide (((2 : Int) ^ n - 1) ∈ l) with
          | false => rw [Bool.false_and]; exact hj1
          | true =>
            rw [Bool.true_and]
            refine Ev.step (fun k => spec_spGood.j1.eq_2 _ _ _ k) (Ev.neg (by simp) ?_)
            exact spGood_l0 l n hn hs hb hl (n : Int) l.length 0 (by omega)
    · refine Ev.pos (by rw [hc]; exact hlen) ?_
      rw [show decide (l.length ≤ 2 ^ n) = false by simpa using hlen, Bool.false_and]
      exact hj0 _ rfl
  · rw [if_neg ha]
    refine Ev.congr (fun k => spec_spGood.f.eq_1 k _ _) (Ev.bind (by rw [ei]; exact Ev.now _) ?_)
    rw [show decide (1 ≤ a ∧ a ≤ 7) = false by simpa using ha]
    refine Ev.neg (by simp) ?_
    exact Ev.step (fun k => spec_spGood.j0.eq_2 _ _ _ k) (Ev.pos rfl (Ev.now _))
end Go.Proofs.Ytjhjphgdjhahlaa.P
