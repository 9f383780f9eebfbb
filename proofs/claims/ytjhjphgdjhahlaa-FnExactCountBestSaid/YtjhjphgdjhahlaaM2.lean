/- Texts of this claim, put together: XTasks, XCost, XFam, XFringe, XIsSpace, XPick, XGreedy, XBest, Q8, XCostOf, XGreedyBest, XKb, XWords, XWordsAll, XCountBest. -/
import Derived.Test.YtjhjphgdjhahlaaM0
import Derived.Test.YtjhjphgdjhahlaaM1
import Derived.Laws.EntriesVeiled
import Derived.Deep.RegionLaw
import Derived.Test.YtjhjphgdjhahlaaWWords
import Derived.Test.YtjhjphgdjhahlaaWKept
import Derived.Test.YtjhjphgdjhahlaaWMore
import Derived.Shelf.Abstract
import Derived.Lib.LazyBuf
/- impl's tasks: are they ones for so many items? -/
namespace Go.Proofs.Ytjhjphgdjhahlaa.P
open Go.RowKit Go.Proofs.YtjhjphgdjhahlaaW.PrintWords Go.Proofs.YtjhjphgdjhahlaaW.PrintLast Go.Proofs.YtjhjphgdjhahlaaW.PrintMore
set_option linter.unusedVariables false
set_option maxHeartbeats 1600000
set_option maxRecDepth 100000

def tv (x : S54) : Value := .agg #[.int .i64 x.f0, .int .i64 x.f1, .int .i64 x.f2]
theorem indexFunc_task (g : Nat) (lb : Array Value) (P : S54 → Bool) (A : Option Addr) (l : List S54) (c : Nat) (w : World) (hr : Kd.C k54 w A l.length l) (hl : l.length < 1152921504606) (eg : ∀ args w, (callFunc g args).run Try.prog w = .ok (.enter g args) w)
    (hg : ∀ x ∈ l, ∀ W, Below w.heap.size w W → Calls Try.prog g (#[tv x] ++ lb) W fun e W' => e = .returned (.bool (P x)) ∧ Below W.heap.size W W') :
    Calls Try.prog 146 #[.slice A l.length c, .func (.func g) #[] lb] w fun e w' => (∃ r : Int, e = .returned (.int .i64 r) ∧ -1 ≤ r ∧ r ≤ l.length ∧ decide (0 ≤ r) = l.any P) ∧ Below w.heap.size w w' := by
  have hu := Try.underlying54
  have HG := Aside0.mk hg
  have HR := Aside0.mk hr
  have HL := Aside0.mk hl
  clear hg hr
  go_enter Try.func146, Try.ntmps146
  go_wp2_with fail
  go_loopg [8] l.length (fun kq v8 w' => ∃ i : Nat, v8 = .int .i64 i ∧ i ≤ l.length ∧ Aside0 (kq = l.length - i) ∧ Aside0 (l.any P = (l.drop i).any P) ∧ Aside0 (Below w.heap.size w w'))
  case atStart => exact ⟨0, rfl, Nat.zero_le _, ⟨rfl⟩, ⟨rfl⟩, ⟨Below.refl _ _⟩⟩
  case round =>
    obtain ⟨i, rfl, hi, HK, HA, HB⟩ := hrel
    by_cases hlt : i < l.length
    · obtain ⟨x, hx⟩ : ∃ x, l[i] = x := ⟨_, rfl⟩
      have hxl : x ∈ l := by rw [← hx]; exact List.getElem_mem hlt
      obtain ⟨ad, e1, h0, h1, h2⟩ := at_T54 HR.out (i : Int) (by omega) (by omega)
      have er : rd_T54 l (i : Int) = x := by unfold rd_T54; simp [hlt, hx]
      rw [er] at h0 h1 h2
      cases e1
      replace h0 := pw_cell_below HB.out h0
      replace h1 := pw_cell_below HB.out h1
      replace h2 := pw_cell_below HB.out h2
      simp only [Int.toNat_natCast] at h0 h1 h2
      have hgi := HG.out x hxl wr HB.out
      have hany : (l.drop i).any P = (P x || (l.drop (i + 1)).any P) := by rw [List.drop_eq_getElem_cons hlt, List.any_cons, hx]
      rw [tv] at hgi
      obtain ⟨b, hb⟩ : ∃ b, P x = b := ⟨_, rfl⟩
      rw [hb] at hgi hany
      have HGI := Aside0.mk hgi
      have HANY := Aside0.mk hany
      have hll := HL.out
      clear hx hxl er hgi hany hb
      go_wp2_with fail
      refine HGI.out.mono ?_
      rintro e w1 ⟨rfl, hb1⟩
      have HB1 := Aside0.mk (below_step HB.out hb1)
      clear hb1 h0 h1 h2
      cases b
      · go_wp2_with fail
        go_roundg (l.length - (i + 1))
        case measure => have := HK.out; omega
        case rel =>
          refine ⟨i + 1, by go_num, by omega, ⟨rfl⟩, ⟨?_⟩, HB1⟩
          rw [HA.out, HANY.out]; rfl
      · go_wp2_with fail
        go_ret
        refine ⟨⟨(i : Int), rfl, by omega, by omega, ?_⟩, HB1.out⟩
        rw [HA.out, HANY.out]
        simp
    · obtain rfl : i = l.length := by omega
      go_wp2_with fail
      go_ret
      refine ⟨⟨-1, rfl, by omega, by omega, ?_⟩, HB.out⟩
      rw [HA.out, List.drop_length]
      rfl
theorem containsFunc_task (g : Nat) (lb : Array Value) (P : S54 → Bool) (A : Option Addr) (l : List S54) (c : Nat) (w : World) (hr : Kd.C k54 w A l.length l) (hl : l.length < 1152921504606) (eg : ∀ args w, (callFunc g args).run Try.prog w = .ok (.enter g args) w)
    (hg : ∀ x ∈ l, ∀ W, Below w.heap.size w W → Calls Try.prog g (#[tv x] ++ lb) W fun e W' => e = .returned (.bool (P x)) ∧ Below W.heap.size W W') :
    Calls Try.prog 139 #[.slice A l.length c, .func (.func g) #[] lb] w fun e w' => e = .returned (.bool (l.any P)) ∧ Below w.heap.size w w' := by
  have HI := Aside0.mk (indexFunc_task g lb P A l c w hr hl eg hg)
  clear hg hr eg
  go_enter Try.func139, Try.ntmps139
  go_wp2_with fail
  refine HI.out.mono ?_
  rintro e w1 ⟨⟨r, rfl, h1, h2, h3⟩, hb⟩
  have HB := Aside0.mk hb
  have H3 := Aside0.mk h3
  clear hb h3
  go_wp2_with fail
  go_ret
  refine ⟨?_, HB.out⟩
  rw [← H3.out]; rfl
/-- is it no task? -/
def noTask (x : S54) : Bool := !(decide (1 ≤ x.f0 ∧ x.f0 ≤ 9)) || !(decide (0 ≤ x.f1 ∧ x.f1 ≤ 9)) || !(decide (-100 ≤ x.f2 ∧ x.f2 ≤ 100))
theorem within_pure (a lo hi : Int) : impl_within.f a lo hi = some (decide (lo ≤ a ∧ a ≤ hi)) := by
  unfold impl_within.f
  by_cases h : lo ≤ a
  · rw [if_pos h]; congr 1; rw [decide_eq_decide]; omega
  · rw [if_neg h]; congr 1; rw [eq_comm, decide_eq_false_iff_not]; omega
theorem noTask_calls (x : S54) (w : World) : Calls Try.prog 140 #[tv x] w fun e w' => e = .returned (.bool (noTask x)) ∧ Below w.heap.size w w' := by
  have hu := Try.underlying54
  unfold tv noTask
  have w1 := Aside0.mk (within_pure x.f0 1 9)
  have w2 := Aside0.mk (within_pure x.f1 0 9)
  have w3 := Aside0.mk (within_pure x.f2 (-100) 100)
  obtain ⟨b1, hb1⟩ : ∃ b, decide (1 ≤ x.f0 ∧ x.f0 ≤ 9) = b := ⟨_, rfl⟩
  obtain ⟨b2, hb2⟩ : ∃ b, decide (0 ≤ x.f1 ∧ x.f1 ≤ 9) = b := ⟨_, rfl⟩
  obtain ⟨b3, hb3⟩ : ∃ b, decide (-100 ≤ x.f2 ∧ x.f2 ≤ 100) = b := ⟨_, rfl⟩
  rw [hb1] at w1 ⊢
  rw [hb2] at w2 ⊢
  rw [hb3] at w3 ⊢
  clear hb1 hb2 hb3
  go_enter Try.func140, Try.ntmps140
  go_wp2_with fail
  refine (impl_within.calls x.f0 1 9 b1 _ w1.out).mono ?_
  rintro e W1 ⟨rfl, ⟨n1, rfl⟩⟩
  cases b1
  · go_wp2_with fail
    go_ret
    exact ⟨rfl, by repeat (first | exact Below.refl _ _ | (with_reducible refine below_alloc ?_ _) | (with_reducible refine pw_below_drewN ?_ _))⟩
  · go_wp2_with fail
    refine (impl_within.calls x.f1 0 9 b2 _ w2.out).mono ?_
    rintro e W1 ⟨rfl, ⟨n2, rfl⟩⟩
    cases b2
    · go_wp2_with fail
      go_ret
      exact ⟨rfl, by repeat (first | exact Below.refl _ _ | (with_reducible refine below_alloc ?_ _) | (with_reducible refine pw_below_drewN ?_ _))⟩
    · go_wp2_with fail
      refine (impl_within.calls x.f2 (-100) 100 b3 _ w3.out).mono ?_
      rintro e W1 ⟨rfl, ⟨n3, rfl⟩⟩
      cases b3
      all_goals
        go_wp2_with fail
        go_ret
        exact ⟨rfl, by repeat (first | exact Below.refl _ _ | (with_reducible refine below_alloc ?_ _) | (with_reducible refine pw_below_drewN ?_ _))⟩
theorem isSize_pureT (a : Int) : impl_isSize.f a = some (decide (1 ≤ a ∧ a ≤ 7)) := by
  unfold impl_isSize.f; rw [within_pure]; rfl
def tasksOk (l : List S54) (n : Int) : Bool := decide (1 ≤ n ∧ n ≤ 7) && decide ((l.length : Int) = n) && !l.any noTask
def impl_AreTasks.f (l0 : List S54) (a1 : Int) : Option Bool := some (tasksOk l0 a1)
theorem impl_AreTasks.calls (A0 : Option Addr) (c0 : Nat) (l0 : List S54) (a1 : Int) (r : Bool) (w : World) (hr0 : Kd.C k54 w A0 l0.length l0) (hc0 : l0.length ≤ c0) (h : impl_AreTasks.f l0 a1 = some r) :
    Calls Try.prog 123 #[.slice A0 l0.length c0, .int .i64 a1] w fun e w' => e = .returned (.bool r) ∧ Below w.heap.size w w' := by
  unfold impl_AreTasks.f tasksOk at h
  injection h with h
  subst h
  have HR := Aside0.mk hr0
  have hs := isSize_pureT a1
  obtain ⟨b1, hb1⟩ : ∃ b, decide (1 ≤ a1 ∧ a1 ≤ 7) = b := ⟨_, rfl⟩
  obtain ⟨b2, hb2⟩ : ∃ b, decide ((l0.length : Int) = a1) = b := ⟨_, rfl⟩
  rw [hb1] at hs ⊢
  rw [hb2]
  have hb3 : ((l0.length : Int) == a1) = b2 := by rw [← hb2]; rfl
  have hb4 : ((l0.length : Int) != a1) = !b2 := by rw [← hb2]; rfl
  have HS := Aside0.mk hs
  have H7 := Aside0.mk hb1
  have H2 := Aside0.mk hb2
  clear hs hb1 hb2 hr0 hc0
  go_enter Try.func123, Try.ntmps123
  go_wp2_with fail
  refine (impl_isSize.calls a1 b1 _ HS.out).mono ?_
  rintro e W1 ⟨rfl, ⟨n1, rfl⟩⟩
  cases b1
  · go_wp2_with fail
    go_ret
    exact ⟨rfl, pw_below_drewN (Below.refl _ _) _⟩
  · cases b2
    · go_wp2_with fail
      go_ret
      exact ⟨rfl, pw_below_drewN (Below.refl _ _) _⟩
    · have hlen : l0.length < 1152921504606 := by have := H7.out; have := H2.out; simp at *; omega
      go_wp2_with fail
      refine (containsFunc_task 140 #[] noTask A0 l0 c0 _ (Kd.C_drewN HR.out _) hlen (enters_ (by rw [Try.func140]) (by decide) (by decide)) (fun x _ W _ => noTask_calls x W)).mono ?_
      rintro e W1 ⟨rfl, hb⟩
      have HB := Aside0.mk (below_then (pw_below_drewN (Below.refl w.heap.size w) n1) (Nat.le_refl _) hb)
      clear hb
      go_wp2_with fail
      go_ret
      exact ⟨rfl, HB.out⟩
end Go.Proofs.Ytjhjphgdjhahlaa.P
/- The cost of an item behind a set: as impl and the reference reckon it. -/
namespace Go.Proofs.Ytjhjphgdjhahlaa.P
open Go.RowKit Go.Proofs.YtjhjphgdjhahlaaW.PrintWords Go.Proofs.YtjhjphgdjhahlaaW.PrintLast Go.Proofs.YtjhjphgdjhahlaaW.PrintMore
set_option linter.unusedVariables false

/-- the times of the first k items that are not in a set -/
def timeN (ts : List S54) (set : Nat) : Nat → Int
  | 0 => 0
  | k + 1 => timeN ts set k + if set.testBit k then 0 else (ts.getD k z54).f0
def costB (ts : List S54) (set item : Nat) : Int := (ts.getD item z54).f1 * timeN ts set ts.length + (ts.getD item z54).f2
def taskB (x : S54) : Prop := (1 ≤ x.f0 ∧ x.f0 ≤ 9) ∧ (0 ≤ x.f1 ∧ x.f1 ≤ 9) ∧ (-100 ≤ x.f2 ∧ x.f2 ≤ 100)
theorem timeN_bd (ts : List S54) (set : Nat) (h : ∀ x ∈ ts, taskB x) : ∀ k, k ≤ ts.length → 0 ≤ timeN ts set k ∧ timeN ts set k ≤ 9 * k := by
  intro k
  induction k with
  | zero => intro _; simp [timeN]
  | succ k ih =>
    intro hk
    have h1 := ih (by omega)
    have h2 : ts.getD k z54 = ts[k] := by simp [show k < ts.length by omega]
    have h3 := h _ (List.getElem_mem (show k < ts.length by omega))
    unfold taskB at h3
    simp only [timeN]
    rw [h2]
    split <;> omega
theorem costB_bd (ts : List S54) (set item : Nat) (h : ∀ x ∈ ts, taskB x) (hl : ts.length ≤ 7) (hi : item < ts.length) : -100 ≤ costB ts set item ∧ costB ts set item ≤ 1000 ∧ 0 ≤ (ts.getD item z54).f1 * timeN ts set ts.length ∧ (ts.getD item z54).f1 * timeN ts set ts.length ≤ 567 := by
  have h1 := timeN_bd ts set h ts.length (Nat.le_refl _)
  have h2 : ts.getD item z54 = ts[item] := by simp [hi]
  have h3 := h _ (List.getElem_mem hi)
  unfold taskB at h3
  unfold costB
  rw [h2]
  obtain ⟨t, ht⟩ : ∃ t, timeN ts set ts.length = t := ⟨_, rfl⟩
  obtain ⟨f, hf⟩ : ∃ f, ts[item].f1 = f := ⟨_, rfl⟩
  rw [ht] at h1
  rw [hf] at h3
  rw [ht, hf]
  have a1 : 0 ≤ f * t := Int.mul_nonneg (by omega) (by omega)
  have a2 : f * t ≤ 9 * 63 := Int.mul_le_mul (by omega) (by omega) (by omega) (by omega)
  omega
theorem rd_task (ts : List S54) (i : Nat) : rd_T54 ts (i : Int) = ts.getD i z54 := by unfold rd_T54; rw [Int.toNat_natCast]
theorem cost_from (ts : List S54) (set item : Nat) (h : ∀ x ∈ ts, taskB x) (hl : ts.length ≤ 7) (hi : item < ts.length) (hs : set < 128) : ∀ (j i : Nat), i + j = ts.length →
    Ev (fun k => impl_cost.l0 k ts (set : Int) (item : Int) (timeN ts set i) ts (ts.length : Int) (i : Int)) (costB ts set item) := by
  intro j
  induction j with
  | zero =>
    intro i hij
    obtain rfl : i = ts.length := by omega
    have hb := costB_bd ts set item h hl hi
    refine Ev.step (fun k => impl_cost.l0.eq_2 _ _ _ _ _ _ _ k) (Ev.neg (by omega) (Ev.pos (by omega) (Ev.pos (by omega) (Ev.one ?_))))
    rw [rd_task]
    have e1 : wrap64 ((ts.getD item z54).f1 * timeN ts set ts.length) = (ts.getD item z54).f1 * timeN ts set ts.length := by unfold wrap64; omega
    rw [e1]
    have e2 : (ts.getD item z54).f1 * timeN ts set ts.length + (ts.getD item z54).f2 = costB ts set item := rfl
    rw [e2]; unfold wrap64; omega
  | succ j ih =>
    intro i hij
    have hil : i < ts.length := by omega
    have ew : wrap64 ((i : Int) + 1) = ((i + 1 : Nat) : Int) := by unfold wrap64; omega
    have hbd := timeN_bd ts set h i (by omega)
    have hbd2 := timeN_bd ts set h (i + 1) (by omega)
    have h2 := ih (i + 1) (by omega)
    simp only [timeN] at h2 hbd2
    refine Ev.step (fun k => impl_cost.l0.eq_2 _ _ _ _ _ _ _ k) (Ev.pos (by omega) (Ev.pos (by omega) (Ev.pos (by omega) ?_)))
    rw [go_bit set i hs (by omega), rd_task, ew]
    cases hb : set.testBit i with
    | true =>
      refine Ev.neg (by simp) ?_
      simpa [hb] using h2
    | false =>
      refine Ev.pos (by simp) ?_
      simp only [hb, Bool.false_eq_true, if_false] at h2 hbd2
      have e3 : wrap64 (timeN ts set i + (ts.getD i z54).f0) = timeN ts set i + (ts.getD i z54).f0 := by unfold wrap64; omega
      rw [e3]; exact h2
theorem cost_pure (ts : List S54) (set item : Nat) (h : ∀ x ∈ ts, taskB x) (hl : ts.length ≤ 7) (hi : item < ts.length) (hs : set < 128) : Ev (fun k => impl_cost.f k ts (set : Int) (item : Int)) (costB ts set item) :=
  Ev.congr (fun k => impl_cost.f.eq_1 k _ _ _) (by simpa [timeN] using cost_from ts set item h hl hi hs ts.length 0 (by omega))
theorem taskB_of {l : List S54} {n : Int} (h : tasksOk l n = true) : (1 ≤ n ∧ n ≤ 7) ∧ (l.length : Int) = n ∧ ∀ x ∈ l, taskB x := by
  unfold tasksOk at h
  simp only [Bool.and_eq_true, decide_eq_true_eq, Bool.not_eq_true'] at h
  obtain ⟨⟨h1, h2⟩, h3⟩ := h
  refine ⟨h1, h2, fun x hx => ?_⟩
  have := List.any_eq_false.1 h3 x hx
  unfold noTask at this
  simp only [Bool.or_eq_true, Bool.not_eq_true', decide_eq_false_iff_not, not_or, Classical.not_not] at this
  exact ⟨this.1.1, this.1.2, this.2⟩
end Go.Proofs.Ytjhjphgdjhahlaa.P
/- Families in memory: an array of 128 Bools in a block of its own; impl's 'family' makes the family of a space. -/
namespace Go.Proofs.Ytjhjphgdjhahlaa.P
open Go.RowKit Go.Proofs.YtjhjphgdjhahlaaW.PrintWords Go.Proofs.YtjhjphgdjhahlaaW.PrintLast Go.Proofs.YtjhjphgdjhahlaaW.PrintMore
set_option linter.unusedVariables false

def famCells (F : Nat → Bool) : Array Value := ((List.range 128).map fun i => Value.bool (F i)).toArray
theorem famCells_size (F : Nat → Bool) : (famCells F).size = 128 := by simp [famCells]
theorem famCells_get (F : Nat → Bool) (i : Nat) (h : i < 128) : (famCells F)[i]? = some (.bool (F i)) := by
  simp [famCells, h]
theorem famCells_set (F : Nat → Bool) (i : Nat) (b : Bool) : (famCells F).setIfInBounds i (.bool b) = famCells (upd F i b) := by
  apply Array.ext
  · simp [famCells]
  · intro j h1 h2
    simp [famCells, upd]
    have := h1; simp [famCells] at this
    by_cases e : i = j <;> simp [e, eq_comm]

/-- Block g holds the family F. -/
def FamAt (w : World) (g : Nat) (F : Nat → Bool) : Prop := w.heap[g]? = some (.cells (famCells F) 120 (0, 0))
theorem zero_fam : Try.zeroCells120 = famCells (fun _ => false) := by kernel_rfl
theorem FamAt.lt {w : World} {g : Nat} {F : Nat → Bool} (h : FamAt w g F) : g < w.heap.size := (Array.getElem?_eq_some_iff.1 h).1
theorem FamAt.cell {w : World} {g : Nat} {F : Nat → Bool} (h : FamAt w g F) (i : Nat) (hi : i < 128) : w.cell? ⟨g, i, none⟩ = some (.bool (F i)) := (blk_cell h i).trans (famCells_get F i hi)
theorem FamAt.frozen {w : World} {g : Nat} {F : Nat → Bool} (h : FamAt w g F) (i : Nat) : w.frozen? ⟨g, i, none⟩ = false := blk_frozen h i
theorem FamAt.set {w : World} {g : Nat} {F : Nat → Bool} (h : FamAt w g F) (i : Nat) (b : Bool) : FamAt (w.setCell ⟨g, i, none⟩ (.bool b)) g (upd F i b) := by
  unfold FamAt; rw [← famCells_set]; exact blk_set h i _
theorem FamAt.far {w : World} {g : Nat} {F : Nat → Bool} (h : FamAt w g F) {p : Addr} (hne : g ≠ p.block) (u : Value) : FamAt (w.setCell p u) g F := blk_far h hne u
theorem FamAt.below {w w1 : World} {g : Nat} {F : Nat → Bool} (h : FamAt w g F) (hb : Below w.heap.size w w1) : FamAt w1 g F := blk_below h hb
theorem FamAt.alloc {w : World} {g : Nat} {F : Nat → Bool} (h : FamAt w g F) (o : Obj) : FamAt (w.alloc o) g F := blk_alloc h o
theorem FamAt.drewN {w : World} {g : Nat} {F : Nat → Bool} (h : FamAt w g F) (n : Nat) : FamAt (w.drewN n) g F := blk_drewN h n
theorem FamAt.drew {w : World} {g : Nat} {F : Nat → Bool} (h : FamAt w g F) : FamAt w.drew g F := blk_drew h
theorem FamAt.new (w : World) : FamAt (w.alloc (.cells Try.zeroCells120 120)) w.heap.size (fun _ => false) := by
  unfold FamAt; rw [← zero_fam]; exact heap_alloc_new w _
theorem FamAt.ext {w : World} {g : Nat} {F G : Nat → Bool} (h : FamAt w g F) (e : ∀ i, i < 128 → F i = G i) : FamAt w g G := by
  have : famCells F = famCells G := by
    simp only [famCells]; congr 1; apply List.map_congr_left; intro i hi; rw [e i (by simpa using hi)]
  unfold FamAt; rw [← this]; exact h

/-- The integers of a list that is read lie where the list is. -/
theorem int_at {w : World} {A : Option Addr} {n : Nat} {l : List Int} (h : Kd.C (Kd.int .i64) w A n l) (i : Nat) (hi : i < n) : ∃ ad, A = some ad ∧ w.cell? (ad.add i) = some (.int .i64 (l[i]?.getD 0)) := by
  obtain ⟨ad, e1, hx⟩ := Kd.at_int h (i : Int) (by omega) (by omega)
  refine ⟨ad, e1, ?_⟩
  simpa [rd] using hx

set_option maxHeartbeats 800000
set_option maxRecDepth 100000
theorem family_calls (n : Int) (A : Option Addr) (l : List Int) (c : Nat) (w : World) (hr : Kd.C (Kd.int .i64) w A l.length l) (hv : ∀ x ∈ l, 0 ≤ x ∧ x < 128) :
    Calls Try.prog 106 #[.agg #[.int .i64 n, .slice A l.length c]] w fun e w' => ∃ g, e = .returned (.pointer (some ⟨g, 0, none⟩)) ∧ FamAt w' g (famOf l) ∧ Below w.heap.size w w' ∧ w.heap.size ≤ g := by
  have hu := Try.underlying28
  have HR := Aside0.mk hr
  clear hr
  have HV := Aside0.mk hv
  clear hv
  have HL := Aside0.mk (HR.out.2.1)
  go_enter Try.func106, Try.ntmps106
  go_wp2_with fail
  go_loopg [11] l.length (fun kq v11 w' => ∃ i : Nat, v11 = .int .i64 i ∧ i ≤ l.length ∧ Aside0 (kq = l.length - i) ∧ Aside0 (FamAt w' (w.heap.size + 1) (famOf (l.take i))) ∧ Aside0 (Below w.heap.size w w'))
  case atStart =>
    refine ⟨0, rfl, Nat.zero_le _, ⟨by omega⟩, ⟨?_⟩, ⟨?_⟩⟩
    · have := FamAt.new (w.alloc (.cells #[Value.int .i64 n, .slice A l.length c] 28))
      simpa using this.ext (fun i _ => by simp [famOf])
    · exact below_alloc (below_alloc (Below.refl _ _) _) _
  case round =>
    obtain ⟨i, rfl, hi, HK, HF, HB⟩ := hrel
    by_cases hlt : i < l.length
    · have hlen := HL.out
      have p1 : (0:Int) ≤ (i : Int) := by omega
      have q1 : (i : Int) < (l.length : Int) := by omega
      obtain ⟨ad, e1, hx⟩ := Kd.at_int HR.out (i : Int) p1 q1
      cases e1
      replace hx := (HB.out.cell (World.block_lt_of_cell? w _ hx)).trans hx
      have hm := HV.out (rd l i) (by unfold rd; simp [hlt])
      obtain ⟨m, hm1⟩ := Int.eq_ofNat_of_zero_le hm.1
      rw [hm1] at hx hm
      have hm2 : (m : Int) < 128 := hm.2
      clear hm
      simp only [Int.toNat_natCast] at hx
      have hc' := HF.out.cell m (by omega)
      have hf' := HF.out.frozen m
      have HM1 := Aside0.mk hm1
      clear hm1
      go_wp2
      go_roundg (l.length - (i + 1))
      case measure => have := HK.out; omega
      case rel =>
        refine ⟨i + 1, by go_num, by omega, ⟨rfl⟩, ⟨?_⟩, ⟨below_set HB.out (by omega)⟩⟩
        refine (HF.out.set m true).ext (fun j _ => ?_)
        have hh := famOf_snoc l i hlt (by have := HM1.out; unfold rd at this; simp [hlt] at this; omega) j
        have e2 : l[i].toNat = m := by have := HM1.out; unfold rd at this; simp [hlt] at this; omega
        rw [e2] at hh; exact hh
    · obtain rfl : i = l.length := by omega
      go_wp2
      go_ret
      refine ⟨w.heap.size + 1, rfl, ?_, HB.out, by omega⟩
      have := HF.out; rw [List.take_length] at this; exact this
end Go.Proofs.Ytjhjphgdjhahlaa.P
/- impl's fringes: 'inner' and 'outer' of a family. -/
namespace Go.Proofs.Ytjhjphgdjhahlaa.P
open Go.RowKit Go.Proofs.YtjhjphgdjhahlaaW.PrintWords Go.Proofs.YtjhjphgdjhahlaaW.PrintLast Go.Proofs.YtjhjphgdjhahlaaW.PrintMore
set_option linter.unusedVariables false
set_option maxHeartbeats 800000
set_option maxRecDepth 100000

theorem items_pure (x : Nat) (hx : x < 128) : impl_items.f 8 (x : Int) = some (ints (itemsOf x)) := by
  have : ∀ x, x < 128 → impl_items.f 8 ((x : Nat) : Int) = some (ints (itemsOf x)) := by decide +kernel
  exact this x hx

theorem items_get (x : Nat) (j : Nat) (h : j < (itemsOf x).length) : ∃ i, i < 7 ∧ (itemsOf x)[j]? = some i ∧ (ints (itemsOf x))[j]?.getD 0 = (i : Int) := by
  have hm : (itemsOf x)[j] ∈ itemsOf x := List.getElem_mem h
  refine ⟨(itemsOf x)[j], ?_, by simp [h], by simp [ints, h]⟩
  simp only [itemsOf, List.mem_filter, List.mem_range] at hm
  exact hm.1

theorem inner_calls (g x : Nat) (F : Nat → Bool) (w : World) (hx : x < 128) (hF : FamAt w g F) :
    Calls Try.prog 130 #[.pointer (some ⟨g, 0, none⟩), .int .i64 (x : Int)] w fun e w' => e = .returned (.int .i64 ((inner F x : Nat) : Int)) ∧ Below w.heap.size w w' := by
  have HF := Aside0.mk hF
  clear hF
  go_enter Try.func130, Try.ntmps130
  go_wp2_with (go_at_call 110; refine (impl_items.calls 8 (x : Int) _ w (items_pure x hx)).mono ?_; rintro e w1 ⟨v0, rfl, ho, hb⟩; have HO := Aside0.mk ho; have HB := Aside0.mk hb; clear ho hb; obtain ⟨A, c, rfl⟩ := Kd.R_slice HO.out)
  have hlen : (ints (itemsOf x)).length = (itemsOf x).length := by simp [ints]
  have hl7 : (itemsOf x).length ≤ 7 := List.length_filter_le _ _
  have HLEN := Aside0.mk hlen
  clear hlen

  go_loopg [5, 11] (itemsOf x).length (fun kq v5 v11 w' => ∃ i : Nat, v11 = .int .i64 i ∧ v5 = .int .i64 ((innerF F x ((itemsOf x).take i) : Nat) : Int) ∧ i ≤ (itemsOf x).length ∧ Aside0 (kq = (itemsOf x).length - i) ∧ Aside0 (Below w1.heap.size w1 w'))
  case atStart => exact ⟨0, rfl, rfl, Nat.zero_le _, ⟨rfl⟩, ⟨Below.refl _ _⟩⟩
  case round =>
    obtain ⟨i, rfl, rfl, hi, HK, HB1⟩ := hrel
    by_cases hlt : i < (itemsOf x).length
    · obtain ⟨a, ha, hg, hg2⟩ := items_get x i hlt
      obtain ⟨ad, e1, hx1⟩ := int_at ((Kd.R_reads' HO.out).2.2) i (by rw [HLEN.out]; exact hlt)
      cases e1
      rw [hg2] at hx1
      replace hx1 := pw_cell_below HB1.out hx1
      have HLT : i < (ints (itemsOf x)).length := by rw [HLEN.out]; exact hlt
      have hF1 := (HF.out.below HB.out).below HB1.out
      obtain ⟨p, hp1, hp2, hp⟩ := bit_letter a (by omega)
      obtain ⟨q, hq⟩ : ∃ q, wout x a = q := ⟨_, rfl⟩
      have hq1 : Go.bits .andNot .i64 (x : Int) p = (q : Int) := by rw [hp, ← hq]; exact go_wout x a hx ha
      have hq2 : q < 128 := by rw [← hq]; exact wout_lt x a hx
      have hor : ∀ o : Nat, o < 128 → Go.bits .or .i64 (o : Int) p = ((wth o a : Nat) : Int) := fun o ho => by rw [hp]; exact go_wth o a ho ha
      have hcell := hF1.cell q hq2
      have hol := innerF_lt F x ((itemsOf x).take i) (by intro j hj; have := List.mem_of_mem_take hj; simp [itemsOf] at this; exact this.1)
      obtain ⟨o, ho⟩ : ∃ o, innerF F x ((itemsOf x).take i) = o := ⟨_, rfl⟩
      rw [ho] at hol
      have hor1 := hor o hol
      have HQ := Aside0.mk hq
      have HO1 := Aside0.mk ho
      have HOR := Aside0.mk hor
      rw [ho]
      obtain ⟨b, hb⟩ : ∃ b, F q = b := ⟨_, rfl⟩
      rw [hb] at hcell
      have HBB := Aside0.mk hb
      have HG := Aside0.mk hg
      have htk : (itemsOf x).take (i + 1) = (itemsOf x).take i ++ [a] := by
        rw [List.take_add_one, hg]; rfl
      have HTK := Aside0.mk htk
      clear hF1 hp hq ho hor hb hg htk
      cases b
      all_goals
        go_wp2
        go_quiet (fail)
        go_wp2
        go_roundg ((itemsOf x).length - (i + 1))
        case measure => have := HK.out; omega
        case rel =>
          refine ⟨i + 1, by go_num, ?_, by omega, ⟨rfl⟩, ⟨by repeat (first | exact HB1.out | apply pw_below_drewN)⟩⟩
          rw [HTK.out, innerF_snoc, HQ.out, HBB.out, HO1.out]
          simp
    · have hi2 : i = (itemsOf x).length := by omega
      have HI := Aside0.mk hi2
      have hge : ¬ i < (ints (itemsOf x)).length := by rw [HLEN.out]; exact hlt
      clear hi2
      go_wp2
      go_ret
      refine ⟨?_, below_then HB.out HB.out.size HB1.out⟩
      rw [HI.out, List.take_length]; rfl
theorem outer_calls (g x : Nat) (F : Nat → Bool) (w : World) (hx : x < 128) (hF : FamAt w g F) :
    Calls Try.prog 111 #[.pointer (some ⟨g, 0, none⟩), .int .i64 (x : Int)] w fun e w' => e = .returned (.int .i64 ((outer F x : Nat) : Int)) ∧ Below w.heap.size w w' := by
  have HF := Aside0.mk hF
  clear hF
  go_enter Try.func111, Try.ntmps111
  go_wp2_with fail
  go_loopg [5, 7] 7 (fun kq v5 v7 w' => ∃ i : Nat, v7 = .int .i64 i ∧ v5 = .int .i64 ((outerF F x (List.range i) : Nat) : Int) ∧ i ≤ 7 ∧ Aside0 (kq = 7 - i) ∧ Aside0 (Below w.heap.size w w'))
  case atStart => exact ⟨0, rfl, rfl, Nat.zero_le _, ⟨rfl⟩, ⟨Below.refl _ _⟩⟩
  case round =>
    obtain ⟨i, rfl, rfl, hi, HK, HB1⟩ := hrel
    by_cases hlt : i < 7
    · obtain ⟨p, hp1, hp2, hp⟩ := bit_letter i (by omega)
      obtain ⟨q, hq⟩ : ∃ q, wth x i = q := ⟨_, rfl⟩
      have hq1 : Go.bits .or .i64 (x : Int) p = (q : Int) := by rw [hp, ← hq]; exact go_wth x i hx hlt
      have hq2 : q < 128 := by rw [← hq]; exact wth_lt x i hx hlt
      have hol := outerF_lt F x i hi
      obtain ⟨o, ho⟩ : ∃ o, outerF F x (List.range i) = o := ⟨_, rfl⟩
      rw [ho] at hol
      have hor1 : Go.bits .or .i64 (o : Int) p = ((wth o i : Nat) : Int) := by rw [hp]; exact go_wth o i hol hlt
      have hcell := (HF.out.below HB1.out).cell q hq2
      obtain ⟨sh, hsh, hbit⟩ := shr_letter x i hx (by omega)
      obtain ⟨b, hb⟩ : ∃ b, F q = b := ⟨_, rfl⟩
      rw [hb] at hcell
      obtain ⟨c, hc⟩ : ∃ c, x.testBit i = c := ⟨_, rfl⟩
      rw [hc] at hbit
      have hs := outerF_succ F x i
      rw [hq, hb, ho, hc] at hs
      have HO1 := Aside0.mk ho
      have HS := Aside0.mk hs
      rw [ho]
      clear hp hq ho hb hc hs
      cases c <;> cases b
      all_goals
        simp only [Bool.false_eq_true, if_false, if_true] at hbit
        go_wp2_with fail
        go_quiet (fail)
        go_wp2
        go_roundg (7 - (i + 1))
        case measure => have := HK.out; omega
        case rel =>
          refine ⟨i + 1, by go_num, ?_, by omega, ⟨rfl⟩, ⟨by repeat (first | exact HB1.out | apply pw_below_drewN)⟩⟩
          rw [HS.out]
          simp
    · have hi2 : i = 7 := by omega
      subst hi2
      go_wp2
      go_ret
      exact ⟨rfl, HB1.out⟩
end Go.Proofs.Ytjhjphgdjhahlaa.P
/- impl's IsSpace. -/
namespace Go.Proofs.Ytjhjphgdjhahlaa.P
open Go.RowKit Go.Proofs.YtjhjphgdjhahlaaW.PrintWords Go.Proofs.YtjhjphgdjhahlaaW.PrintLast Go.Proofs.YtjhjphgdjhahlaaW.PrintMore
set_option linter.unusedVariables false
set_option maxHeartbeats 1600000
set_option maxRecDepth 100000

theorem isSize_pure (n : Int) : impl_isSize.f n = some (decide (1 ≤ n ∧ n ≤ 7)) := by
  unfold impl_isSize.f impl_within.f
  by_cases h : 1 ≤ n <;> simp [h]
theorem isSet_pure (n : Nat) (x : Int) (hn : n < 8) : impl_isSet.f (n : Int) x = some (decide (0 ≤ x ∧ x < 2 ^ n)) := by
  have e : wrap64 ((shl .i64 1 (n : Int)) - 1) = ((2 ^ n : Nat) : Int) - 1 := by
    rw [shl_one n hn]
    have : ∀ n, n < 8 → wrap64 (((2 ^ n : Nat) : Int) - 1) = ((2 ^ n : Nat) : Int) - 1 := by decide +kernel
    exact this n hn
  unfold impl_isSet.f impl_within.f
  rw [if_pos (by omega), e]
  have e2 : ((2 ^ n : Nat) : Int) = 2 ^ n := by simp
  by_cases h : 0 ≤ x
  · rw [if_pos h]; simp only [Option.bind_some, e2]; congr 1; rw [decide_eq_decide]; omega
  · rw [if_neg h]; simp [h]
theorem all_pure (n : Nat) (l : List Int) (hn : n < 8) : impl_Space_all.f (n : Int) l = some ((2 ^ n - 1 : Nat) : Int) := by
  unfold impl_Space_all.f
  rw [if_pos (by omega), shl_one n hn]
  have : ∀ n, n < 8 → wrap64 (((2 ^ n : Nat) : Int) - 1) = ((2 ^ n - 1 : Nat) : Int) := by decide +kernel
  rw [this n hn]

theorem IsSpace_calls (n : Int) (A : Option Addr) (c : Nat) (l : List Int) (w : World) (hr : Kd.C (Kd.int .i64) w A l.length l) (hc : l.length ≤ c) :
    Calls Try.prog 89 #[.agg #[.int .i64 n, .slice A l.length c]] w fun e w' => e = .returned (.bool (isSpB n l)) ∧ Below w.heap.size w w' := by
  have hu := Try.underlying28
  have HR := Aside0.mk hr
  have HC := Aside0.mk hc
  clear hr hc
  have hlen := HR.out.2.1
  by_cases h1 : 1 ≤ n ∧ n ≤ 7
  · obtain ⟨h1a, h1b⟩ := h1
    have HS : Aside0 (impl_isSize.f n = some true) := ⟨by rw [isSize_pure, decide_eq_true ⟨h1a, h1b⟩]⟩
    obtain ⟨m, rfl⟩ := Int.eq_ofNat_of_zero_le (show 0 ≤ n by omega)
    have hm1 : 1 ≤ m := by omega
    have hm7 : m ≤ 7 := by omega
    have HE : Aside0 (isSpB (m : Int) l = isSpN m l) := ⟨by unfold isSpB; rw [if_pos ⟨h1a, h1b⟩]; rfl⟩
    clear h1a h1b
    obtain ⟨p, hp1, hp2, hp⟩ := bit_letter m (by omega)
    have HP := Aside0.mk hp
    by_cases hl : p < (l.length : Int)
    · have HN : Aside0 (isSpN m l = false) := ⟨by
        unfold isSpN
        rw [decide_eq_false (by rw [hp] at hl; omega)]; rfl⟩
      clear hp
      go_enter Try.func89, Try.ntmps89
      go_wp2_with fail
      go_quiet (first | (go_at_call 72; (with_reducible refine (impl_isSize.calls (m : Int) true _ HS.out).mono ?_); rintro e w' ⟨rfl, ⟨nd, rfl⟩⟩; exact ⟨rfl, _, World.drewN_drewN _ _ _⟩))
      go_wp2
      go_ret
      exact ⟨by simp [HE.out, HN.out], by repeat (first | exact Below.refl _ _ | apply pw_below_drewN | apply below_alloc)⟩
    · have hd : decide (p < (l.length : Int)) = false := decide_eq_false hl
      have hl2 : (l.length : Int) ≤ p := by omega
      have HL2 : Aside0 (l.length ≤ 2 ^ m) := ⟨by rw [hp] at hl2; omega⟩
      clear hp hl
      go_enter Try.func89, Try.ntmps89
      go_wp2_with fail
      go_quiet (first | (go_at_call 72; (with_reducible refine (impl_isSize.calls (m : Int) true _ HS.out).mono ?_); rintro e w' ⟨rfl, ⟨nd, rfl⟩⟩; exact ⟨rfl, _, World.drewN_drewN _ _ _⟩))
      go_wp2_with fail
      go_loopg [26] l.length (fun kq v26 w' => ∃ i : Nat, v26 = .int .i64 i ∧ i ≤ l.length ∧ Aside0 (kq = l.length - i) ∧ Aside0 (∀ j, j < i → incOk m l j = true) ∧ Aside0 (w'.heap[w.heap.size]? = some (.cells #[.int .i64 (m : Int), .slice A l.length c] 28 (0, 0))) ∧ Aside0 (Below w.heap.size w w'))
      case atStart => exact ⟨0, rfl, Nat.zero_le _, ⟨rfl⟩, ⟨fun j h => by omega⟩, ⟨blk_drewN (heap_alloc_new _ _) _⟩, ⟨pw_below_drewN (below_alloc (Below.refl _ _) _) _⟩⟩
      case round =>
        obtain ⟨i, rfl, hi, HK, HI, HB0, HB⟩ := hrel
        have hc0_0 : wr.cell? ⟨w.heap.size, 0, none⟩ = some (.int .i64 (m : Int)) := (blk_cell HB0.out 0).trans rfl
        have hc0_1 : wr.cell? ⟨w.heap.size, 1, none⟩ = some (.slice A l.length c) := (blk_cell HB0.out 1).trans rfl
        by_cases hlt : i < l.length
        · obtain ⟨ad, e1, hx⟩ := int_at HR.out i hlt
          have hx' : 1 ≤ i → w.cell? (ad.add (i - 1)) = some (.int .i64 (l[i - 1]?.getD 0)) := fun h => by
            obtain ⟨ad', e2, h2⟩ := int_at HR.out (i - 1) (by omega)
            rw [e1] at e2; cases e2; exact h2
          cases e1
          replace hx := pw_cell_below HB.out hx
          obtain ⟨x, hxx⟩ : ∃ x, l[i]?.getD 0 = x := ⟨_, rfl⟩
          rw [hxx] at hx
          have hst := isSet_pure m x (by omega)
          by_cases hset : 0 ≤ x ∧ x < 2 ^ m
          · rw [decide_eq_true hset] at hst
            have HST := Aside0.mk hst
            have HSE := Aside0.mk hset
            clear hst hset
            rcases Nat.eq_zero_or_pos i with h0 | h0
            · subst h0
              have HOK : Aside0 (incOk m l 0 = true) := ⟨by unfold incOk; rw [hxx, decide_eq_true HSE.out]; rfl⟩
              clear hx' hxx
              rw [Addr.add_zero'] at hx
              go_wp2_with (first | (go_at_call 129; (with_reducible refine (impl_isSet.calls (m : Int) x true _ HST.out).mono ?_); rintro e w' ⟨rfl, ⟨nd, rfl⟩⟩))
              go_roundg (l.length - (0 + 1))
              case measure => have := HK.out; omega
              case rel =>
                exact ⟨1, by go_num, by omega, ⟨rfl⟩, ⟨fun j hj => by obtain rfl : j = 0 := (by omega); exact HOK.out⟩, ⟨blk_drewN HB0.out _⟩, ⟨pw_below_drewN HB.out _⟩⟩
            · replace hx' := pw_cell_below HB.out (hx' h0)
              obtain ⟨y, hyy⟩ : ∃ y, l[i - 1]?.getD 0 = y := ⟨_, rfl⟩
              rw [hyy] at hx'
              have hne : ¬ (i : Int) = 0 := by omega
              by_cases hle : x ≤ y
              · have HOK : Aside0 (incOk m l i = false) := ⟨by
                  unfold incOk; rw [hxx, hyy, decide_eq_true HSE.out, decide_eq_false (show ¬ i = 0 by omega), decide_eq_false (show ¬ y < x by omega)]; rfl⟩
                clear hxx hyy
                go_wp2_with (first | (go_at_call 129; (with_reducible refine (impl_isSet.calls (m : Int) x true _ HST.out).mono ?_); rintro e w' ⟨rfl, ⟨nd, rfl⟩⟩))
                go_ret
                refine ⟨?_, pw_below_drewN HB.out _⟩
                have : isSpN m l = false := by unfold isSpN; rw [all_range_false hlt HOK.out]; simp
                simp [HE.out, this]
              · have HOK : Aside0 (incOk m l i = true) := ⟨by
                  unfold incOk; rw [hxx, hyy, decide_eq_true HSE.out, decide_eq_false (show ¬ i = 0 by omega), decide_eq_true (show y < x by omega)]; rfl⟩
                clear hxx hyy
                go_wp2_with (first | (go_at_call 129; (with_reducible refine (impl_isSet.calls (m : Int) x true _ HST.out).mono ?_); rintro e w' ⟨rfl, ⟨nd, rfl⟩⟩))
                go_roundg (l.length - (i + 1))
                case measure => have := HK.out; omega
                case rel =>
                  exact ⟨i + 1, by go_num, by omega, ⟨rfl⟩, ⟨fun j hj => by
                    rcases Nat.lt_or_ge j i with h | h
                    · exact HI.out j h
                    · obtain rfl : j = i := by omega
                      exact HOK.out⟩, ⟨blk_drewN HB0.out _⟩, ⟨pw_below_drewN HB.out _⟩⟩
          · rw [decide_eq_false hset] at hst
            have HST := Aside0.mk hst
            have HOK : Aside0 (incOk m l i = false) := ⟨by unfold incOk; rw [hxx, decide_eq_false hset]; rfl⟩
            clear hst hset hx' hxx
            go_wp2_with (first | (go_at_call 129; (with_reducible refine (impl_isSet.calls (m : Int) x false _ HST.out).mono ?_); rintro e w' ⟨rfl, ⟨nd, rfl⟩⟩))
            go_ret
            refine ⟨?_, pw_below_drewN HB.out _⟩
            have : isSpN m l = false := by unfold isSpN; rw [all_range_false hlt HOK.out]; simp
            simp [HE.out, this]
        · obtain rfl : i = l.length := by omega
          have HV : Aside0 (∀ x ∈ l, 0 ≤ x ∧ x < 2 ^ m) := ⟨by
            intro x hx
            obtain ⟨j, hj, rfl⟩ := List.getElem_of_mem hx
            have := HI.out j hj
            simp only [incOk, Bool.and_eq_true, decide_eq_true_eq, List.getElem?_eq_getElem hj, Option.getD_some] at this
            exact this.1⟩
          have HV2 : Aside0 (∀ x ∈ l, 0 ≤ x ∧ x < 128) := ⟨fun x hx => ⟨(HV.out x hx).1, Int.lt_of_lt_of_le (HV.out x hx).2 (by
            have : (2 : Nat) ^ m ≤ 2 ^ 7 := Nat.pow_le_pow_right (by omega) hm7
            have h2 : ((2 ^ m : Nat) : Int) = 2 ^ m := by simp
            rw [← h2]; omega)⟩⟩
          go_wp2_with fail
          refine (family_calls (m : Int) A l c _ (Kd.C_below HR.out HB.out) HV2.out).mono ?_
          rintro e w1 ⟨g, rfl, hF, hb, hg⟩
          have HB0' := Aside0.mk (blk_below HB0.out hb)
          have HB' := Aside0.mk (below_step HB.out hb)
          have HF := Aside0.mk hF
          have HG := Aside0.mk hg
          clear hF hb hg hc0_0 hc0_1 HB0 HB
          have hc0_0 : w1.cell? ⟨w.heap.size, 0, none⟩ = some (.int .i64 (m : Int)) := (blk_cell HB0'.out 0).trans rfl
          have hc0_1 : w1.cell? ⟨w.heap.size, 1, none⟩ = some (.slice A l.length c) := (blk_cell HB0'.out 1).trans rfl
          have hf0 := HF.out.cell 0 (by omega)
          obtain ⟨b, hb⟩ : ∃ b, famOf l 0 = b := ⟨_, rfl⟩
          rw [hb] at hf0
          have HBV := Aside0.mk hb
          clear hb
          cases b
          · go_wp2_with fail
            go_quiet (fail)
            go_wp2
            go_ret
            refine ⟨?_, pw_below_drewN HB'.out _⟩
            have : isSpN m l = false := by unfold isSpN; rw [HBV.out]; simp
            simp [HE.out, this]
          · have hq : 2 ^ m - 1 < 128 := by
              have : (2 : Nat) ^ m ≤ 2 ^ 7 := Nat.pow_le_pow_right (by omega) hm7
              omega
            obtain ⟨q, hqq⟩ : ∃ q, 2 ^ m - 1 = q := ⟨_, rfl⟩
            have HAL := Aside0.mk (all_pure m l (by omega))
            rw [hqq] at hq HAL
            have HQ := Aside0.mk hqq
            clear hqq
            obtain ⟨b, hb⟩ : ∃ b, famOf l q = b := ⟨_, rfl⟩
            have HBQ := Aside0.mk hb
            clear hb
            cases b
            · go_wp2_with fail
              go_region_with (go_at_call 109; refine (impl_Space_all.calls (m : Int) A c l (q : Int) _ (Kd.C_drew (Kd.C_below HR.out HB'.out)) HC.out HAL.out).mono ?_; rintro e w2 ⟨rfl, hb⟩; have hF1 := Aside0.mk (HF.out.drew.below hb); have hb0 := Aside0.mk (blk_below (blk_drew HB0'.out) hb); have hbb := Aside0.mk (below_step (below_drew1 HB'.out) hb); have hcq := hF1.out.cell q hq; rw [HBQ.out] at hcq; clear hb)
              go_wp2
              go_ret
              refine ⟨?_, hbb.out⟩
              have : isSpN m l = false := by unfold isSpN; rw [HQ.out, HBQ.out]; simp
              simp [HE.out, this]
            · go_wp2_with fail
              go_region_with (go_at_call 109; refine (impl_Space_all.calls (m : Int) A c l (q : Int) _ (Kd.C_drew (Kd.C_below HR.out HB'.out)) HC.out HAL.out).mono ?_; rintro e w2 ⟨rfl, hb⟩; have hF1 := Aside0.mk (HF.out.drew.below hb); have hb0 := Aside0.mk (blk_below (blk_drew HB0'.out) hb); have hbb := Aside0.mk (below_step (below_drew1 HB'.out) hb); have hcq := hF1.out.cell q hq; rw [HBQ.out] at hcq; clear hb)
              clear hc0_0 hc0_1 hf0 hcq
              obtain ⟨w3, hw3⟩ : ∃ w3 : World, w3 = w2 := ⟨_, rfl⟩
              subst hw3
              have hc0_0 : w3.cell? ⟨w.heap.size, 0, none⟩ = some (.int .i64 (m : Int)) := (blk_cell hb0.out 0).trans rfl
              have hc0_1 : w3.cell? ⟨w.heap.size, 1, none⟩ = some (.slice A l.length c) := (blk_cell hb0.out 1).trans rfl
              go_wp2_with fail
              have HR2 := HR
              have HIN : Aside0 (isSpN m l = l.all (rowOk (famOf l) l)) := ⟨by
                unfold isSpN
                rw [decide_eq_true HL2.out, all_range_true (fun j hj => HI.out j hj), HBV.out, HQ.out, HBQ.out]; simp⟩
              clear HI HK HF hc0_0 hc0_1
              go_loopg [70] l.length (fun kq v70 w' => ∃ i : Nat, v70 = .int .i64 i ∧ i ≤ l.length ∧ Aside0 (kq = l.length - i) ∧ Aside0 (∀ j (hj : j < l.length), j < i → rowOk (famOf l) l l[j] = true) ∧ Aside0 (FamAt w' g (famOf l)) ∧ Aside0 (w'.heap[w.heap.size]? = some (.cells #[.int .i64 (m : Int), .slice A l.length c] 28 (0, 0))) ∧ Aside0 (Below w.heap.size w w'))
              case atStart => exact ⟨0, rfl, Nat.zero_le _, ⟨rfl⟩, ⟨fun j _ h => by omega⟩, hF1, hb0, hbb⟩
              case round =>
                clear hF1 hb0 hbb HB0' HB'
                obtain ⟨i, rfl, hi, HK, HI, HF, HB0, HB⟩ := hrel
                have hc0_0 : wr.cell? ⟨w.heap.size, 0, none⟩ = some (.int .i64 (m : Int)) := (blk_cell HB0.out 0).trans rfl
                have hc0_1 : wr.cell? ⟨w.heap.size, 1, none⟩ = some (.slice A l.length c) := (blk_cell HB0.out 1).trans rfl
                by_cases hlt : i < l.length
                · obtain ⟨ad, e1, hx⟩ := int_at HR.out i hlt
                  cases e1
                  replace hx := pw_cell_below HB.out hx
                  have hm := HV2.out (l[i]) (List.getElem_mem hlt)
                  obtain ⟨k, hk1⟩ := Int.eq_ofNat_of_zero_le hm.1
                  have hk2 : k < 128 := by have := hm.2; rw [hk1] at this; omega
                  have hgd : l[i]?.getD 0 = (k : Int) := by simp [hlt, hk1]
                  rw [hgd] at hx
                  have HK1 := Aside0.mk hk1
                  clear hm hk1 hgd
                  have hinl := inner_lt (famOf l) k
                  have HX := Aside0.mk (show l[i].toNat = k by rw [HK1.out]; simp)
                  have HRW : Aside0 (rowOk (famOf l) l l[i] = ((decide (l[i] = 0) || decide (inner (famOf l) k ≠ 0)) && orOk (famOf l) l k)) := ⟨by unfold rowOk; rw [HX.out]⟩
                  by_cases hk0 : k = 0 ∨ inner (famOf l) k ≠ 0
                  · have HRO : Aside0 (rowOk (famOf l) l l[i] = orOk (famOf l) l k) := ⟨by
                      rw [HRW.out]
                      rcases hk0 with h | h
                      · rw [decide_eq_true (show l[i] = 0 by rw [HK1.out, h]; rfl)]; simp
                      · rw [decide_eq_true h]; simp⟩
                    obtain ⟨v, hv⟩ : ∃ v, inner (famOf l) k = v := ⟨_, rfl⟩
                    have HVV := Aside0.mk hv
                    rw [hv] at hk0 hinl
                    clear hv
                    rcases Nat.eq_zero_or_pos k with h0 | h0
                    · have hkb : ((k : Int) != 0) = false := by simp [h0]
                      have HH0 := Aside0.mk h0
                      clear h0 hk0
                      go_wp2_with fail
                      have HF4 := HF
                      have HB04 := HB0
                      have HB4 := HB
                      clear HF HB0 HB
                      go_loopg [85] l.length (fun kq v85 w' => ∃ j : Nat, v85 = .int .i64 j ∧ j ≤ l.length ∧ Aside0 (kq = l.length - j) ∧ Aside0 (∀ j' (hj : j' < l.length), j' < j → famOf l (k ||| l[j'].toNat) = true) ∧ Aside0 (FamAt w' g (famOf l)) ∧ Aside0 (w'.heap[w.heap.size]? = some (.cells #[.int .i64 (m : Int), .slice (some ad) l.length c] 28 (0, 0))) ∧ Aside0 (Below w.heap.size w w'))
                      case atStart => exact ⟨0, rfl, Nat.zero_le _, ⟨rfl⟩, ⟨fun j _ h => by omega⟩, HF4, HB04, HB4⟩
                      case round =>
                        clear HF4 HB04 HB4 hc0_0 hc0_1
                        obtain ⟨j, rfl, hj, HKJ, HJ, HF5, HB05, HB5⟩ := hrel
                        have hc0_0 : wr.cell? ⟨w.heap.size, 0, none⟩ = some (.int .i64 (m : Int)) := (blk_cell HB05.out 0).trans rfl
                        have hc0_1 : wr.cell? ⟨w.heap.size, 1, none⟩ = some (.slice (some ad) l.length c) := (blk_cell HB05.out 1).trans rfl
                        by_cases hjt : j < l.length
                        · obtain ⟨ad', e2, hy⟩ := int_at HR.out j hjt
                          cases e2
                          replace hy := pw_cell_below HB5.out hy
                          have hm := HV2.out (l[j]) (List.getElem_mem hjt)
                          obtain ⟨y, hy1⟩ := Int.eq_ofNat_of_zero_le hm.1
                          have hy2 : y < 128 := by have := hm.2; rw [hy1] at this; omega
                          have hgd : l[j]?.getD 0 = (y : Int) := by simp [hjt, hy1]
                          rw [hgd] at hy
                          have hgo := go_or k y hk2 hy2
                          have hq2 : k ||| y < 128 := Nat.or_lt_two_pow (n := 7) hk2 hy2
                          obtain ⟨q2, hq2e⟩ : ∃ q2, k ||| y = q2 := ⟨_, rfl⟩
                          rw [hq2e] at hgo hq2
                          have hcq := HF5.out.cell q2 hq2
                          obtain ⟨b, hb⟩ : ∃ b, famOf l q2 = b := ⟨_, rfl⟩
                          rw [hb] at hcq
                          have HFY : Aside0 (famOf l (k ||| l[j].toNat) = b) := ⟨by rw [hy1, Int.toNat_natCast, hq2e, hb]⟩
                          clear hm hy1 hgd hq2e hb
                          cases b
                          · go_wp2
                            go_ret
                            refine ⟨?_, HB5.out⟩
                            have h1 : orOk (famOf l) l k = false := all_at_false hjt HFY.out
                            have : l.all (rowOk (famOf l) l) = false := all_at_false hlt (HRO.out.trans h1)
                            simp [HE.out, HIN.out, this]
                          · go_wp2
                            go_roundg (l.length - (j + 1))
                            case measure => have := HKJ.out; omega
                            case rel =>
                              exact ⟨j + 1, by go_num, by omega, ⟨rfl⟩, ⟨fun j' hj' h => by
                                rcases Nat.lt_or_ge j' j with h' | h'
                                · exact HJ.out j' hj' h'
                                · obtain rfl : j' = j := by omega
                                  exact HFY.out⟩, HF5, HB05, HB5⟩
                        · obtain rfl : j = l.length := by omega
                          go_wp2
                          go_roundg (l.length - (i + 1))
                          case measure => have := HK.out; omega
                          case rel =>
                            exact ⟨i + 1, by go_num, by omega, ⟨rfl⟩, ⟨fun j' hj' h => by
                              rcases Nat.lt_or_ge j' i with h' | h'
                              · exact HI.out j' hj' h'
                              · obtain rfl : j' = i := by omega
                                exact HRO.out.trans (all_at_true fun z hz => HJ.out z hz hz)⟩, HF5, HB05, HB5⟩
                    · have hkb : ((k : Int) != 0) = true := by simp; omega
                      have hv0 : 0 < v := by omega
                      have hvb : ((v : Int) == 0) = false := by simp; omega
                      clear hk0
                      go_wp2_with fail
                      refine (inner_calls g k (famOf l) wr hk2 HF.out).mono ?_
                      rintro e w4 ⟨rfl, hb4⟩
                      rw [HVV.out]
                      have hb04 := blk_below HB0.out hb4
                      have HB4 := Aside0.mk (below_step HB.out hb4)
                      have HF4 := Aside0.mk (HF.out.below hb4)
                      clear hc0_0 hc0_1 HF HB0 HB hb4
                      have hc0_0 : w4.cell? ⟨w.heap.size, 0, none⟩ = some (.int .i64 (m : Int)) := (blk_cell hb04 0).trans rfl
                      have hc0_1 : w4.cell? ⟨w.heap.size, 1, none⟩ = some (.slice (some ad) l.length c) := (blk_cell hb04 1).trans rfl
                      have HB04 := Aside0.mk hb04
                      clear hb04
                      go_wp2_with fail
                      go_loopg [85] l.length (fun kq v85 w' => ∃ j : Nat, v85 = .int .i64 j ∧ j ≤ l.length ∧ Aside0 (kq = l.length - j) ∧ Aside0 (∀ j' (hj : j' < l.length), j' < j → famOf l (k ||| l[j'].toNat) = true) ∧ Aside0 (FamAt w' g (famOf l)) ∧ Aside0 (w'.heap[w.heap.size]? = some (.cells #[.int .i64 (m : Int), .slice (some ad) l.length c] 28 (0, 0))) ∧ Aside0 (Below w.heap.size w w'))
                      case atStart => exact ⟨0, rfl, Nat.zero_le _, ⟨rfl⟩, ⟨fun j _ h => by omega⟩, HF4, HB04, HB4⟩
                      case round =>
                        clear HF4 HB04 HB4 hc0_0 hc0_1
                        obtain ⟨j, rfl, hj, HKJ, HJ, HF5, HB05, HB5⟩ := hrel
                        have hc0_0 : wr.cell? ⟨w.heap.size, 0, none⟩ = some (.int .i64 (m : Int)) := (blk_cell HB05.out 0).trans rfl
                        have hc0_1 : wr.cell? ⟨w.heap.size, 1, none⟩ = some (.slice (some ad) l.length c) := (blk_cell HB05.out 1).trans rfl
                        by_cases hjt : j < l.length
                        · obtain ⟨ad', e2, hy⟩ := int_at HR.out j hjt
                          cases e2
                          replace hy := pw_cell_below HB5.out hy
                          have hm := HV2.out (l[j]) (List.getElem_mem hjt)
                          obtain ⟨y, hy1⟩ := Int.eq_ofNat_of_zero_le hm.1
                          have hy2 : y < 128 := by have := hm.2; rw [hy1] at this; omega
                          have hgd : l[j]?.getD 0 = (y : Int) := by simp [hjt, hy1]
                          rw [hgd] at hy
                          have hgo := go_or k y hk2 hy2
                          have hq2 : k ||| y < 128 := Nat.or_lt_two_pow (n := 7) hk2 hy2
                          obtain ⟨q2, hq2e⟩ : ∃ q2, k ||| y = q2 := ⟨_, rfl⟩
                          rw [hq2e] at hgo hq2
                          have hcq := HF5.out.cell q2 hq2
                          obtain ⟨b, hb⟩ : ∃ b, famOf l q2 = b := ⟨_, rfl⟩
                          rw [hb] at hcq
                          have HFY : Aside0 (famOf l (k ||| l[j].toNat) = b) := ⟨by rw [hy1, Int.toNat_natCast, hq2e, hb]⟩
                          clear hm hy1 hgd hq2e hb
                          cases b
                          · go_wp2
                            go_ret
                            refine ⟨?_, HB5.out⟩
                            have h1 : orOk (famOf l) l k = false := all_at_false hjt HFY.out
                            have : l.all (rowOk (famOf l) l) = false := all_at_false hlt (HRO.out.trans h1)
                            simp [HE.out, HIN.out, this]
                          · go_wp2
                            go_roundg (l.length - (j + 1))
                            case measure => have := HKJ.out; omega
                            case rel =>
                              exact ⟨j + 1, by go_num, by omega, ⟨rfl⟩, ⟨fun j' hj' h => by
                                rcases Nat.lt_or_ge j' j with h' | h'
                                · exact HJ.out j' hj' h'
                                · obtain rfl : j' = j := by omega
                                  exact HFY.out⟩, HF5, HB05, HB5⟩
                        · obtain rfl : j = l.length := by omega
                          go_wp2
                          go_roundg (l.length - (i + 1))
                          case measure => have := HK.out; omega
                          case rel =>
                            exact ⟨i + 1, by go_num, by omega, ⟨rfl⟩, ⟨fun j' hj' h => by
                              rcases Nat.lt_or_ge j' i with h' | h'
                              · exact HI.out j' hj' h'
                              · obtain rfl : j' = i := by omega
                                exact HRO.out.trans (all_at_true fun z hz => HJ.out z hz hz)⟩, HF5, HB05, HB5⟩
                  · have h0 : 0 < k := by omega
                    have hv0 : inner (famOf l) k = 0 := by omega
                    have hkb : ((k : Int) != 0) = true := by simp; omega
                    have HRO : Aside0 (rowOk (famOf l) l l[i] = false) := ⟨by
                      rw [HRW.out, hv0, decide_eq_false (show ¬ l[i] = 0 by rw [HK1.out]; omega)]; simp⟩
                    have HVV := Aside0.mk hv0
                    clear hk0 hv0 hinl
                    go_wp2_with fail
                    refine (inner_calls g k (famOf l) wr hk2 HF.out).mono ?_
                    rintro e w4 ⟨rfl, hb4⟩
                    rw [HVV.out]
                    have HB4 := Aside0.mk (below_step HB.out hb4)
                    clear hb4
                    go_wp2
                    go_ret
                    refine ⟨?_, HB4.out⟩
                    have : l.all (rowOk (famOf l) l) = false := all_at_false hlt HRO.out
                    simp [HE.out, HIN.out, this]
                · obtain rfl : i = l.length := by omega
                  go_wp2
                  go_ret
                  refine ⟨?_, HB.out⟩
                  have : l.all (rowOk (famOf l) l) = true := all_at_true fun j hj => HI.out j hj hj
                  simp [HE.out, HIN.out, this]
  · have HS : Aside0 (impl_isSize.f n = some false) := ⟨by rw [isSize_pure, decide_eq_false h1]⟩
    have HE : Aside0 (isSpB n l = false) := ⟨if_neg h1⟩
    clear h1
    go_enter Try.func89, Try.ntmps89
    go_wp2_with fail
    go_quiet (first | (go_at_call 72; (with_reducible refine (impl_isSize.calls n false _ HS.out).mono ?_); rintro e w' ⟨rfl, ⟨nd, rfl⟩⟩; exact ⟨rfl, _, World.drewN_drewN _ _ _⟩))
    go_wp2
    go_ret
    exact ⟨by simp [HE.out], by repeat (first | exact Below.refl _ _ | apply pw_below_drewN | apply below_alloc)⟩

def impl_IsSpace.f (a0_0 : Int) (l0_1 : List Int) : Option Bool := some (isSpB a0_0 l0_1)
theorem impl_IsSpace.calls (a0_0 : Int) (A0_1 : Option Addr) (c0_1 : Nat) (l0_1 : List Int) (r : Bool) (w : World) (hr0_1 : Kd.C (Kd.int .i64) w A0_1 l0_1.length l0_1) (hc0_1 : l0_1.length ≤ c0_1) (h : impl_IsSpace.f a0_0 l0_1 = some r) :
    Calls Try.prog 89 #[.agg #[.int .i64 a0_0, .slice A0_1 l0_1.length c0_1]] w fun e w' => e = .returned (.bool r) ∧ Below w.heap.size w w' := by
  obtain rfl := Option.some.inj h
  exact IsSpace_calls a0_0 A0_1 c0_1 l0_1 w hr0_1 hc0_1
end Go.Proofs.Ytjhjphgdjhahlaa.P
/- Plain facts: the first least one of some items; greedy words. No program. -/
-- by Sp.zero, Sp.outer_ne
namespace Go.Proofs.Ytjhjphgdjhahlaa.P
open Go.RowKit Go.Proofs.YtjhjphgdjhahlaaW.PrintWords Go.Proofs.YtjhjphgdjhahlaaW.PrintLast Go.Proofs.YtjhjphgdjhahlaaW.PrintMore
set_option linter.unusedVariables false

def pickS (v : Nat → Int) (it : List Nat) : Int × Int := it.foldl (fun s i => if s.1 < 0 ∨ v i < s.2 then ((i : Int), v i) else s) (-1, 0)
theorem pickS_snoc (v : Nat → Int) (it : List Nat) (i : Nat) : pickS v (it ++ [i]) = if (pickS v it).1 < 0 ∨ v i < (pickS v it).2 then ((i : Int), v i) else pickS v it := by
  unfold pickS
  rw [List.foldl_append]
  rfl
theorem pickS_spec (v : Nat → Int) (k : Nat) : ∀ it : List Nat, it.length = k + 1 → ∃ b ∈ it, pickS v it = ((b : Int), v b) ∧ ∀ i ∈ it, v b ≤ v i := by
  induction k with
  | zero =>
    intro it h
    obtain ⟨a, rfl⟩ := List.length_eq_one_iff.1 h
    exact ⟨a, by simp, by simp [pickS], by simp⟩
  | succ k ih =>
    intro it h
    obtain ⟨i0, a, rfl⟩ : ∃ i0 a, it = i0 ++ [a] := ⟨it.dropLast, it.getLast (by intro e; rw [e] at h; simp at h), (List.dropLast_concat_getLast _).symm⟩
    obtain ⟨b, hb, e, hm⟩ := ih i0 (by simpa using h)
    rw [pickS_snoc, e]
    by_cases hc : ((b : Nat) : Int) < 0 ∨ v a < v b
    · rw [if_pos hc]
      refine ⟨a, by simp, rfl, fun i hi => ?_⟩
      rcases List.mem_append.1 hi with hi | hi
      · have := hm i hi; omega
      · simp at hi; subst hi; exact Int.le_refl _
    · rw [if_neg hc]
      refine ⟨b, by simp [hb], rfl, fun i hi => ?_⟩
      rcases List.mem_append.1 hi with hi | hi
      · exact hm i hi
      · simp at hi; subst hi; omega
theorem pick_mem (v : Nat → Int) (it : List Nat) (h : it ≠ []) : ∃ b ∈ it, pickS v it = ((b : Int), v b) ∧ ∀ i ∈ it, v b ≤ v i := by
  obtain ⟨k, hk⟩ : ∃ k, it.length = k + 1 := ⟨it.length - 1, by have := List.length_pos_iff.2 h; omega⟩
  exact pickS_spec v k it hk
/-- the item that comes next by greed -/
def pick (F : Nat → Bool) (v : Nat → Nat → Int) (s : Nat) : Nat := (pickS (v s) (itemsOf (outer F s))).1.toNat
def greedyW (F : Nat → Bool) (al : Nat) (v : Nat → Nat → Int) : Nat → Nat → List Nat
  | 0, _ => []
  | d + 1, s => if s = al then [] else pick F v s :: greedyW F al v d (wth s (pick F v s))
variable {n : Nat} {l : List Int}
theorem Sp.pick_ok (h : Sp n l) (v : Nat → Nat → Int) {s : Nat} (hs : famOf l s = true) (hn : s ≠ 2 ^ n - 1) : pick (famOf l) v s ∈ itemsOf (outer (famOf l) s) ∧ pickS (v s) (itemsOf (outer (famOf l) s)) = (((pick (famOf l) v s : Nat) : Int), v s (pick (famOf l) v s)) ∧ ∀ i ∈ itemsOf (outer (famOf l) s), v s (pick (famOf l) v s) ≤ v s i := by
  obtain ⟨b, hb, e, hm⟩ := pick_mem (v s) _ (h.outer_ne hs hn)
  have : pick (famOf l) v s = b := by unfold pick; rw [e]; simp
  rw [this]
  exact ⟨hb, e, hm⟩
theorem Sp.cnt_lt (h : Sp n l) {s : Nat} (hs : famOf l s = true) (hn : s ≠ 2 ^ n - 1) : cnt s < n := by
  have h1 := h.famlt hs
  have : ∀ n, n ≤ 7 → ∀ s, s < 2 ^ n → s ≠ 2 ^ n - 1 → cnt s < n := by decide +kernel
  exact this n h.n7 s h1 hn
end Go.Proofs.Ytjhjphgdjhahlaa.P
/- impl's 'greedy': the word in which always the first item with the least value comes next. -/
-- by Sp.pick_ok, Sp.outer_ne, Sp.cnt_lt, Sp.n7
namespace Go.Proofs.Ytjhjphgdjhahlaa.P
open Go.RowKit Go.Proofs.YtjhjphgdjhahlaaW.PrintWords Go.Proofs.YtjhjphgdjhahlaaW.PrintLast Go.Proofs.YtjhjphgdjhahlaaW.PrintMore
set_option linter.unusedVariables false
set_option maxHeartbeats 1600000
set_option maxRecDepth 100000

theorem R_fresh (W : World) (base : Nat) (hb : base ≤ W.heap.size) : Kd.R (Kd.int .i64) 3 (W.alloc (.cells #[] 3)) base (fun _ => True) (.slice (some ⟨W.heap.size, 0, none⟩) 0 0) [] :=
  ⟨fun _ _ => trivial, [], own_lit W base 3 .i64 [] hb (by simp), Reps.none _ _⟩
theorem all_sp (n : Nat) (l : List Int) (hn : n ≤ 7) : impl_Space_all.f (n : Int) l = some (((2 ^ n - 1 : Nat)) : Int) := all_pure n l (by omega)
theorem greedy_calls (n : Nat) (l : List Int) (hsp : Sp n l) (A : Option Addr) (c : Nat) (w : World) (g : Nat) (lb : Array Value) (v : Nat → Nat → Int) (hr : Kd.C (Kd.int .i64) w A l.length l) (hc : l.length ≤ c) (eg : ∀ args w, (callFunc g args).run Try.prog w = .ok (.enter g args) w)
    (hg : ∀ s i, famOf l s = true → i ∈ itemsOf (outer (famOf l) s) → ∀ W, Below w.heap.size w W → Calls Try.prog g (#[.int .i64 (s : Int), .int .i64 (i : Int)] ++ lb) W fun e W' => e = .returned (.int .i64 (v s i)) ∧ Below W.heap.size W W') :
    Calls Try.prog 120 #[.agg #[.int .i64 n, .slice A l.length c], .func (.func g) #[] lb] w fun e w' => ∃ v0_ : Value, e = .returned v0_ ∧ Kd.R (Kd.int .i64) 3 w' w.heap.size (fun _ => True) v0_ (ints (greedyW (famOf l) (2 ^ n - 1) v 8 0)) ∧ Below w.heap.size w w' := by
  have hu := Try.underlying28
  have HSP := Aside0.mk hsp
  have HR := Aside0.mk hr
  have HC := Aside0.mk hc
  have HG := Aside0.mk hg
  clear hsp hr hc hg
  obtain ⟨al, hal⟩ : ∃ al, 2 ^ n - 1 = al := ⟨_, rfl⟩
  have HAE := Aside0.mk hal
  have HALL := Aside0.mk (all_sp n l HSP.out.n7)
  rw [hal] at HALL ⊢
  clear hal
  go_enter Try.func120, Try.ntmps120
  go_wp2_with fail
  refine (family_calls n A l c _ (Kd.C_alloc HR.out _) HSP.out.lt128).mono ?_
  rintro e w1 ⟨fm, rfl, hf, hb, hgm⟩
  have HF1 := Aside0.mk hf
  have HS1 := Aside0.mk (blk_below (blk_new w _) hb)
  have HB1 := Aside0.mk (below_step (below_alloc (Below.refl _ w) _) hb)
  clear hf hb hgm
  go_wp2_with fail
  have h0 := HSP.out.zero
  go_loopg [6, 7] n (fun kq v6 v7 w' => ∃ (s : Nat) (A1 : Option Addr) (c1 : Nat) (o : List Nat), v7 = .int .i64 (s : Int) ∧ v6 = .slice A1 (ints o).length c1 ∧ Aside0 (kq = n - o.length) ∧ famOf l s = true ∧ Aside0 (cnt s = o.length) ∧ Aside0 (greedyW (famOf l) al v 8 0 = o ++ greedyW (famOf l) al v (8 - o.length) s) ∧ Aside0 (Kd.R (Kd.int .i64) 3 w' w.heap.size (fun _ => True) (.slice A1 (ints o).length c1) (ints o)) ∧ Aside0 (FamAt w' fm (famOf l)) ∧ Aside0 (w'.heap[w.heap.size]? = some (.cells #[.int .i64 (n : Int), .slice A l.length c] 28 (0, 0))) ∧ Aside0 (Below w.heap.size w w'))
  case atStart => exact ⟨0, some ⟨w1.heap.size, 0, none⟩, 0, [], rfl, rfl, ⟨rfl⟩, h0, ⟨by decide⟩, ⟨rfl⟩, ⟨R_fresh w1 _ HB1.out.size⟩, ⟨HF1.out.alloc _⟩, ⟨blk_alloc HS1.out _⟩, ⟨below_alloc HB1.out _⟩⟩
  case round =>
    obtain ⟨s, A1, c1, o, rfl, rfl, HK, hs, HCN, HGR, HO, HF, HS, HB⟩ := hrel
    have hb0 : wr.cell? ⟨w.heap.size, 0, none⟩ = some (.int .i64 (n : Int)) := (blk_cell HS.out 0).trans rfl
    have hb1 : wr.cell? ⟨w.heap.size, 1, none⟩ = some (.slice A l.length c) := (blk_cell HS.out 1).trans rfl
    have HFS := Aside0.mk hs
    by_cases hse : s = al
    · subst hse
      clear hs
      go_wp2_with fail
      refine (impl_Space_all.calls (n : Int) A c l (s : Int) _ (Kd.C_below HR.out HB.out) HC.out HALL.out).mono ?_
      rintro e w2 ⟨rfl, hb⟩
      have HB2 := Aside0.mk hb
      clear hb hb0 hb1
      go_wp2_with fail
      go_ret
      refine ⟨.slice A1 (ints o).length c1, rfl, ?_, below_step HB.out HB2.out⟩
      have e0 : greedyW (famOf l) s v 8 0 = o := by
        rw [HGR.out]
        obtain ⟨d, hd⟩ : ∃ d, 8 - o.length = d := ⟨_, rfl⟩
        rw [hd]
        cases d with
        | zero => simp [greedyW]
        | succ d => simp [greedyW]
      rw [e0]
      exact Kd.R_below HO.out HB2.out
    · have hcl := HSP.out.cnt_lt hs (by rw [HAE.out]; exact hse)
      have hs128 : s < 128 := HSP.out.flt hs
      have hne : ((s : Int) != (al : Int)) = true := by simp; omega
      clear hs
      go_wp2_with fail
      refine (impl_Space_all.calls (n : Int) A c l (al : Int) _ (Kd.C_below HR.out HB.out) HC.out HALL.out).mono ?_
      rintro e w2 ⟨rfl, hb⟩
      have HF2 := Aside0.mk (HF.out.below hb)
      have HS2 := Aside0.mk (blk_below HS.out hb)
      have HO2 := Aside0.mk (Kd.R_below HO.out hb)
      have HB2 := Aside0.mk (below_step HB.out hb)
      clear hb hb0 hb1 HF HS HO HB
      go_wp2_with fail
      refine (outer_calls fm s (famOf l) _ hs128 HF2.out).mono ?_
      rintro e w3 ⟨rfl, hb⟩
      have HF3 := Aside0.mk (HF2.out.below hb)
      have HS3 := Aside0.mk (blk_below HS2.out hb)
      have HO3 := Aside0.mk (Kd.R_below HO2.out hb)
      have HB3 := Aside0.mk (below_step HB2.out hb)
      clear hb HF2 HS2 HO2 HB2
      have hol := outer_lt (famOf l) s
      obtain ⟨ou, hou⟩ : ∃ ou, outer (famOf l) s = ou := ⟨_, rfl⟩
      rw [hou] at hol ⊢
      have HOU := Aside0.mk hou
      clear hou
      go_wp2_with fail
      refine (impl_items.calls 8 (ou : Int) _ _ (items_pure ou hol)).mono ?_
      rintro e w4 ⟨v0, rfl, ho, hb⟩
      obtain ⟨A3, c3, rfl⟩ := Kd.R_slice ho
      have HIT := Aside0.mk (Kd.R_reads' ho).2.2
      have HF4 := Aside0.mk (HF3.out.below hb)
      have HS4 := Aside0.mk (blk_below HS3.out hb)
      have HO4 := Aside0.mk (Kd.R_below HO3.out hb)
      have HB4 := Aside0.mk (below_step HB3.out hb)
      have HLEN := Aside0.mk (ints_len (itemsOf ou))
      have hl7 := itemsOf_len ou
      clear hb ho HF3 HS3 HO3 HB3
      go_wp2_with fail
      obtain ⟨it, hit⟩ : ∃ it, itemsOf ou = it := ⟨_, rfl⟩
      have HITE := Aside0.mk hit
      rw [hit] at HIT HLEN hl7 ⊢
      clear hit
      go_loopg [8, 9, 25] it.length (fun kq v8 v9 v25 w' => ∃ i : Nat, v25 = .int .i64 (i : Int) ∧ v8 = .int .i64 (pickS (v s) (it.take i)).1 ∧ v9 = .int .i64 (pickS (v s) (it.take i)).2 ∧ i ≤ it.length ∧ Aside0 (kq = it.length - i) ∧ Aside0 (Below w4.heap.size w4 w'))
      case atStart => exact ⟨0, rfl, rfl, rfl, Nat.zero_le _, ⟨rfl⟩, ⟨Below.refl _ _⟩⟩
      case round =>
        obtain ⟨i, rfl, rfl, rfl, hi, HKI, HBI⟩ := hrel
        by_cases hlt : i < it.length
        · obtain ⟨a, ha⟩ : ∃ a, it[i] = a := ⟨_, rfl⟩
          have ham : a ∈ itemsOf (outer (famOf l) s) := by rw [HOU.out, HITE.out, ← ha]; exact List.getElem_mem hlt
          have hgd : (ints it)[i]?.getD 0 = (a : Int) := by simp [ints, hlt, ha]
          have hps : pickS (v s) (it.take (i + 1)) = if (pickS (v s) (it.take i)).1 < 0 ∨ v s a < (pickS (v s) (it.take i)).2 then ((a : Int), v s a) else pickS (v s) (it.take i) := by
            rw [List.take_succ_eq_append_getElem hlt, pickS_snoc, ha]
          obtain ⟨ad, e1, hx⟩ := int_at HIT.out i (by rw [HLEN.out]; exact hlt)
          cases e1
          rw [hgd] at hx
          replace hx := pw_cell_below HBI.out hx
          have HLT := Aside0.mk (show i < (ints it).length by rw [HLEN.out]; exact hlt)
          have hlt2 := HLT.out
          obtain ⟨⟨pb, pl⟩, hp⟩ : ∃ p, pickS (v s) (it.take i) = p := ⟨_, rfl⟩
          rw [hp] at hps ⊢
          have HPS := Aside0.mk hps
          have hcall := HG.out s a HFS.out ham wr (below_step HB4.out HBI.out)
          obtain ⟨va, hva⟩ : ∃ va, v s a = va := ⟨_, rfl⟩
          rw [hva] at hcall HPS
          have HCALL := Aside0.mk hcall
          clear ha ham hgd hps hp hva hcall
          dsimp only
          go_wp2_with fail
          refine HCALL.out.mono ?_
          rintro e w5 ⟨rfl, hb⟩
          have HB5 := Aside0.mk (below_step HBI.out hb)
          clear hb hx
          by_cases hneg : pb < 0
          · have hn1 : decide (pb < 0) = true := by simpa using hneg
            have HN := Aside0.mk hneg
            clear hneg
            go_wp2_with fail
            go_roundg (it.length - (i + 1))
            case measure => have := HKI.out; omega
            case rel =>
              have e9 := HPS.out
              rw [if_pos (.inl HN.out)] at e9
              exact ⟨i + 1, by go_num, by rw [e9], by rw [e9], by omega, ⟨rfl⟩, HB5⟩
          · have hn1 : decide (pb < 0) = false := by simpa using hneg
            have HN := Aside0.mk hneg
            clear hneg
            by_cases hlt3 : va < pl
            · have hn2 : decide (va < pl) = true := by simpa using hlt3
              have HN2 := Aside0.mk hlt3
              clear hlt3
              go_wp2_with fail
              go_roundg (it.length - (i + 1))
              case measure => have := HKI.out; omega
              case rel =>
                have e9 := HPS.out
                rw [if_pos (.inr HN2.out)] at e9
                exact ⟨i + 1, by go_num, by rw [e9], by rw [e9], by omega, ⟨rfl⟩, HB5⟩
            · have hn2 : decide (va < pl) = false := by simpa using hlt3
              have HN2 := Aside0.mk hlt3
              clear hlt3
              go_wp2_with fail
              go_roundg (it.length - (i + 1))
              case measure => have := HKI.out; omega
              case rel =>
                have e9 := HPS.out
                rw [if_neg (by have := HN.out; have := HN2.out; omega)] at e9
                exact ⟨i + 1, by go_num, by rw [e9], by rw [e9], by omega, ⟨rfl⟩, HB5⟩
        · obtain rfl : i = it.length := by omega
          have hge : ¬ it.length < (ints it).length := by rw [HLEN.out]; exact hlt
          obtain ⟨hpm, hpe, -⟩ := HSP.out.pick_ok v HFS.out (by rw [HAE.out]; exact hse)
          have hpn := (HSP.out.outer_mem HFS.out hpm).1
          have hpf := (HSP.out.outer_mem HFS.out hpm).2
          rw [HOU.out, HITE.out] at hpe
          rw [List.take_length, hpe]
          have hgw : greedyW (famOf l) al v (8 - o.length) s = pick (famOf l) v s :: greedyW (famOf l) al v (8 - (o ++ [pick (famOf l) v s]).length) (wth s (pick (famOf l) v s)) := by
            have h8 : 8 - o.length = (8 - (o ++ [pick (famOf l) v s]).length) + 1 := by have := HCN.out; have := HSP.out.n7; simp; omega
            rw [h8]; simp only [greedyW]; rw [if_neg hse]
          have HGW := Aside0.mk hgw
          obtain ⟨b, hb⟩ : ∃ b, pick (famOf l) v s = b := ⟨_, rfl⟩
          rw [hb] at hpn hpf HGW ⊢
          have hb7 : b < 7 := Nat.lt_of_lt_of_le hpn HSP.out.n7
          obtain ⟨p, hp1, hp2, hp⟩ := bit_letter b (by omega)
          obtain ⟨q, hq⟩ : ∃ q, wth s b = q := ⟨_, rfl⟩
          have hq1 : Go.bits .or .i64 (s : Int) p = (q : Int) := by rw [hp, ← hq]; exact go_wth s b hs128 hb7
          have HQ := Aside0.mk hq
          have HPF := Aside0.mk hpf
          have hvb : ∃ vb, v s b = vb := ⟨_, rfl⟩
          obtain ⟨vb, hvb⟩ := hvb
          rw [hvb]
          clear hpm hpe hpf hgw hb hp hq hvb
          dsimp only
          have HO5 := Aside0.mk (Kd.R_drew (Kd.R_below HO4.out HBI.out))
          have HB5 := Aside0.mk (below_drew1 (below_step HB4.out HBI.out))
          have hol8 : o.length ≤ 7 := by have := HCN.out; have := HSP.out.n7; omega
          go_wp2_with fail
          go_region_law (refine Kd.R_append_step (Kd.int .i64) (w0 := w) (W := wr.drew) w.heap.size ?aW (.tmp 43) (.tmp 45) 22 3 (.int .i64 0) 8 rfl Try.underlying22 info3 rfl (by decide) (by omega) (.slice A1 (ints o).length c1) (ints o) (b : Int) [.int .i64 (b : Int)] (fun _ => True) (fun _ => False) ?aX ?aY ?aP (fun _ hk => hk.elim) ?aF ?aO ?aB ?aS ?aL ?_; (case aW => rfl); (case aX => rfl); (case aY => rfl); (case aP => exact rfl); (case aB => exact HB5.out); (case aF => exact (fun _ _ => trivial)); (case aO => exact HO5.out); (case aS => exact below_size HB5.out); (case aL => simp only [ints, List.length_map]; omega); intro v1 w9 ho hb hgx hat; obtain ⟨A5, c5, rfl⟩ := Kd.R_slice ho; have HO9 := Aside0.mk ho; have HB9 := Aside0.mk hb; have HG9 := Aside0.mk hgx; clear ho hb hgx hat)
          have HF9 := Aside0.mk (blk_grown (blk_drew (blk_below HF4.out HBI.out)) HG9.out (Kd.R_ne HO5.out (blk_drew (blk_below HF4.out HBI.out)) (by decide)))
          have HS9 := Aside0.mk (blk_grown (blk_drew (blk_below HS4.out HBI.out)) HG9.out (Kd.R_ne HO5.out (blk_drew (blk_below HS4.out HBI.out)) (by decide)))
          go_wp2_with fail
          go_roundg (n - (o.length + 1))
          case measure => have := HK.out; have := HCN.out; omega
          case rel =>
            refine ⟨q, A5, c5, o ++ [b], rfl, by simp [ints], ⟨by simp⟩, ?_, ⟨?_⟩, ⟨?_⟩, ⟨?_⟩, ⟨HF9.out⟩, ⟨HS9.out⟩, HB9⟩
            · rw [← HQ.out]; exact HPF.out.2
            · rw [← HQ.out, cnt_wth s b hs128 hb7 HPF.out.1, HCN.out]; simp
            · rw [HGR.out, HGW.out, HQ.out]; simp
            · have e9 : ints (o ++ [b]) = ints o ++ [(b : Int)] := by simp [ints]
              rw [e9]; exact HO9.out
end Go.Proofs.Ytjhjphgdjhahlaa.P
/- impl's 'best': the greedy word of tasks. -/
-- by Sp.of, Sp.outer_mem, Sp.flt
namespace Go.Proofs.Ytjhjphgdjhahlaa.P
open Go.RowKit Go.Proofs.YtjhjphgdjhahlaaW.PrintWords Go.Proofs.YtjhjphgdjhahlaaW.PrintLast Go.Proofs.YtjhjphgdjhahlaaW.PrintMore
set_option linter.unusedVariables false
set_option maxHeartbeats 1600000
set_option maxRecDepth 100000

theorem best1_calls (n : Nat) (ts : List S54) (A : Option Addr) (c : Nat) (bt : Nat) (w0 w : World) (set item : Nat) (ht : ∀ x ∈ ts, taskB x) (hl : ts.length ≤ 7) (hi : item < ts.length) (hs : set < 128)
    (hb : w.heap[bt]? = some (.cells #[.slice A ts.length c] 40 (0, 0))) (hr : Kd.C k54 w A ts.length ts) (hc : ts.length ≤ c) :
    Calls Try.prog 121 #[.int .i64 (set : Int), .int .i64 (item : Int), .pointer (some ⟨bt, 0, none⟩)] w fun e w' => e = .returned (.int .i64 (costB ts set item)) ∧ Below w.heap.size w w' := by
  obtain ⟨k, hk⟩ := Ev.rounds (cost_pure ts set item ht hl hi hs)
  have HK := Aside0.mk hk
  have HR := Aside0.mk hr
  have HC := Aside0.mk hc
  have hc0 : w.cell? ⟨bt, 0, none⟩ = some (.slice A ts.length c) := (blk_cell hb 0).trans rfl
  clear hk hr hc ht hb
  go_enter Try.func121, Try.ntmps121
  go_wp2_with fail
  refine (impl_cost.calls k A c ts (set : Int) (item : Int) _ _ HR.out HC.out HK.out).mono ?_
  rintro e w1 ⟨rfl, hb⟩
  have HB := Aside0.mk hb
  clear hb
  go_wp2_with fail
  go_ret
  exact ⟨rfl, HB.out⟩
def impl_Space_best.f (a0_0 : Int) (l0_1 : List Int) (l1 : List S54) : Option (List Int) := if isSpB a0_0 l0_1 = true ∧ tasksOk l1 a0_0 = true then some (ints (greedyW (famOf l0_1) (2 ^ a0_0.toNat - 1) (costB l1) 8 0)) else none
theorem best_calls (n : Nat) (l : List Int) (hsp : Sp n l) (ts : List S54) (ht : ∀ x ∈ ts, taskB x) (hl : ts.length = n) (A : Option Addr) (c : Nat) (A1 : Option Addr) (c1 : Nat) (w : World) (hr : Kd.C (Kd.int .i64) w A l.length l) (hc : l.length ≤ c) (hr1 : Kd.C k54 w A1 ts.length ts) (hc1 : ts.length ≤ c1) :
    Calls Try.prog 76 #[.agg #[.int .i64 n, .slice A l.length c], .slice A1 ts.length c1] w fun e w' => ∃ v0_ : Value, e = .returned v0_ ∧ Kd.R (Kd.int .i64) 3 w' w.heap.size (fun _ => True) v0_ (ints (greedyW (famOf l) (2 ^ n - 1) (costB ts) 8 0)) ∧ Below w.heap.size w w' := by
  have hu := Try.underlying28
  have HSP := Aside0.mk hsp
  have HR := Aside0.mk hr
  have HC := Aside0.mk hc
  have HR1 := Aside0.mk hr1
  have HC1 := Aside0.mk hc1
  have HT := Aside0.mk ht
  have HL := Aside0.mk hl
  clear hsp hr hc hr1 hc1 ht hl
  go_enter Try.func76, Try.ntmps76
  go_wp2_with fail
  have hb2 : Below w.heap.size w ((w.alloc (.cells #[.int .i64 (n : Int), .slice A l.length c] 28)).alloc (.cells #[.slice A1 ts.length c1] 40)) := below_alloc (below_alloc (Below.refl _ _) _) _
  have hbx : ((w.alloc (.cells #[.int .i64 (n : Int), .slice A l.length c] 28)).alloc (.cells #[.slice A1 ts.length c1] 40)).heap[w.heap.size + 1]? = some (.cells #[.slice A1 ts.length c1] 40 (0, 0)) := by
    have := blk_new (w.alloc (.cells #[.int .i64 (n : Int), .slice A l.length c] 28)) (.cells #[.slice A1 ts.length c1] 40)
    simpa using this
  have hgr := greedy_calls n l HSP.out A c _ 121 #[.pointer (some ⟨w.heap.size + 1, 0, none⟩)] (costB ts) (Kd.C_below HR.out hb2) HC.out (enters_ (by rw [Try.func121]) (by decide) (by decide)) (fun s i hs hi W hW => by
    have hm := HSP.out.outer_mem hs hi
    have h7 := HSP.out.n7
    have hln := HL.out
    exact best1_calls n ts A1 c1 (w.heap.size + 1) w W s i HT.out (by omega) (by omega) (HSP.out.flt hs) (blk_below hbx hW) (Kd.C_below (Kd.C_below HR1.out hb2) hW) HC1.out)
  refine hgr.mono ?_
  rintro e w1 ⟨v0, rfl, ho, hb⟩
  obtain ⟨A5, c5, rfl⟩ := Kd.R_slice ho
  have HO := Aside0.mk ho
  have HB := Aside0.mk hb
  have HB2 := Aside0.mk hb2
  clear hgr ho hb hb2 hbx
  go_wp2_with fail
  go_ret
  exact ⟨_, rfl, Kd.R_lower HO.out HB2.out.size, below_step HB2.out HB.out⟩
theorem impl_Space_best.calls (a0_0 : Int) (A0_1 : Option Addr) (c0_1 : Nat) (l0_1 : List Int) (A1 : Option Addr) (c1 : Nat) (l1 : List S54) (r : List Int) (w : World) (hr0_1 : Kd.C (Kd.int .i64) w A0_1 l0_1.length l0_1) (hc0_1 : l0_1.length ≤ c0_1) (hr1 : Kd.C k54 w A1 l1.length l1) (hc1 : l1.length ≤ c1) (h : impl_Space_best.f a0_0 l0_1 l1 = some r) :
    Calls Try.prog 76 #[.agg #[.int .i64 a0_0, .slice A0_1 l0_1.length c0_1], .slice A1 l1.length c1] w fun e w' => ∃ v0_ : Value, e = .returned (v0_) ∧ Kd.R (Kd.int .i64) 3 w' w.heap.size (fun _ => True) v0_ r ∧ Below w.heap.size w w' := by
  unfold impl_Space_best.f at h
  split at h
  · rename_i hc
    obtain ⟨n, rfl, hs⟩ := Sp.of hc.1
    obtain ⟨_, h2, h3⟩ := taskB_of hc.2
    simp only [Option.some.injEq, Int.toNat_natCast] at h
    subst h
    exact best_calls n l0_1 hs l1 h3 (by omega) A0_1 c0_1 A1 c1 w hr0_1 hc0_1 hr1 hc1
  · cases h
end Go.Proofs.Ytjhjphgdjhahlaa.P
-- PRINTED by print.py (a twelfth state) out of the translation. Not trusted: Lean checks it.
namespace Go.Proofs.Ytjhjphgdjhahlaa.P
open Go.RowKit Go.Proofs.YtjhjphgdjhahlaaW.PrintWords Go.Proofs.YtjhjphgdjhahlaaW.PrintLast Go.Proofs.YtjhjphgdjhahlaaW.PrintMore
attribute [local go_sem] max2_int min2_int max_two min_two max_three min_three max_four min_four   -- for this text's walks alone
set_option linter.unusedVariables false
set_option linter.unusedSimpArgs false

/-! ### impl_together: function 81 -/
def impl_together.f (a0_0 : Int) (l0_1 : List Int) (l1 : List (S54)) : Option (Bool) := (impl_IsSpace.f a0_0 l0_1).bind fun t212 => (if t212 = true then ((impl_AreTasks.f l1 a0_0).bind fun t213 => (some t213)) else (some false))
set_option maxHeartbeats 8000000 in
set_option maxRecDepth 100000 in
theorem impl_together.calls (a0_0 : Int) (A0_1 : Option Addr) (c0_1 : Nat) (l0_1 : List Int) (A1 : Option Addr) (c1 : Nat) (l1 : List (S54)) (r : Bool) (w : World) (hr0_1 : Kd.C (Kd.int .i64) w A0_1 l0_1.length l0_1) (hc0_1 : l0_1.length ≤ c0_1) (hr1 : Kd.C k54 w A1 l1.length l1) (hc1 : l1.length ≤ c1) (h : impl_together.f a0_0 l0_1 l1 = some r) :
    Calls Try.prog 81 #[.agg #[.int .i64 a0_0, .slice A0_1 l0_1.length c0_1], .slice A1 l1.length c1] w fun e w' => e = .returned (.bool r) ∧ Below w.heap.size w w' := by
  have hu28 := Try.underlying28
  have HR0_1 := Aside0.mk hr0_1
  have HC0_1 := Aside0.mk hc0_1
  clear hr0_1 hc0_1
  have HR1 := Aside0.mk hr1
  have HC1 := Aside0.mk hc1
  clear hr1 hc1
  have HB := Aside0.mk (Below.refl w.heap.size w)
  have H : ((impl_IsSpace.f a0_0 l0_1).bind fun t212 => (if t212 = true then ((impl_AreTasks.f l1 a0_0).bind fun t213 => (some t213)) else (some false))) = some r := h
  clear h
  replace H := Option.bind_eq_some_iff.mp H
  obtain ⟨t212, A30, H⟩ := H
  replace H : (if t212 = true then ((impl_AreTasks.f l1 a0_0).bind fun t213 => (some t213)) else (some false)) = some r := H
  have A3 := Aside0.mk A30
  clear A30
  by_cases c4 : t212 = true
  · subst c4
    have H1 : ((impl_AreTasks.f l1 a0_0).bind fun t213 => (some t213)) = some r := by rw [if_pos rfl] at H; exact H
    clear H
    have H := H1
    clear H1
    replace H := Option.bind_eq_some_iff.mp H
    obtain ⟨t213, A50, H⟩ := H
    replace H : (some t213) = some r := H
    have A5 := Aside0.mk A50
    clear A50
    obtain rfl := Option.some.inj H
    go_enter Try.func81, Try.ntmps81
    go_wp2_with (first | ((with_reducible refine gate_dst (N := 2) rfl ?_); refine box_event ?hg (N := 2) ?hd (cs := #[.int .i64 a0_0, .slice A0_1 l0_1.length c0_1]) (t := 28) ?hr ?_; (case hd => rfl); (case hg => rfl); (case hr => first | (go_simp; done) | (go_simp; rfl)); intro gb211 hg w6 hbox hb; have n0_ := Aside0.mk (below_step (by repeat (first | (with_reducible first | exact HB.out | apply below_alloc | apply pw_below_drewN | apply below_drew1) | exact HB.out)) hb); have n1_ := Aside0.mk (hbox); have n2_ := Aside0.mk ((by rw [hg]; exact (below_size (by repeat (first | (with_reducible first | exact HB.out | apply below_alloc | apply pw_below_drewN | apply below_drew1) | exact HB.out))) : w.heap.size ≤ gb211)); have n3_ := Aside0.mk ((by rw [hg]; exact (below_size (by repeat (first | (with_reducible first | exact HB.out | apply below_alloc | apply pw_below_drewN | apply below_drew1) | exact HB.out))) : w.heap.size ≤ gb211)); clear HB; have HB := n0_; have BK211 := n1_; have GW211 := n2_; have GE211 := n3_; clear n0_ n1_ n2_ n3_; clear hb hbox hg; have hcz7_0 : w6.cell? ⟨gb211, 0, none⟩ = some (.int .i64 a0_0) := (blk_cell BK211.out 0).trans rfl; have hcz7_1 : w6.cell? ⟨gb211, 1, none⟩ = some (.slice A0_1 l0_1.length c0_1) := (blk_cell BK211.out 1).trans rfl; have hfz7_0 := blk_frozen BK211.out 0; have hfz7_1 := blk_frozen BK211.out 1) | ((with_reducible refine gate_callee (f := 89) rfl ?_); refine goesL_ (some 6) rfl rfl Try.func89 (by kernel_rfl) rfl #[.agg #[.int .i64 a0_0, .slice A0_1 l0_1.length c0_1]] rfl (by (try simp only [List.map_toArray, List.map_cons, List.map_nil]); first | done | rfl | (simp only [List.length_drop, List.length_take]; rfl)) ?_; (with_reducible refine (impl_IsSpace.calls a0_0 _ _ l0_1 true _ ?side1 ?side2 A3.out).mono ?_); (case side1 => repeat (first | exact (Kd.C_below HR0_1.out HB.out) | (with_reducible refine Kd.C_alloc ?_ _) | (with_reducible refine Kd.C_drewN ?_ _) | (with_reducible refine Kd.C_drew ?_))); (case side2 => exact HC0_1.out); rintro e w8 ⟨rfl, hb⟩; refine ⟨_, rfl, ?_⟩; have n0_ := Aside0.mk (blk_below (g := gb211) (o := .cells #[.int .i64 a0_0, .slice A0_1 l0_1.length c0_1] 28 (0, 0)) (by (with_reducible repeat (first | refine blk_drewN ?_ _ | refine blk_drew ?_ | refine blk_alloc ?_ _)); exact BK211.out) hb); have n1_ := Aside0.mk (below_step (by repeat (first | (with_reducible first | exact HB.out | apply below_alloc | apply pw_below_drewN | apply below_drew1 | refine below_set ?_ GE211.out) | exact HB.out)) hb); clear BK211; clear HB; have BK211 := n0_; have HB := n1_; clear n0_ n1_; (try clear hb); (try clear hb2); (try clear hk); (try clear hi); have hcz9_0 : w8.cell? ⟨gb211, 0, none⟩ = some (.int .i64 a0_0) := (blk_cell BK211.out 0).trans rfl; have hcz9_1 : w8.cell? ⟨gb211, 1, none⟩ = some (.slice A0_1 l0_1.length c0_1) := (blk_cell BK211.out 1).trans rfl; have hfz9_0 := blk_frozen BK211.out 0; have hfz9_1 := blk_frozen BK211.out 1) | (go_at_call 123; (with_reducible refine (impl_AreTasks.calls _ _ l1 a0_0 t213 _ ?side1 ?side2 A5.out).mono ?_); (case side1 => repeat (first | exact (Kd.C_below HR1.out HB.out) | (with_reducible refine Kd.C_alloc ?_ _) | (with_reducible refine Kd.C_drewN ?_ _) | (with_reducible refine Kd.C_drew ?_))); (case side2 => exact HC1.out); rintro e w10 ⟨rfl, hb⟩; have n0_ := Aside0.mk (blk_below (g := gb211) (o := .cells #[.int .i64 a0_0, .slice A0_1 l0_1.length c0_1] 28 (0, 0)) (by (with_reducible repeat (first | refine blk_drewN ?_ _ | refine blk_drew ?_ | refine blk_alloc ?_ _)); exact BK211.out) hb); have n1_ := Aside0.mk (below_step (by repeat (first | (with_reducible first | exact HB.out | apply below_alloc | apply pw_below_drewN | apply below_drew1 | refine below_set ?_ GE211.out) | exact HB.out)) hb); clear BK211; clear HB; have BK211 := n0_; have HB := n1_; clear n0_ n1_; (try clear hb); (try clear hb2); (try clear hk); (try clear hi)))
    go_ret
    exact ⟨by first | rfl | (simp [errW_none, errW_some] <;> rfl) | (simp [*, errW_none, errW_some] <;> rfl), by repeat (first | (with_reducible first | exact HB.out | apply below_alloc | apply pw_below_drewN | apply below_drew1 | refine below_set ?_ GE211.out) | exact HB.out)⟩
  · replace c4 := Bool.eq_false_iff.mpr c4
    subst c4
    have H1 : (some false) = some r := by rw [if_neg (show ¬ (false = true) by decide)] at H; exact H
    clear H
    have H := H1
    clear H1
    obtain rfl := Option.some.inj H
    go_enter Try.func81, Try.ntmps81
    go_wp2_with (first | ((with_reducible refine gate_dst (N := 2) rfl ?_); refine box_event ?hg (N := 2) ?hd (cs := #[.int .i64 a0_0, .slice A0_1 l0_1.length c0_1]) (t := 28) ?hr ?_; (case hd => rfl); (case hg => rfl); (case hr => first | (go_simp; done) | (go_simp; rfl)); intro gb211 hg w11 hbox hb; have n0_ := Aside0.mk (below_step (by repeat (first | (with_reducible first | exact HB.out | apply below_alloc | apply pw_below_drewN | apply below_drew1) | exact HB.out)) hb); have n1_ := Aside0.mk (hbox); have n2_ := Aside0.mk ((by rw [hg]; exact (below_size (by repeat (first | (with_reducible first | exact HB.out | apply below_alloc | apply pw_below_drewN | apply below_drew1) | exact HB.out))) : w.heap.size ≤ gb211)); have n3_ := Aside0.mk ((by rw [hg]; exact (below_size (by repeat (first | (with_reducible first | exact HB.out | apply below_alloc | apply pw_below_drewN | apply below_drew1) | exact HB.out))) : w.heap.size ≤ gb211)); clear HB; have HB := n0_; have BK211 := n1_; have GW211 := n2_; have GE211 := n3_; clear n0_ n1_ n2_ n3_; clear hb hbox hg; have hcz12_0 : w11.cell? ⟨gb211, 0, none⟩ = some (.int .i64 a0_0) := (blk_cell BK211.out 0).trans rfl; have hcz12_1 : w11.cell? ⟨gb211, 1, none⟩ = some (.slice A0_1 l0_1.length c0_1) := (blk_cell BK211.out 1).trans rfl; have hfz12_0 := blk_frozen BK211.out 0; have hfz12_1 := blk_frozen BK211.out 1) | ((with_reducible refine gate_callee (f := 89) rfl ?_); refine goesL_ (some 6) rfl rfl Try.func89 (by kernel_rfl) rfl #[.agg #[.int .i64 a0_0, .slice A0_1 l0_1.length c0_1]] rfl (by (try simp only [List.map_toArray, List.map_cons, List.map_nil]); first | done | rfl | (simp only [List.length_drop, List.length_take]; rfl)) ?_; (with_reducible refine (impl_IsSpace.calls a0_0 _ _ l0_1 false _ ?side1 ?side2 A3.out).mono ?_); (case side1 => repeat (first | exact (Kd.C_below HR0_1.out HB.out) | (with_reducible refine Kd.C_alloc ?_ _) | (with_reducible refine Kd.C_drewN ?_ _) | (with_reducible refine Kd.C_drew ?_))); (case side2 => exact HC0_1.out); rintro e w13 ⟨rfl, hb⟩; refine ⟨_, rfl, ?_⟩; have n0_ := Aside0.mk (blk_below (g := gb211) (o := .cells #[.int .i64 a0_0, .slice A0_1 l0_1.length c0_1] 28 (0, 0)) (by (with_reducible repeat (first | refine blk_drewN ?_ _ | refine blk_drew ?_ | refine blk_alloc ?_ _)); exact BK211.out) hb); have n1_ := Aside0.mk (below_step (by repeat (first | (with_reducible first | exact HB.out | apply below_alloc | apply pw_below_drewN | apply below_drew1 | refine below_set ?_ GE211.out) | exact HB.out)) hb); clear BK211; clear HB; have BK211 := n0_; have HB := n1_; clear n0_ n1_; (try clear hb); (try clear hb2); (try clear hk); (try clear hi)))
    go_ret
    exact ⟨by first | rfl | (simp [errW_none, errW_some] <;> rfl) | (simp [*, errW_none, errW_some] <;> rfl), by repeat (first | (with_reducible first | exact HB.out | apply below_alloc | apply pw_below_drewN | apply below_drew1 | refine below_set ?_ GE211.out) | exact HB.out)⟩

/-! ### impl_BestCost: function 62 -/
def impl_BestCost.f (k : Nat) (a0_0 : Int) (l0_1 : List Int) (l1 : List (S54)) : Option (Int × Bool) := (impl_together.f a0_0 l0_1 l1).bind fun t215 => (if t215 = true then ((impl_Space_best.f a0_0 l0_1 l1).bind fun t216 => ((impl_costOf.f k l1 t216).bind fun t219 => (some (t219, true)))) else (some (0, false)))
theorem impl_BestCost.mono : ∀ a0 a1 a2 k, LeO (impl_BestCost.f k a0 a1 a2) (impl_BestCost.f (k + 1) a0 a1 a2) := by
  intro a0 a1 a2 k
  unfold impl_BestCost.f
  repeat' first
      | (with_reducible exact impl_costOf.mono _ _ _)
      | (with_reducible exact LeO.refl _)
      | (with_reducible exact LeO.none _)
      | (with_reducible refine LeO.ite ?_ ?_)
      | (with_reducible refine LeO.bind ?_ (fun _ => ?_))
      | exact impl_costOf.mono _ _ _
      | exact LeO.none _
      | refine LeO.ite ?_ ?_
      | refine LeO.bind ?_ (fun _ => ?_)
set_option maxHeartbeats 8000000 in
set_option maxRecDepth 100000 in
theorem impl_BestCost.calls (k : Nat) (a0_0 : Int) (A0_1 : Option Addr) (c0_1 : Nat) (l0_1 : List Int) (A1 : Option Addr) (c1 : Nat) (l1 : List (S54)) (r1 : Int) (r2 : Bool) (w : World) (hr0_1 : Kd.C (Kd.int .i64) w A0_1 l0_1.length l0_1) (hc0_1 : l0_1.length ≤ c0_1) (hr1 : Kd.C k54 w A1 l1.length l1) (hc1 : l1.length ≤ c1) (h : impl_BestCost.f k a0_0 l0_1 l1 = some (r1, r2)) :
    Calls Try.prog 62 #[.agg #[.int .i64 a0_0, .slice A0_1 l0_1.length c0_1], .slice A1 l1.length c1] w fun e w' => e = .returned (.tuple #[.int .i64 r1, .bool r2]) ∧ Below w.heap.size w w' := by
  have hu28 := Try.underlying28
  have HR0_1 := Aside0.mk hr0_1
  have HC0_1 := Aside0.mk hc0_1
  clear hr0_1 hc0_1
  have HR1 := Aside0.mk hr1
  have HC1 := Aside0.mk hc1
  clear hr1 hc1
  have HB := Aside0.mk (Below.refl w.heap.size w)
  have H : ((impl_together.f a0_0 l0_1 l1).bind fun t215 => (if t215 = true then ((impl_Space_best.f a0_0 l0_1 l1).bind fun t216 => ((impl_costOf.f k l1 t216).bind fun t219 => (some (t219, true)))) else (some (0, false)))) = some (r1, r2) := h
  clear h
  replace H := Option.bind_eq_some_iff.mp H
  obtain ⟨t215, A30, H⟩ := H
  replace H : (if t215 = true then ((impl_Space_best.f a0_0 l0_1 l1).bind fun t216 => ((impl_costOf.f k l1 t216).bind fun t219 => (some (t219, true)))) else (some (0, false))) = some (r1, r2) := H
  have A3 := Aside0.mk A30
  clear A30
  by_cases c4 : t215 = true
  · subst c4
    have H1 : ((impl_Space_best.f a0_0 l0_1 l1).bind fun t216 => ((impl_costOf.f k l1 t216).bind fun t219 => (some (t219, true)))) = some (r1, r2) := by rw [if_pos rfl] at H; exact H
    clear H
    have H := H1
    clear H1
    replace H := Option.bind_eq_some_iff.mp H
    obtain ⟨t216, A50, H⟩ := H
    replace H : ((impl_costOf.f k l1 t216).bind fun t219 => (some (t219, true))) = some (r1, r2) := H
    have A5 := Aside0.mk A50
    clear A50
    replace H := Option.bind_eq_some_iff.mp H
    obtain ⟨t219, A60, H⟩ := H
    replace H : (some (t219, true)) = some (r1, r2) := H
    have A6 := Aside0.mk A60
    clear A60
    simp only [Option.some.injEq, Prod.mk.injEq] at H
    obtain ⟨rfl, rfl⟩ := H
    go_enter Try.func62, Try.ntmps62
    go_wp2_with (first | ((with_reducible refine gate_dst (N := 2) rfl ?_); refine box_event ?hg (N := 2) ?hd (cs := #[.int .i64 a0_0, .slice A0_1 l0_1.length c0_1]) (t := 28) ?hr ?_; (case hd => rfl); (case hg => rfl); (case hr => first | (go_simp; done) | (go_simp; rfl)); intro gb214 hg w7 hbox hb; have n0_ := Aside0.mk (below_step (by repeat (first | (with_reducible first | exact HB.out | apply below_alloc | apply pw_below_drewN | apply below_drew1) | exact HB.out)) hb); have n1_ := Aside0.mk (hbox); have n2_ := Aside0.mk ((by rw [hg]; exact (below_size (by repeat (first | (with_reducible first | exact HB.out | apply below_alloc | apply pw_below_drewN | apply below_drew1) | exact HB.out))) : w.heap.size ≤ gb214)); have n3_ := Aside0.mk ((by rw [hg]; exact (below_size (by repeat (first | (with_reducible first | exact HB.out | apply below_alloc | apply pw_below_drewN | apply below_drew1) | exact HB.out))) : w.heap.size ≤ gb214)); clear HB; have HB := n0_; have BK214 := n1_; have GW214 := n2_; have GE214 := n3_; clear n0_ n1_ n2_ n3_; clear hb hbox hg; have hcz8_0 : w7.cell? ⟨gb214, 0, none⟩ = some (.int .i64 a0_0) := (blk_cell BK214.out 0).trans rfl; have hcz8_1 : w7.cell? ⟨gb214, 1, none⟩ = some (.slice A0_1 l0_1.length c0_1) := (blk_cell BK214.out 1).trans rfl; have hfz8_0 := blk_frozen BK214.out 0; have hfz8_1 := blk_frozen BK214.out 1) | ((with_reducible refine gate_callee (f := 81) rfl ?_); refine goesL_ (some 8) rfl rfl Try.func81 (by kernel_rfl) rfl #[.agg #[.int .i64 a0_0, .slice A0_1 l0_1.length c0_1], .slice A1 l1.length c1] rfl (by (try simp only [List.map_toArray, List.map_cons, List.map_nil]); first | done | rfl | (simp only [List.length_drop, List.length_take]; rfl)) ?_; (with_reducible refine (impl_together.calls a0_0 _ _ l0_1 _ _ l1 true _ ?side1 ?side2 ?side3 ?side4 A3.out).mono ?_); (case side1 => repeat (first | exact (Kd.C_below HR0_1.out HB.out) | (with_reducible refine Kd.C_alloc ?_ _) | (with_reducible refine Kd.C_drewN ?_ _) | (with_reducible refine Kd.C_drew ?_))); (case side2 => exact HC0_1.out); (case side3 => repeat (first | exact (Kd.C_below HR1.out HB.out) | (with_reducible refine Kd.C_alloc ?_ _) | (with_reducible refine Kd.C_drewN ?_ _) | (with_reducible refine Kd.C_drew ?_))); (case side4 => exact HC1.out); rintro e w9 ⟨rfl, hb⟩; refine ⟨_, rfl, ?_⟩; have n0_ := Aside0.mk (blk_below (g := gb214) (o := .cells #[.int .i64 a0_0, .slice A0_1 l0_1.length c0_1] 28 (0, 0)) (by (with_reducible repeat (first | refine blk_drewN ?_ _ | refine blk_drew ?_ | refine blk_alloc ?_ _)); exact BK214.out) hb); have n1_ := Aside0.mk (below_step (by repeat (first | (with_reducible first | exact HB.out | apply below_alloc | apply pw_below_drewN | apply below_drew1 | refine below_set ?_ GE214.out) | exact HB.out)) hb); clear BK214; clear HB; have BK214 := n0_; have HB := n1_; clear n0_ n1_; (try clear hb); (try clear hb2); (try clear hk); (try clear hi); have hcz10_0 : w9.cell? ⟨gb214, 0, none⟩ = some (.int .i64 a0_0) := (blk_cell BK214.out 0).trans rfl; have hcz10_1 : w9.cell? ⟨gb214, 1, none⟩ = some (.slice A0_1 l0_1.length c0_1) := (blk_cell BK214.out 1).trans rfl; have hfz10_0 := blk_frozen BK214.out 0; have hfz10_1 := blk_frozen BK214.out 1) | ((with_reducible refine gate_callee (f := 76) rfl ?_); refine goesL_ (some 13) rfl rfl Try.func76 (by kernel_rfl) rfl #[.agg #[.int .i64 a0_0, .slice A0_1 l0_1.length c0_1], .slice A1 l1.length c1] rfl (by (try simp only [List.map_toArray, List.map_cons, List.map_nil]); first | done | rfl | (simp only [List.length_drop, List.length_take]; rfl)) ?_; (with_reducible refine (impl_Space_best.calls a0_0 _ _ l0_1 _ _ l1 t216 _ ?side1 ?side2 ?side3 ?side4 A5.out).mono ?_); (case side1 => repeat (first | exact (Kd.C_below HR0_1.out HB.out) | (with_reducible refine Kd.C_alloc ?_ _) | (with_reducible refine Kd.C_drewN ?_ _) | (with_reducible refine Kd.C_drew ?_))); (case side2 => exact HC0_1.out); (case side3 => repeat (first | exact (Kd.C_below HR1.out HB.out) | (with_reducible refine Kd.C_alloc ?_ _) | (with_reducible refine Kd.C_drewN ?_ _) | (with_reducible refine Kd.C_drew ?_))); (case side4 => exact HC1.out); rintro e w11 ⟨v217, rfl, ho0, hb⟩; refine ⟨_, rfl, ?_⟩; have n0_ := Aside0.mk (Kd.R_lower ho0 (below_size (by repeat (first | (with_reducible first | exact HB.out | apply below_alloc | apply pw_below_drewN | apply below_drew1 | refine below_set ?_ GE214.out) | exact HB.out)))); have n1_ := Aside0.mk (blk_below (g := gb214) (o := .cells #[.int .i64 a0_0, .slice A0_1 l0_1.length c0_1] 28 (0, 0)) (by (with_reducible repeat (first | refine blk_drewN ?_ _ | refine blk_drew ?_ | refine blk_alloc ?_ _)); exact BK214.out) hb); have n2_ := Aside0.mk (below_step (by repeat (first | (with_reducible first | exact HB.out | apply below_alloc | apply pw_below_drewN | apply below_drew1 | refine below_set ?_ GE214.out) | exact HB.out)) hb); clear BK214; clear HB; have HO218 := n0_; have BK214 := n1_; have HB := n2_; clear n0_ n1_ n2_; (try clear hb); (try clear hb2); (try clear hk); (try clear hi); (try clear ho0); obtain ⟨Ao12, co12, eo12⟩ := Kd.R_slice HO218.out; subst eo12) | ((with_reducible refine gate_callee (f := 65) rfl ?_); refine goesL_ (some 14) rfl rfl Try.func65 (by kernel_rfl) rfl #[.slice A1 l1.length c1, .slice Ao12 t216.length co12] rfl (by (try simp only [List.map_toArray, List.map_cons, List.map_nil]); first | done | rfl | (simp only [List.length_drop, List.length_take]; rfl)) ?_; (with_reducible refine (impl_costOf.calls k _ _ l1 _ _ t216 t219 _ ?side1 ?side2 ?side3 ?side4 A6.out).mono ?_); (case side1 => repeat (first | exact (Kd.C_below HR1.out HB.out) | (with_reducible refine Kd.C_alloc ?_ _) | (with_reducible refine Kd.C_drewN ?_ _) | (with_reducible refine Kd.C_drew ?_))); (case side2 => exact HC1.out); (case side3 => repeat (first | exact (Kd.R_reads' HO218.out).2.2 | (with_reducible refine Kd.C_alloc ?_ _) | (with_reducible refine Kd.C_drewN ?_ _) | (with_reducible refine Kd.C_drew ?_))); (case side4 => exact (Kd.R_reads' HO218.out).2.1); rintro e w13 ⟨rfl, hb⟩; refine ⟨_, rfl, ?_⟩; have n0_ := Aside0.mk (Kd.R_below (by (with_reducible repeat (first | apply Kd.R_alloc | apply Kd.R_drewN | apply Kd.R_drew)); exact HO218.out) hb); have n1_ := Aside0.mk (blk_below (g := gb214) (o := .cells #[.int .i64 a0_0, .slice A0_1 l0_1.length c0_1] 28 (0, 0)) (by (with_reducible repeat (first | refine blk_drewN ?_ _ | refine blk_drew ?_ | refine blk_alloc ?_ _)); exact BK214.out) hb); have n2_ := Aside0.mk (below_step (by repeat (first | (with_reducible first | exact HB.out | apply below_alloc | apply pw_below_drewN | apply below_drew1 | refine below_set ?_ GE214.out) | exact HB.out)) hb); clear HO218; clear BK214; clear HB; have HO218 := n0_; have BK214 := n1_; have HB := n2_; clear n0_ n1_ n2_; (try clear hb); (try clear hb2); (try clear hk); (try clear hi)))
    go_ret2
    exact ⟨by first | rfl | (simp [errW_none, errW_some] <;> rfl) | (simp [*, errW_none, errW_some] <;> rfl), by repeat (first | (with_reducible first | exact HB.out | apply below_alloc | apply pw_below_drewN | apply below_drew1 | refine below_set ?_ GE214.out) | exact HB.out)⟩
  · replace c4 := Bool.eq_false_iff.mpr c4
    subst c4
    have H1 : (some (0, false)) = some (r1, r2) := by rw [if_neg (show ¬ (false = true) by decide)] at H; exact H
    clear H
    have H := H1
    clear H1
    simp only [Option.some.injEq, Prod.mk.injEq] at H
    obtain ⟨rfl, rfl⟩ := H
    go_enter Try.func62, Try.ntmps62
    go_wp2_with (first | ((with_reducible refine gate_dst (N := 2) rfl ?_); refine box_event ?hg (N := 2) ?hd (cs := #[.int .i64 a0_0, .slice A0_1 l0_1.length c0_1]) (t := 28) ?hr ?_; (case hd => rfl); (case hg => rfl); (case hr => first | (go_simp; done) | (go_simp; rfl)); intro gb214 hg w14 hbox hb; have n0_ := Aside0.mk (below_step (by repeat (first | (with_reducible first | exact HB.out | apply below_alloc | apply pw_below_drewN | apply below_drew1) | exact HB.out)) hb); have n1_ := Aside0.mk (hbox); have n2_ := Aside0.mk ((by rw [hg]; exact (below_size (by repeat (first | (with_reducible first | exact HB.out | apply below_alloc | apply pw_below_drewN | apply below_drew1) | exact HB.out))) : w.heap.size ≤ gb214)); have n3_ := Aside0.mk ((by rw [hg]; exact (below_size (by repeat (first | (with_reducible first | exact HB.out | apply below_alloc | apply pw_below_drewN | apply below_drew1) | exact HB.out))) : w.heap.size ≤ gb214)); clear HB; have HB := n0_; have BK214 := n1_; have GW214 := n2_; have GE214 := n3_; clear n0_ n1_ n2_ n3_; clear hb hbox hg; have hcz15_0 : w14.cell? ⟨gb214, 0, none⟩ = some (.int .i64 a0_0) := (blk_cell BK214.out 0).trans rfl; have hcz15_1 : w14.cell? ⟨gb214, 1, none⟩ = some (.slice A0_1 l0_1.length c0_1) := (blk_cell BK214.out 1).trans rfl; have hfz15_0 := blk_frozen BK214.out 0; have hfz15_1 := blk_frozen BK214.out 1) | ((with_reducible refine gate_callee (f := 81) rfl ?_); refine goesL_ (some 8) rfl rfl Try.func81 (by kernel_rfl) rfl #[.agg #[.int .i64 a0_0, .slice A0_1 l0_1.length c0_1], .slice A1 l1.length c1] rfl (by (try simp only [List.map_toArray, List.map_cons, List.map_nil]); first | done | rfl | (simp only [List.length_drop, List.length_take]; rfl)) ?_; (with_reducible refine (impl_together.calls a0_0 _ _ l0_1 _ _ l1 false _ ?side1 ?side2 ?side3 ?side4 A3.out).mono ?_); (case side1 => repeat (first | exact (Kd.C_below HR0_1.out HB.out) | (with_reducible refine Kd.C_alloc ?_ _) | (with_reducible refine Kd.C_drewN ?_ _) | (with_reducible refine Kd.C_drew ?_))); (case side2 => exact HC0_1.out); (case side3 => repeat (first | exact (Kd.C_below HR1.out HB.out) | (with_reducible refine Kd.C_alloc ?_ _) | (with_reducible refine Kd.C_drewN ?_ _) | (with_reducible refine Kd.C_drew ?_))); (case side4 => exact HC1.out); rintro e w16 ⟨rfl, hb⟩; refine ⟨_, rfl, ?_⟩; have n0_ := Aside0.mk (blk_below (g := gb214) (o := .cells #[.int .i64 a0_0, .slice A0_1 l0_1.length c0_1] 28 (0, 0)) (by (with_reducible repeat (first | refine blk_drewN ?_ _ | refine blk_drew ?_ | refine blk_alloc ?_ _)); exact BK214.out) hb); have n1_ := Aside0.mk (below_step (by repeat (first | (with_reducible first | exact HB.out | apply below_alloc | apply pw_below_drewN | apply below_drew1 | refine below_set ?_ GE214.out) | exact HB.out)) hb); clear BK214; clear HB; have BK214 := n0_; have HB := n1_; clear n0_ n1_; (try clear hb); (try clear hb2); (try clear hk); (try clear hi)))
    go_ret2
    exact ⟨by first | rfl | (simp [errW_none, errW_some] <;> rfl) | (simp [*, errW_none, errW_some] <;> rfl), by repeat (first | (with_reducible first | exact HB.out | apply below_alloc | apply pw_below_drewN | apply below_drew1 | refine below_set ?_ GE214.out) | exact HB.out)⟩

end Go.Proofs.Ytjhjphgdjhahlaa.P
/- The cost of a word: as impl reckons it. -/
namespace Go.Proofs.Ytjhjphgdjhahlaa.P
open Go.RowKit Go.Proofs.YtjhjphgdjhahlaaW.PrintWords Go.Proofs.YtjhjphgdjhahlaaW.PrintLast Go.Proofs.YtjhjphgdjhahlaaW.PrintMore
set_option linter.unusedVariables false

/-- the costs of the items of a word, one by one -/
def costsL (ts : List S54) : Nat → List Nat → List Int
  | _, [] => []
  | s, i :: w => costB ts s i :: costsL ts (wth s i) w
def mxF (m : Int) (l : List Int) : Int := l.foldl (fun o c => if c > o then c else o) m
def costW (ts : List S54) (w : List Nat) : Int := mxF (-10000) (costsL ts 0 w)
theorem mxF_first (c : Int) (l : List Int) (h : -10000 < c) : mxF (-10000) (c :: l) = mxF c l := by
  unfold mxF; rw [List.foldl_cons, if_pos h]
theorem costOf_from (ts : List S54) (ht : ∀ x ∈ ts, taskB x) (hl : ts.length ≤ 7) (w : List Nat) (hw : ∀ i ∈ w, i < ts.length) (hwl : w.length < 1152921504606) : ∀ (j i s : Nat) (out : Int), i + j = w.length → 1 ≤ i → s < 128 →
    Ev (fun k => impl_costOf.l0 k ts out (s : Int) (ints w) (w.length : Int) (i : Int)) (mxF out (costsL ts s (w.drop i))) := by
  intro j
  induction j with
  | zero =>
    intro i s out hij hi hs
    refine Ev.step (fun k => impl_costOf.l0.eq_2 _ _ _ _ _ _ k) (Ev.neg (by omega) (Ev.one ?_))
    rw [List.drop_eq_nil_of_le (by omega)]; rfl
  | succ j ih =>
    intro i s out hij hi hs
    have hil : i < w.length := by omega
    have ew : wrap64 ((i : Int) + 1) = ((i + 1 : Nat) : Int) := by unfold wrap64; omega
    have hx := hw _ (List.getElem_mem hil)
    have er : rd (ints w) (i : Int) = ((w[i] : Nat) : Int) := by rw [rd_ints]; simp [hil]
    have h7 : w[i] < 7 := by omega
    rw [List.drop_eq_getElem_cons hil]
    simp only [costsL, mxF, List.foldl_cons]
    refine Ev.step (fun k => impl_costOf.l0.eq_2 _ _ _ _ _ _ k) (Ev.pos (by omega) (Ev.pos (by omega) (Ev.pos (by rw [ints_len]; omega) ?_)))
    rw [er, ew, shl_one _ (by omega), go_wth _ _ hs h7]
    refine Ev.bind (cost_pure ts s w[i] ht hl hx hs) (Ev.neg (by omega) ?_)
    by_cases hc : costB ts s w[i] > out
    · refine Ev.pos hc (Ev.pos (by omega) ?_)
      rw [if_pos hc]
      exact ih (i + 1) (wth s w[i]) _ (by omega) (by omega) (wth_lt _ _ hs h7)
    · refine Ev.neg hc (Ev.pos (by omega) ?_)
      rw [if_neg hc]
      exact ih (i + 1) (wth s w[i]) _ (by omega) (by omega) (wth_lt _ _ hs h7)
theorem costOf_pure (ts : List S54) (ht : ∀ x ∈ ts, taskB x) (hl : ts.length ≤ 7) (w : List Nat) (hw : ∀ i ∈ w, i < ts.length) (hwl : w.length < 1152921504606) (hne : w ≠ []) : Ev (fun k => impl_costOf.f k ts (ints w)) (costW ts w) := by
  refine Ev.congr (fun k => impl_costOf.f.eq_1 k _ _) ?_
  rw [ints_len]
  cases w with
  | nil => exact absurd rfl hne
  | cons a w =>
    have ha := hw a (by simp)
    have hb := costB_bd ts 0 a ht hl ha
    unfold costW
    simp only [costsL]
    rw [mxF_first _ _ (by omega)]
    have ew : wrap64 ((0 : Int) + 1) = ((1 : Nat) : Int) := by unfold wrap64; omega
    have er : rd (ints (a :: w)) (0 : Int) = (a : Int) := by have := rd_ints (a :: w) 0; simpa using this
    refine Ev.step (fun k => impl_costOf.l0.eq_2 _ _ _ _ _ _ k) (Ev.pos (by simp) (Ev.pos (by omega) (Ev.pos (by rw [ints_len]; simp) ?_)))
    have h0 := go_wth 0 a (by omega) (by omega)
    rw [show ((0 : Nat) : Int) = 0 from rfl] at h0
    rw [er, ew, shl_one _ (by omega), h0]
    have hc0 := cost_pure ts 0 a ht hl ha (by omega)
    rw [show ((0 : Nat) : Int) = 0 from rfl] at hc0
    refine Ev.bind hc0 (Ev.pos rfl (Ev.pos (by omega) ?_))
    have := costOf_from ts ht hl (a :: w) hw hwl w.length 1 (wth 0 a) (costB ts 0 a) (by simp; omega) (by omega) (wth_lt _ _ (by omega) (by omega))
    simpa using this
theorem Sp.way_lt {n : Nat} {l : List Int} (h : Sp n l) : ∀ (y : List Nat) (s : Nat), isWay (famOf l) (2 ^ n - 1) s y → ∀ z ∈ y, z < n := by
  intro y
  induction y with
  | nil => intro s _ z hz; cases hz
  | cons i y ih =>
    rintro s ⟨_, h2, h3, h4, h5⟩ z hz
    rcases List.mem_cons.1 hz with rfl | hz
    · have h6 := h.famlt h4
      have h7 : 2 ^ z ≤ wth s z := Nat.right_le_or
      exact (Nat.pow_lt_pow_iff_right (by omega)).1 (Nat.lt_of_le_of_lt h7 h6)
    · exact ih (wth s i) h5 z hz
theorem Sp.words_ok {n : Nat} {l : List Int} (h : Sp n l) (y : List Nat) (hy : y ∈ wordsFrom (famOf l) (2 ^ n - 1) 8 0) : y.length = n ∧ ∀ z ∈ y, z < n := by
  have h1 := (mem_words _ _ _).1 hy
  exact ⟨(Go.Proofs.Ytjhjphgdjhahlaa.P.words_ok _ n h.n7 y hy).1, h.way_lt y 0 h1.2⟩
end Go.Proofs.Ytjhjphgdjhahlaa.P
/- Plain facts: the greedy word is a word, and no word costs less. -/
-- by Sp.pick_ok, Sp.outer_mem, Sp.cnt_lt, Sp.n7, Sp.or, Sp.flt, Sp.zero
namespace Go.Proofs.Ytjhjphgdjhahlaa.P
open Go.RowKit Go.Proofs.YtjhjphgdjhahlaaW.PrintWords Go.Proofs.YtjhjphgdjhahlaaW.PrintLast Go.Proofs.YtjhjphgdjhahlaaW.PrintMore
set_option linter.unusedVariables false
variable {n : Nat} {l : List Int}

theorem Sp.greedy_way (h : Sp n l) (v : Nat → Nat → Int) : ∀ (d s : Nat), famOf l s = true → d + cnt s = 8 → isWay (famOf l) (2 ^ n - 1) s (greedyW (famOf l) (2 ^ n - 1) v d s) := by
  intro d
  induction d with
  | zero => intro s _ hd; have := cnt_le s; omega
  | succ d ih =>
    intro s hs hd
    simp only [greedyW]
    by_cases e : s = 2 ^ n - 1
    · rw [if_pos e]; exact e
    · rw [if_neg e]
      obtain ⟨hm, -, -⟩ := h.pick_ok v hs e
      obtain ⟨h1, h2, h3⟩ := h.outer_mem hs hm
      have h7 : pick (famOf l) v s < 7 := Nat.lt_of_lt_of_le h1 h.n7
      exact ⟨e, h7, h2, h3, ih _ h3 (by rw [cnt_wth s _ (h.flt hs) h7 h2]; omega)⟩
theorem Sp.greedy_word (h : Sp n l) (v : Nat → Nat → Int) : greedyW (famOf l) (2 ^ n - 1) v 8 0 ∈ wordsFrom (famOf l) (2 ^ n - 1) 8 0 := by
  have hw := h.greedy_way v 8 0 h.zero (by decide)
  have hc := (isWay_cnt _ 0 (by omega) hw).1
  have := cnt_le (2 ^ n - 1)
  exact (mem_words _ _ _).2 ⟨by omega, hw⟩
theorem mxF_le (l : List Int) : ∀ m c : Int, mxF m l ≤ c ↔ m ≤ c ∧ ∀ x ∈ l, x ≤ c := by
  induction l with
  | nil => intro m c; simp [mxF]
  | cons a l ih =>
    intro m c
    have e : mxF m (a :: l) = mxF (if a > m then a else m) l := rfl
    rw [e, ih]
    simp only [List.mem_cons, forall_eq_or_imp]
    split <;> constructor <;> rintro ⟨h1, h2⟩
    · exact ⟨by omega, h1, h2⟩
    · exact ⟨h2.1, h2.2⟩
    · exact ⟨h1, by omega, h2⟩
    · exact ⟨h1, h2.2⟩
theorem timeN_mono (ts : List S54) (ht : ∀ x ∈ ts, taskB x) (s a : Nat) (h : ∀ j, s.testBit j = true → a.testBit j = true) : ∀ k, k ≤ ts.length → timeN ts a k ≤ timeN ts s k := by
  intro k
  induction k with
  | zero => intro _; exact Int.le_refl _
  | succ k ih =>
    intro hk
    have h1 := ih (by omega)
    have h2 : ts.getD k z54 = ts[k] := by simp [show k < ts.length by omega]
    have h3 := ht _ (List.getElem_mem (show k < ts.length by omega))
    unfold taskB at h3
    have h4 := h k
    simp only [timeN]
    rw [h2]
    cases hs : s.testBit k <;> cases ha : a.testBit k <;> simp_all <;> omega
theorem costB_mono (ts : List S54) (ht : ∀ x ∈ ts, taskB x) (s a i : Nat) (hi : i < ts.length) (h : ∀ j, s.testBit j = true → a.testBit j = true) : costB ts a i ≤ costB ts s i := by
  have h1 := timeN_mono ts ht s a h ts.length (Nat.le_refl _)
  have h2 : ts.getD i z54 = ts[i] := by simp [hi]
  have h3 := ht _ (List.getElem_mem hi)
  unfold taskB at h3
  unfold costB
  rw [h2]
  have := Int.mul_le_mul_of_nonneg_left h1 (show 0 ≤ ts[i].f1 by omega)
  omega
/-- behind each of the sets a word has an item of its outer fringe that costs no less there -/
theorem Sp.hit (h : Sp n l) (ts : List S54) (ht : ∀ x ∈ ts, taskB x) (hl : ts.length = n) (a : Nat) (ha : famOf l a = true) (hne : a ≠ 2 ^ n - 1) : ∀ (y : List Nat) (s : Nat), isWay (famOf l) (2 ^ n - 1) s y → s ||| a = a → famOf l s = true →
    ∃ c ∈ costsL ts s y, ∃ i ∈ itemsOf (outer (famOf l) a), costB ts a i ≤ c := by
  intro y
  induction y with
  | nil =>
    intro s hw hsub _
    exfalso
    have e : s = 2 ^ n - 1 := hw
    rw [e, or_full n a h.n7 (h.famlt ha)] at hsub
    exact hne hsub.symm
  | cons i y ih =>
    rintro s ⟨h1, h2, h3, h4, h5⟩ hsub hs
    by_cases hb : a.testBit i = true
    · have hsub2 : wth s i ||| a = a := by
        unfold wth
        rw [Nat.or_assoc, or_bit a i (h.flt ha) h2 hb, hsub]
      obtain ⟨c, hc, hx⟩ := ih (wth s i) h5 hsub2 h4
      exact ⟨c, List.mem_cons_of_mem _ hc, hx⟩
    · have hb' : a.testBit i = false := by simpa using hb
      have e : wth s i ||| a = wth a i := by
        unfold wth
        rw [Nat.or_comm s, Nat.or_assoc, hsub, Nat.or_comm]
      have hf : famOf l (wth a i) = true := by rw [← e]; exact h.or _ _ h4 ha
      have hm : i ∈ itemsOf (outer (famOf l) a) := mem_outer.2 ⟨h2, hb', hf⟩
      refine ⟨costB ts s i, by simp [costsL], i, hm, ?_⟩
      refine costB_mono ts ht s a i (by rw [hl]; exact (h.outer_mem ha hm).1) (fun j hj => ?_)
      rw [← hsub, Nat.testBit_or, hj]; rfl
theorem Sp.greedy_le (h : Sp n l) (ts : List S54) (m : Int) (hm : ∀ a, famOf l a = true → a ≠ 2 ^ n - 1 → ∃ i ∈ itemsOf (outer (famOf l) a), costB ts a i ≤ m) : ∀ (d s : Nat), famOf l s = true → ∀ c ∈ costsL ts s (greedyW (famOf l) (2 ^ n - 1) (costB ts) d s), c ≤ m := by
  intro d
  induction d with
  | zero => intro s _ c hc; simp [greedyW, costsL] at hc
  | succ d ih =>
    intro s hs c hc
    simp only [greedyW] at hc
    by_cases e : s = 2 ^ n - 1
    · rw [if_pos e] at hc; simp [costsL] at hc
    · rw [if_neg e] at hc
      obtain ⟨hpm, -, hpl⟩ := h.pick_ok (costB ts) hs e
      simp only [costsL, List.mem_cons] at hc
      rcases hc with rfl | hc
      · obtain ⟨i, hi, hle⟩ := hm s hs e
        have := hpl i hi
        omega
      · exact ih _ (h.outer_mem hs hpm).2.2 c hc
/-- no full word costs less than the greedy one -/
theorem Sp.greedy_best (h : Sp n l) (ts : List S54) (ht : ∀ x ∈ ts, taskB x) (hl : ts.length = n) (y : List Nat) (hy : isWay (famOf l) (2 ^ n - 1) 0 y) : costW ts (greedyW (famOf l) (2 ^ n - 1) (costB ts) 8 0) ≤ costW ts y := by
  have hself := (mxF_le (costsL ts 0 y) (-10000) (costW ts y)).1 (Int.le_refl _)
  refine (mxF_le _ _ _).2 ⟨hself.1, h.greedy_le ts _ (fun a ha hne => ?_) 8 0 h.zero⟩
  obtain ⟨c, hc, i, hi, hle⟩ := h.hit ts ht hl a ha hne y 0 hy (Nat.zero_or a) h.zero
  exact ⟨i, hi, Int.le_trans hle (hself.2 c hc)⟩
end Go.Proofs.Ytjhjphgdjhahlaa.P
/- What a call leaves: all blocks but those of a set are as they were. -/
-- plain
namespace Go.Proofs.Ytjhjphgdjhahlaa.P
open Go.RowKit Go.Proofs.YtjhjphgdjhahlaaW.PrintWords Go.Proofs.YtjhjphgdjhahlaaW.PrintLast Go.Proofs.YtjhjphgdjhahlaaW.PrintMore

/-- W is w but for new blocks, draws, and what may have been written into blocks of S. -/
structure KB (w W : World) (S : Nat → Prop) : Prop where
  os : W.os = w.os
  tape : W.tape = w.tape
  output : W.output = w.output
  size : w.heap.size ≤ W.heap.size
  block : ∀ i, i < w.heap.size → ¬ S i → W.heap[i]? = w.heap[i]?
variable {w W W2 : World} {S S' S2 : Nat → Prop}
theorem KB.refl (w : World) (S : Nat → Prop) : KB w w S := ⟨rfl, rfl, rfl, Nat.le_refl _, fun _ _ _ => rfl⟩
theorem KB.of_below (h : Below w.heap.size w W) (S : Nat → Prop) : KB w W S := ⟨h.os, h.tape, h.output, h.size, fun i hi _ => h.block i hi⟩
theorem KB.mono (h : KB w W S) (hs : ∀ k, k < w.heap.size → S k → S' k) : KB w W S' := ⟨h.os, h.tape, h.output, h.size, fun i hi hn => h.block i hi fun hk => hn (hs i hi hk)⟩
theorem KB.then_ (h : KB w W S) (k : KB W W2 S2) (hs : ∀ k, k < w.heap.size → S2 k → S k) : KB w W2 S :=
  ⟨k.os.trans h.os, k.tape.trans h.tape, k.output.trans h.output, Nat.le_trans h.size k.size, fun i hi hn =>
    (k.block i (Nat.lt_of_lt_of_le hi h.size) fun h2 => hn (hs i hi h2)).trans (h.block i hi hn)⟩
theorem KB.to_below (h : KB w W S) (hs : ∀ k, k < w.heap.size → ¬ S k) : Below w.heap.size w W := ⟨h.os, h.tape, h.output, h.size, fun i hi => h.block i hi (hs i hi)⟩
theorem KB.below (h : KB w W S) (hb : Below W.heap.size W W2) : KB w W2 S := h.then_ (KB.of_below hb (fun _ => False)) (fun _ _ hk => hk.elim)
theorem KB.alloc (h : KB w W S) (o : Obj) : KB w (W.alloc o) S := h.below (below_alloc (Below.refl _ _) o)
theorem KB.drewN (h : KB w W S) (m : Nat) : KB w (W.drewN m) S := ⟨h.os, h.tape, h.output, h.size, h.block⟩
theorem KB.drew (h : KB w W S) : KB w W.drew S := ⟨h.os, h.tape, h.output, h.size, h.block⟩
theorem KB.setCell (h : KB w W S) {p : Addr} (hp : S p.block ∨ w.heap.size ≤ p.block) (u : Value) : KB w (W.setCell p u) S :=
  h.then_ (S2 := fun k => k = p.block) ⟨rfl, rfl, rfl, by simp [World.setCell], fun i _ hn => Below.heap_setCell W p u i hn⟩ (fun k hk he => by subst he; rcases hp with h | h; exact h; omega)
theorem KB.grown (h : KB w W S) {row : Option Nat} (hg : W.grownBy W2 row) (hr : ∀ k, row = some k → S k ∨ w.heap.size ≤ k) : KB w W2 S :=
  h.then_ (S2 := fun k => row = some k) ⟨hg.os, hg.tape, hg.output, hg.size, fun i hi hn => hg.block i hi (fun he => hn he.symm)⟩ (fun k hk he => by rcases hr k he with h | h; exact h; omega)
theorem blk_kb {g : Nat} {o : Obj} (hb : W.heap[g]? = some o) (hk : KB W W2 S) (hne : ¬ S g) : W2.heap[g]? = some o := (hk.block g (blk_lt hb) hne).trans hb
theorem cell_kb {a : Addr} {v : Value} (hc : W.cell? a = some v) (hk : KB W W2 S) (hne : ¬ S a.block) : W2.cell? a = some v := by
  have := hk.block a.block (World.block_lt_of_cell? W a hc) hne
  simpa [World.cell?, this] using hc
/-- A list of integers that is read, over what leaves its block alone. -/
theorem C_kb {A : Option Addr} {n : Nat} {l : List Int} (h : Kd.C (Kd.int .i64) W A n l) (hk : KB W W2 S) (hne : ∀ ad, A = some ad → ¬ S ad.block) : Kd.C (Kd.int .i64) W2 A n l := by
  refine ⟨h.1, h.2.1, fun hn => ?_⟩
  obtain ⟨ad, e, hc⟩ := h.2.2 hn
  refine ⟨ad, e, fun j p hp => ?_⟩
  obtain ⟨c, hl, hK, hcc⟩ := hc j p hp
  refine ⟨c, hl, hK, fun i u hu => cell_kb (hcc i u hu) hk ?_⟩
  have : (ad.add (j * (Kd.int .i64).sz + i)).block = ad.block := by unfold Addr.add; split <;> rfl
  rw [this]; exact hne ad e
/-- The same for any kind whose elements lie in the row itself. -/
theorem Kd.C_kbT {α : Type} {d : Kd α} {A : Option Addr} {n : Nat} {l : List α} (h : d.C W A n l) (hk : KB W W2 S) (hne : ∀ ad, A = some ad → ¬ S ad.block) (hK : ∀ w w' x cs, d.K w x cs → d.K w' x cs := by intro w w' x cs h; exact h) : d.C W2 A n l := by
  refine ⟨h.1, h.2.1, fun hn => ?_⟩
  obtain ⟨ad, e, hc⟩ := h.2.2 hn
  refine ⟨ad, e, fun j p hp => ?_⟩
  obtain ⟨c, hl, hK0, hcc⟩ := hc j p hp
  refine ⟨c, hl, hK _ _ _ _ hK0, fun i u hu => cell_kb (hcc i u hu) hk ?_⟩
  have : (ad.add (j * d.sz + i)).block = ad.block := by unfold Addr.add; split <;> rfl
  rw [this]; exact hne ad e
/-- An own row, over what leaves its block alone. -/
theorem R_kb {base : Nat} {ok : Nat → Prop} {v : Value} {l : List Int} {e : Nat} (h : Kd.R (Kd.int .i64) e W base ok v l) (hk : KB W W2 S) (hne : ∀ k, ok k → ¬ S k) : Kd.R (Kd.int .i64) e W2 base ok v l := by
  refine Kd.R_mono (Kd.R_move (Kd.R_bound h) ?_) (fun k hk => hk.1)
  intro k hk2
  exact hk.block k hk2.2.2.1 (hne k hk2.1)
end Go.Proofs.Ytjhjphgdjhahlaa.P
/- impl's 'words': a function value is called for each full word, in order, until it says no. -/
namespace Go.Proofs.Ytjhjphgdjhahlaa.P
open Go.RowKit Go.Proofs.YtjhjphgdjhahlaaW.PrintWords Go.Proofs.YtjhjphgdjhahlaaW.PrintLast Go.Proofs.YtjhjphgdjhahlaaW.PrintMore
set_option linter.unusedVariables false
set_option maxHeartbeats 1600000
set_option maxRecDepth 100000

/-- where the variables of a call of 'words' lie -/
structure Loc where
  bs : Nat
  bd : Nat
  bw : Nat
  bg : Nat
  bf : Nat
  bn : Nat
  fm : Nat
/-- all that a call of 'words' holds: word is what has been learnt, b whether it goes on; φ: what the function value holds -/
structure WSt (W w0 : World) (M φ : Nat → Prop) (L : Loc) (sp : Array Value) (fv : Value) (F : Nat → Bool) (A : Option Addr) (k c : Nat) (word : List Nat) (b : Bool) : Prop where
  s : W.heap[L.bs]? = some (.cells sp 28 (0, 0))
  d : W.heap[L.bd]? = some (.cells #[fv] 81 (0, 0))
  w : W.heap[L.bw]? = some (.cells #[.slice A k c] 22 (0, 0))
  g : W.heap[L.bg]? = some (.cells #[.bool b] 4 (0, 0))
  f : W.heap[L.bf]? = some (.cells #[.pointer (some ⟨L.fm, 0, none⟩)] 107 (0, 0))
  n : W.heap[L.bn]? = some (.cells #[.func (.func 108) #[] #[.pointer (some ⟨L.bs, 0, none⟩), .pointer (some ⟨L.bd, 0, none⟩), .pointer (some ⟨L.bw, 0, none⟩), .pointer (some ⟨L.bg, 0, none⟩), .pointer (some ⟨L.bf, 0, none⟩), .pointer (some ⟨L.bn, 0, none⟩)]] 109 (0, 0))
  fam : FamAt W L.fm F
  row : Kd.R (Kd.int .i64) 3 W w0.heap.size (fun j => ¬ φ j) (.slice A k c) (ints word)
  kb : KB w0 W M
  off : ∀ j, j = L.bs ∨ j = L.bd ∨ j = L.bw ∨ j = L.bg ∨ j = L.bf ∨ j = L.bn ∨ j = L.fm → ¬ φ j ∧ w0.heap.size ≤ j
section
variable {W W' w0 : World} {M φ φ' : Nat → Prop} {L : Loc} {sp : Array Value} {fv : Value} {F : Nat → Bool} {A : Option Addr} {k c : Nat} {word : List Nat} {b : Bool}
theorem blk_ne {W : World} {a b : Nat} {cs cs' : Array Value} {t t' : Nat} (h : W.heap[a]? = some (.cells cs t (0, 0))) (h' : W.heap[b]? = some (.cells cs' t' (0, 0))) (ht : t ≠ t') : a ≠ b := by
  rintro rfl
  rw [h] at h'
  injection h' with h'
  injection h' with _ h2
  exact ht h2
theorem WSt.turn (h : WSt W w0 M φ L sp fv F A k c word b) (hk : KB W W' (fun j => φ j ∧ (M j ∨ w0.heap.size ≤ j))) (hφ : ∀ j, φ' j → φ j ∨ W.heap.size ≤ j) : WSt W' w0 M φ' L sp fv F A k c word b where
  s := blk_kb h.s hk (fun hn => (h.off _ (by simp)).1 hn.1)
  d := blk_kb h.d hk (fun hn => (h.off _ (by simp)).1 hn.1)
  w := blk_kb h.w hk (fun hn => (h.off _ (by simp)).1 hn.1)
  g := blk_kb h.g hk (fun hn => (h.off _ (by simp)).1 hn.1)
  f := blk_kb h.f hk (fun hn => (h.off _ (by simp)).1 hn.1)
  n := blk_kb h.n hk (fun hn => (h.off _ (by simp)).1 hn.1)
  fam := blk_kb h.fam hk (fun hn => (h.off _ (by simp)).1 hn.1)
  row := Kd.R_mono (R_kb (Kd.R_bound h.row) hk (fun j hj hn => hj.1 hn.1)) (fun j hj hn => by
    rcases hφ j hn with h1 | h1
    · exact hj.1 h1
    · have := hj.2.2.1; omega)
  kb := h.kb.then_ hk (fun j hj hn => by rcases hn.2 with h1 | h1; exact h1; omega)
  off := fun j hj => ⟨fun hn => by
    rcases hφ j hn with h1 | h1
    · exact (h.off j hj).1 h1
    · have : j < W.heap.size := by rcases hj with rfl | rfl | rfl | rfl | rfl | rfl | rfl <;> first | exact blk_lt h.s | exact blk_lt h.d | exact blk_lt h.w | exact blk_lt h.g | exact blk_lt h.f | exact blk_lt h.n | exact h.fam.lt
      omega, (h.off j hj).2⟩
theorem WSt.below (h : WSt W w0 M φ L sp fv F A k c word b) (hb : Below W.heap.size W W') : WSt W' w0 M φ L sp fv F A k c word b :=
  h.turn (KB.of_below hb _) (fun j hj => .inl hj)
theorem WSt.setg (h : WSt W w0 M φ L sp fv F A k c word b) (b' : Bool) : WSt (W.setCell ⟨L.bg, 0, none⟩ (.bool b')) w0 M φ L sp fv F A k c word b' where
  s := blk_far h.s (blk_ne h.s h.g (by decide)) _
  d := blk_far h.d (blk_ne h.d h.g (by decide)) _
  w := blk_far h.w (blk_ne h.w h.g (by decide)) _
  g := blk_put h.g 0 _ rfl
  f := blk_far h.f (blk_ne h.f h.g (by decide)) _
  n := blk_far h.n (blk_ne h.n h.g (by decide)) _
  fam := blk_far h.fam (blk_ne h.fam h.g (by decide)) _
  row := Kd.R_mono (Kd.R_far (p := ⟨L.bg, 0, none⟩) (Kd.R_types h.row h.g (by decide)) (fun _ hk => hk.2) _) (fun _ hk => hk.1)
  kb := h.kb.setCell (.inr (h.off _ (by simp)).2) _
  off := h.off
/-- The slice variable gets a row that is longer, shorter, or another one. -/
theorem WSt.setw {A' : Option Addr} {k' c' : Nat} {word' : List Nat} (h : WSt W w0 M φ L sp fv F A k c word b) (hg : W.grownBy W' (Value.slice A k c).ownBlock) (hr : Kd.R (Kd.int .i64) 3 W' w0.heap.size (fun j => ¬ φ j) (.slice A' k' c') (ints word')) :
    WSt (W'.setCell ⟨L.bw, 0, none⟩ (.slice A' k' c')) w0 M φ L sp fv F A' k' c' word' b := by
  have s1 := blk_grown h.s hg (Kd.R_ne h.row h.s (by decide))
  have d1 := blk_grown h.d hg (Kd.R_ne h.row h.d (by decide))
  have w1 := blk_grown h.w hg (Kd.R_ne h.row h.w (by decide))
  have g1 := blk_grown h.g hg (Kd.R_ne h.row h.g (by decide))
  have f1 := blk_grown h.f hg (Kd.R_ne h.row h.f (by decide))
  have n1 := blk_grown h.n hg (Kd.R_ne h.row h.n (by decide))
  have m1 := blk_grown h.fam hg (Kd.R_ne h.row h.fam (by decide))
  exact {
    s := blk_far s1 (blk_ne s1 w1 (by decide)) _
    d := blk_far d1 (blk_ne d1 w1 (by decide)) _
    w := blk_put w1 0 _ rfl
    g := blk_far g1 (blk_ne g1 w1 (by decide)) _
    f := blk_far f1 (blk_ne f1 w1 (by decide)) _
    n := blk_far n1 (blk_ne n1 w1 (by decide)) _
    fam := blk_far m1 (blk_ne m1 w1 (by decide)) _
    row := Kd.R_mono (Kd.R_far (p := ⟨L.bw, 0, none⟩) (Kd.R_types hr w1 (by decide)) (fun _ hk => hk.2) _) (fun _ hk => hk.1)
    kb := (h.kb.grown hg (fun j hj => .inr ((Kd.R_bound h.row).1 j hj).2.1)).setCell (.inr (h.off _ (by simp)).2) _
    off := h.off }
end
/-- What is asked of the function value: I h φ W: it has been told the words h, and holds the blocks φ; it may write those of them that are M's or new since w0. -/
structure Feeder (g : Nat) (lb : Array Value) (I : List (List Nat) → (Nat → Prop) → World → Prop) (cont : List (List Nat) → Bool) (w0 : World) (M : Nat → Prop) (okw : List Nat → Prop) : Prop where
  eg : ∀ args w, (callFunc g args).run Try.prog w = .ok (.enter g args) w
  stay : ∀ h φ W W' S, I h φ W → KB W W' S → (∀ j, S j → ¬ φ j) → I h φ W'
  call : ∀ W h φ A c x, KB w0 W M → I h φ W → (∀ j, φ j → j < W.heap.size) → Kd.C (Kd.int .i64) W A (ints x).length (ints x) → (ints x).length ≤ c → (∀ ad, A = some ad → ¬ φ ad.block) → okw x →
    Calls Try.prog g (#[.slice A (ints x).length c] ++ lb) W fun e W' => e = .returned (.bool (cont (h ++ [x]))) ∧ ∃ φ', I (h ++ [x]) φ' W' ∧ KB W W' (fun j => φ j ∧ (M j ∨ w0.heap.size ≤ j)) ∧ (∀ j, φ' j → φ j ∨ W.heap.size ≤ j) ∧ (∀ j, φ' j → j < W'.heap.size)

/-- v' lies where v lies, or in a new block -/
def OwnTo (W : World) (v v' : Value) : Prop := ∀ x, v'.ownBlock = some x → v.ownBlock = some x ∨ W.heap.size ≤ x
def nextArgs (L : Loc) (set : Nat) : Array Value := #[.int .i64 (set : Int), .pointer (some ⟨L.bs, 0, none⟩), .pointer (some ⟨L.bd, 0, none⟩), .pointer (some ⟨L.bw, 0, none⟩), .pointer (some ⟨L.bg, 0, none⟩), .pointer (some ⟨L.bf, 0, none⟩), .pointer (some ⟨L.bn, 0, none⟩)]

section
variable {g : Nat} {lb : Array Value} {I : List (List Nat) → (Nat → Prop) → World → Prop} {cont : List (List Nat) → Bool} {w0 : World} {M : Nat → Prop} {okw : List Nat → Prop}

theorem next_leaf (FD : Feeder g lb I cont w0 M okw) (n : Nat) (hn7 : n ≤ 7) (As : Option Addr) (ls : List Int) (cs : Nat) (hr0 : Kd.C (Kd.int .i64) w0 As ls.length ls) (hcs : ls.length ≤ cs) (hMs : ∀ ad, As = some ad → ¬ M ad.block) (F : Nat → Bool) (L : Loc)
    (word : List Nat) (h : List (List Nat)) (φ : Nat → Prop) (W : World) (A : Option Addr) (k c : Nat)
    (hok : okw word) (hS : WSt W w0 M φ L #[.int .i64 (n : Int), .slice As ls.length cs] (.func (.func g) #[] lb) F A k c word true) (hI : I h φ W) (hφ : ∀ j, φ j → j < W.heap.size) :
    Calls Try.prog 108 (nextArgs L (2 ^ n - 1)) W fun e W' => e = .returned (.tuple #[]) ∧ ∃ φ' A' k' c', WSt W' w0 M φ' L #[.int .i64 (n : Int), .slice As ls.length cs] (.func (.func g) #[] lb) F A' k' c' word (cont (h ++ [word])) ∧ I (h ++ [word]) φ' W' ∧ (∀ j, φ' j → φ j ∨ W.heap.size ≤ j) ∧ (∀ j, φ' j → j < W'.heap.size) ∧ OwnTo W (.slice A k c) (.slice A' k' c') ∧ KB W W' (fun x => φ x ∨ x = L.bg ∨ x = L.bw ∨ some x = (Value.slice A k c).ownBlock) := by
  have hu := Try.underlying28
  have eg := FD.eg
  have HFD := Aside0.mk FD
  have HR0 := Aside0.mk hr0
  have HCS := Aside0.mk hcs
  have HS := Aside0.mk hS
  have HI := Aside0.mk hI
  have HP := Aside0.mk hφ
  have HAL := Aside0.mk (all_pure n ls (by omega))
  have HMS := Aside0.mk hMs
  have HOK := Aside0.mk hok
  have hc1_0 : W.cell? ⟨L.bs, 0, none⟩ = some (.int .i64 (n : Int)) := (blk_cell hS.s 0).trans rfl
  have hc1_1 : W.cell? ⟨L.bs, 1, none⟩ = some (.slice As ls.length cs) := (blk_cell hS.s 1).trans rfl
  obtain ⟨q, hq⟩ : ∃ q, 2 ^ n - 1 = q := ⟨_, rfl⟩
  rw [hq] at HAL ⊢
  clear hr0 hcs hS hI hφ hMs hok FD hq
  unfold nextArgs
  go_enter Try.func108, Try.ntmps108
  go_wp2_with fail
  refine (impl_Space_all.calls (n : Int) As cs ls (q : Int) _ (C_kb HR0.out HS.out.kb HMS.out) HCS.out HAL.out).mono ?_
  rintro e w1 ⟨rfl, hb⟩
  have HS1 := Aside0.mk (HS.out.below hb)
  have HI1 := Aside0.mk (HFD.out.stay _ _ _ _ _ HI.out (KB.of_below hb (fun _ => False)) (fun _ hj => hj.elim))
  have HP1 := Aside0.mk (fun j (hj : φ j) => Nat.lt_of_lt_of_le (HP.out j hj) hb.size)
  have HZ1 := Aside0.mk hb.size
  have HKB1 := Aside0.mk (KB.of_below hb (fun x => φ x ∨ x = L.bg ∨ x = L.bw ∨ some x = (Value.slice A k c).ownBlock))
  clear hb hc1_0 hc1_1
  have hc2 : w1.cell? ⟨L.bd, 0, none⟩ = some (.func (.func g) #[] lb) := (blk_cell HS1.out.d 0).trans rfl
  have hc3 : w1.cell? ⟨L.bw, 0, none⟩ = some (.slice A k c) := (blk_cell HS1.out.w 0).trans rfl
  obtain ⟨hk1, hk2, hk3⟩ := Kd.R_reads' HS1.out.row
  have HK1 := Aside0.mk hk1
  have HK2 := Aside0.mk hk2
  have HK3 := Aside0.mk hk3
  clear hk1 hk2 hk3
  rw [HK1.out] at hc3
  go_wp2_with fail
  refine (HFD.out.call w1 h φ A c word HS1.out.kb HI1.out HP1.out HK3.out (by rw [← HK1.out]; exact HK2.out) (fun ad e => HS1.out.row.1 ad.block (by rw [e]; rfl)) HOK.out).mono ?_
  rintro e w2 ⟨rfl, φ', hI2, hkb, hp1, hp2⟩
  have HS2 := Aside0.mk (HS1.out.turn hkb hp1)
  have HI2 := Aside0.mk hI2
  have HP3 := Aside0.mk hp1
  have HP4 := Aside0.mk hp2
  have HZ2 := Aside0.mk hkb.size
  have HKB2 := Aside0.mk (HKB1.out.then_ hkb (fun _ _ hx => .inl hx.1))
  clear hI2 hkb hp1 hp2 hc2 hc3 eg
  have hc4 : w2.cell? ⟨L.bg, 0, none⟩ = some (.bool true) := (blk_cell HS2.out.g 0).trans rfl
  have hf4 := blk_frozen HS2.out.g 0
  obtain ⟨b, hb⟩ : ∃ b, cont (h ++ [word]) = b := ⟨_, rfl⟩
  rw [hb]
  have HB := Aside0.mk hb
  clear hb
  go_wp2_with fail
  (try simp only [Exit.inBlock, Exit.then])
  refine bodyPost_ret (results_none rfl _ _ _) rfl ?_
  rw [HB.out]
  refine ⟨rfl, φ', A, k, c, HS2.out.setg b, HFD.out.stay _ _ _ _ (fun j => j = L.bg) HI2.out (KB.setCell (S := fun j => j = L.bg) (KB.refl _ _) (p := ⟨L.bg, 0, none⟩) (.inl rfl) _) (fun j hj => by rw [hj]; exact (HS2.out.off _ (by simp)).1), ?_, ?_, fun x hx => .inl hx, KB.setCell HKB2.out (p := ⟨L.bg, 0, none⟩) (.inl (.inr (.inl rfl))) _⟩
  · intro j hj
    rcases HP3.out j hj with h1 | h1
    · exact .inl h1
    · exact .inr (Nat.le_trans HZ1.out h1)
  · intro j hj; have := HP4.out j hj; simpa [World.setCell] using this

/-- what is told below a set, when j of its outer items have been gone through -/
def below_ (F : Nat → Bool) (al d set : Nat) (word it : List Nat) : List (List Nat) := it.flatMap fun i => (wordsFrom F al d (wth set i)).map fun y => word ++ [i] ++ y
theorem below_snoc (F : Nat → Bool) (al d set : Nat) (word it : List Nat) (i : Nat) : below_ F al d set word (it ++ [i]) = below_ F al d set word it ++ (wordsFrom F al d (wth set i)).map ((word ++ [i]) ++ ·) := by
  simp [below_]
theorem below_all (F : Nat → Bool) (al d set : Nat) (word : List Nat) (h : set ≠ al) : (wordsFrom F al (d + 1) set).map (word ++ ·) = below_ F al d set word (itemsOf (outer F set)) := by
  simp only [wordsFrom, if_neg h, below_, List.map_flatMap, List.map_map]
  congr 1; funext i; apply List.map_congr_left; intro y _; simp

theorem next_calls (FD : Feeder g lb I cont w0 M okw) (n : Nat) (hn7 : n ≤ 7) (As : Option Addr) (ls : List Int) (cs : Nat) (hr0 : Kd.C (Kd.int .i64) w0 As ls.length ls) (hcs : ls.length ≤ cs) (hMs : ∀ ad, As = some ad → ¬ M ad.block) (F : Nat → Bool) (L : Loc) (d : Nat) :
    ∀ (set : Nat) (word : List Nat) (h : List (List Nat)) (φ : Nat → Prop) (W : World) (A : Option Addr) (k c : Nat), set < 128 → d + cnt set = 8 → word.length + d = 8 →
    (∀ y ∈ wordsFrom F (2 ^ n - 1) d set, okw (word ++ y)) → WSt W w0 M φ L #[.int .i64 (n : Int), .slice As ls.length cs] (.func (.func g) #[] lb) F A k c word true → I h φ W → (∀ j, φ j → j < W.heap.size) →
    Calls Try.prog 108 (nextArgs L set) W fun e W' => e = .returned (.tuple #[]) ∧ ∃ φ' A' k' c', WSt W' w0 M φ' L #[.int .i64 (n : Int), .slice As ls.length cs] (.func (.func g) #[] lb) F A' k' c' word (feed cont (h, true) ((wordsFrom F (2 ^ n - 1) d set).map (word ++ ·))).2 ∧
      I (feed cont (h, true) ((wordsFrom F (2 ^ n - 1) d set).map (word ++ ·))).1 φ' W' ∧ (∀ j, φ' j → φ j ∨ W.heap.size ≤ j) ∧ (∀ j, φ' j → j < W'.heap.size) ∧ OwnTo W (.slice A k c) (.slice A' k' c') ∧ KB W W' (fun x => φ x ∨ x = L.bg ∨ x = L.bw ∨ some x = (Value.slice A k c).ownBlock) := by
  induction d with
  | zero => intro set word h φ W A k c hs hd; have := cnt_le set; omega
  | succ d ih =>
    intro set word h φ W A k c hs hd hwl hok hS hI hφ
    by_cases hall : set = 2 ^ n - 1
    · have e : wordsFrom F (2 ^ n - 1) (d + 1) set = [[]] := by simp [wordsFrom, hall]
      have ho : okw word := by have := hok [] (by rw [e]; simp); simpa using this
      rw [e, hall]
      have := next_leaf FD n hn7 As ls cs hr0 hcs hMs F L word h φ W A k c ho hS hI hφ
      simpa [feed_one] using this
    · have e := below_all F (2 ^ n - 1) d set word hall
      have hok2 : ∀ i ∈ itemsOf (outer F set), ∀ y ∈ wordsFrom F (2 ^ n - 1) d (wth set i), okw (word ++ [i] ++ y) := by
        intro i hi y hy
        have := hok (i :: y) (by simp only [wordsFrom, if_neg hall, List.mem_flatMap, List.mem_map]; exact ⟨i, hi, y, hy, rfl⟩)
        simpa using this
      rw [e]
      have hu := Try.underlying28
      have HFD := Aside0.mk FD
      have HR0 := Aside0.mk hr0
      have HCS := Aside0.mk hcs
      have HS := Aside0.mk hS
      have HI := Aside0.mk hI
      have HP := Aside0.mk hφ
      have HAL := Aside0.mk (all_pure n ls (by omega))
      have HMS := Aside0.mk hMs
      have HOK := Aside0.mk hok2
      have IH := Aside0.mk ih
      have HD := Aside0.mk hd
      have hc1_0 : W.cell? ⟨L.bs, 0, none⟩ = some (.int .i64 (n : Int)) := (blk_cell hS.s 0).trans rfl
      have hc1_1 : W.cell? ⟨L.bs, 1, none⟩ = some (.slice As ls.length cs) := (blk_cell hS.s 1).trans rfl
      obtain ⟨al, hal⟩ : ∃ al, 2 ^ n - 1 = al := ⟨_, rfl⟩
      rw [hal] at HAL hall HOK IH ⊢
      have heq : ((set : Int) == (al : Int)) = false := by simp; omega
      clear hr0 hcs hS hI hφ hMs hok hok2 FD hal ih hd hall e
      unfold nextArgs
      go_enter Try.func108, Try.ntmps108
      go_wp2_with fail
      refine (impl_Space_all.calls (n : Int) As cs ls (al : Int) _ (C_kb HR0.out HS.out.kb HMS.out) HCS.out HAL.out).mono ?_
      rintro e w1 ⟨rfl, hb⟩
      have HS1 := Aside0.mk (HS.out.below hb)
      have HI1 := Aside0.mk (HFD.out.stay _ _ _ _ _ HI.out (KB.of_below hb (fun _ => False)) (fun _ hj => hj.elim))
      have HP1 := Aside0.mk (fun j (hj : φ j) => Nat.lt_of_lt_of_le (HP.out j hj) hb.size)
      have HZ1 := Aside0.mk hb.size
      have HBA := Aside0.mk hb
      clear hb hc1_0 hc1_1 HS HI HP
      have hc2 : w1.cell? ⟨L.bf, 0, none⟩ = some (.pointer (some ⟨L.fm, 0, none⟩)) := (blk_cell HS1.out.f 0).trans rfl
      go_wp2_with fail
      refine (outer_calls L.fm set F _ hs HS1.out.fam).mono ?_
      rintro e w2 ⟨rfl, hb⟩
      have HS2 := Aside0.mk (HS1.out.below hb)
      have HI2 := Aside0.mk (HFD.out.stay _ _ _ _ _ HI1.out (KB.of_below hb (fun _ => False)) (fun _ hj => hj.elim))
      have HP2 := Aside0.mk (fun j (hj : φ j) => Nat.lt_of_lt_of_le (HP1.out j hj) hb.size)
      have HZ2 := Aside0.mk (Nat.le_trans HZ1.out hb.size)
      have HBB := Aside0.mk hb
      clear hb hc2 HS1 HI1 HP1 HZ1
      have hol := outer_lt F set
      have hom : ∀ i ∈ itemsOf (outer F set), i < 7 ∧ set.testBit i = false := fun i hi => ⟨(outer_mem hi).1, (outer_mem hi).2.1⟩
      have HOM := Aside0.mk hom
      obtain ⟨ou, hou⟩ : ∃ ou, outer F set = ou := ⟨_, rfl⟩
      rw [hou] at hol HOM HOK ⊢
      have HOU := Aside0.mk hou
      clear hou hom
      go_wp2_with fail
      refine (impl_items.calls 8 (ou : Int) _ _ (items_pure ou hol)).mono ?_
      rintro e w3 ⟨v0, rfl, ho, hb⟩
      obtain ⟨A3, c3, rfl⟩ := Kd.R_slice ho
      have HO3 := Aside0.mk ho
      have HS3 := Aside0.mk (HS2.out.below hb)
      have HI3 := Aside0.mk (HFD.out.stay _ _ _ _ _ HI2.out (KB.of_below hb (fun _ => False)) (fun _ hj => hj.elim))
      have HP3 := Aside0.mk (fun j (hj : φ j) => Nat.lt_of_lt_of_le (HP2.out j hj) hb.size)
      have HZ3 := Aside0.mk (Nat.le_trans HZ2.out hb.size)
      have HLEN := Aside0.mk (ints_len (itemsOf ou))
      have hl7 := itemsOf_len ou
      have HKB3 := Aside0.mk (((KB.of_below HBA.out (fun x => φ x ∨ x = L.bg ∨ x = L.bw ∨ some x = (Value.slice A k c).ownBlock)).below HBB.out).below hb)
      have hnew : ∀ ad, A3 = some ad → w2.heap.size ≤ ad.block := fun ad e => own_base ho.2.choose_spec.1 ad.block (by rw [e]; rfl)
      have HNEW := Aside0.mk hnew
      have HO3C := Aside0.mk (Kd.R_reads' ho).2.2
      have HLT := Aside0.mk (show ∀ x, (φ x ∨ x = L.bg ∨ x = L.bw ∨ some x = (Value.slice A k c).ownBlock) → x < w2.heap.size by
        rintro x (hx | rfl | rfl | hx)
        · exact HP2.out x hx
        · exact blk_lt HS2.out.g
        · exact blk_lt HS2.out.w
        · obtain ⟨inner, hin⟩ := Kd.R_own HS2.out.row
          exact own_lt hin x hx.symm)
      clear hb ho HS2 HI2 HZ2 hnew
      go_wp2_with fail
      obtain ⟨st, hst⟩ : ∃ st : Nat → List (List Nat) × Bool, (fun j => feed cont (h, true) (below_ F al d set word ((itemsOf ou).take j))) = st := ⟨_, rfl⟩
      have HST := Aside0.mk hst
      clear hst
      go_loopg [22] (itemsOf ou).length (fun kq v22 w' => ∃ j : Nat, v22 = .int .i64 (j : Int) ∧ j ≤ (itemsOf ou).length ∧ Aside0 (kq = (itemsOf ou).length - j) ∧ ∃ (φ' : Nat → Prop) (A' : Option Addr) (k' c' : Nat), Aside0 (WSt w' w0 M φ' L #[.int .i64 (n : Int), .slice As ls.length cs] (.func (.func g) #[] lb) F A' k' c' word (st j).2) ∧ Aside0 (I (st j).1 φ' w') ∧ Aside0 (∀ x, φ' x → φ x ∨ W.heap.size ≤ x) ∧ Aside0 (∀ x, φ' x → x < w'.heap.size) ∧ Aside0 (OwnTo W (.slice A k c) (.slice A' k' c')) ∧ Aside0 (KB W w' (fun x => φ x ∨ x = L.bg ∨ x = L.bw ∨ some x = (Value.slice A k c).ownBlock)) ∧ Aside0 (Kd.C (Kd.int .i64) w' A3 (ints (itemsOf ou)).length (ints (itemsOf ou))) ∧ Aside0 (∀ ad, A3 = some ad → ¬ φ' ad.block ∧ ad.block ≠ L.bg ∧ ad.block ≠ L.bw ∧ some ad.block ≠ (Value.slice A' k' c').ownBlock))
      case atStart =>
        have e0 : st 0 = (h, true) := by rw [← HST.out]; simp [below_, feed]
        refine ⟨0, rfl, Nat.zero_le _, ⟨rfl⟩, φ, A, k, c, ⟨?_⟩, ⟨?_⟩, ⟨fun x hx => .inl hx⟩, HP3, ⟨fun x hx => .inl hx⟩, HKB3, HO3C, ⟨fun ad e => ?_⟩⟩
        · rw [e0]; exact HS3.out
        · rw [e0]; exact HI3.out
        · have hge := HNEW.out ad e
          refine ⟨fun hx => ?_, fun hx => ?_, fun hx => ?_, fun hx => ?_⟩
          · have := HLT.out _ (.inl hx); omega
          · have := HLT.out _ (.inr (.inl hx)); omega
          · have := HLT.out _ (.inr (.inr (.inl hx))); omega
          · have := HLT.out _ (.inr (.inr (.inr hx))); omega
      case round =>
        obtain ⟨j, rfl, hj, HK, φ1, A1, k1, c1, HS4, HI4, HP4, HP5, HW4, HKB4, HO4, HN4⟩ := hrel
        by_cases hlt : j < (itemsOf ou).length
        · obtain ⟨a, ha, hg, hg2⟩ := items_get ou j hlt
          obtain ⟨ad, e1, hx1⟩ := int_at HO4.out j (by rw [HLEN.out]; exact hlt)
          cases e1
          rw [hg2] at hx1
          have HG := Aside0.mk hg
          have HLT1 : j < (ints (itemsOf ou)).length := by rw [HLEN.out]; exact hlt
          have hb1 : wr.cell? ⟨L.bg, 0, none⟩ = some (.bool (st j).2) := (blk_cell HS4.out.g 0).trans rfl
          obtain ⟨bb, hbb⟩ : ∃ bb, (st j).2 = bb := ⟨_, rfl⟩
          have HBB2 := Aside0.mk hbb
          rw [hbb] at hb1
          clear hg hbb
          cases bb with
          | false =>
            go_wp2_with fail
            (try simp only [Exit.inBlock, Exit.then])
            refine bodyPost_ret (results_none rfl _ _ _) rfl ?_
            have e2 : feed cont (h, true) (below_ F al d set word (itemsOf ou)) = st j := by
              have e3 : below_ F al d set word (itemsOf ou) = below_ F al d set word ((itemsOf ou).take j) ++ below_ F al d set word ((itemsOf ou).drop j) := by
                unfold below_; rw [← List.flatMap_append, List.take_append_drop]
              have e4 : feed cont (h, true) (below_ F al d set word ((itemsOf ou).take j)) = st j := by rw [← HST.out]
              rw [e3, feed_append, e4]
              obtain ⟨s1, s2⟩ : ∃ s1, st j = (s1, false) := ⟨(st j).1, by rw [← HBB2.out]⟩
              rw [s2, feed_off]
            rw [HOU.out, e2]
            exact ⟨rfl, φ1, A1, k1, c1, HS4.out, HI4.out, HP4.out, HP5.out, HW4.out, HKB4.out⟩
          | true =>
            obtain ⟨rfl, hk2, hk3⟩ := Kd.R_reads' HS4.out.row
            have hc3 : wr.cell? ⟨L.bw, 0, none⟩ = some (.slice A1 (ints word).length c1) := (blk_cell HS4.out.w 0).trans rfl
            have hf3 := blk_frozen HS4.out.w 0
            have hbase : w0.heap.size ≤ wr.heap.size := HS4.out.kb.size
            have HWL := Aside0.mk hwl
            clear hk2 hk3
            have e5 : ints (word ++ [a]) = ints word ++ [(a : Int)] := by simp [ints]
            have hl5 : (ints word ++ [(a : Int)]).length = (ints word).length + 1 := by simp
            have E5 := Aside0.mk e5
            have HL5 := Aside0.mk hl5
            clear e5 hl5
            go_wp2_with (first | ((with_reducible refine gate_builtin (b := .append) (xs := #[.tmp 28, .tmp 30]) rfl ?_); at_builtin; refine Kd.R_append (Kd.int .i64) (w0 := wr) w0.heap.size rfl (.tmp 28) (.tmp 30) 22 3 (.int .i64 0) 8 rfl Try.underlying22 info3 rfl (by decide) (by omega) (.slice A1 (ints word).length c1) (ints word) (a : Int) [.int .i64 (a : Int)] (fun x => ¬ φ1 x) (fun _ => False) rfl rfl ?aP (fun _ hk => hk.elim) ?aF ?aO ?aB ?aS ?aL ?_; (case aP => exact rfl); (case aB => exact Below.refl _ _); (case aF => exact (fun x hx hp => Nat.lt_irrefl _ (Nat.lt_of_lt_of_le (HP5.out x hp) hx))); (case aO => exact HS4.out.row); (case aS => exact hbase); (case aL => (have := HWL.out; simp only [ints, List.length_map]; omega)); intro v1 w9 ho hb hg hat; obtain ⟨A5, c5, rfl⟩ := Kd.R_slice ho; rw [HL5.out] at ho; have hw9 := blk_grown HS4.out.w hg (Kd.R_ne HS4.out.row HS4.out.w (by decide)); have hc9 : w9.cell? ⟨L.bw, 0, none⟩ = some (.slice A1 (ints word).length c1) := (blk_cell hw9 0).trans rfl; have hf9 := blk_frozen hw9 0; have HO5 := Aside0.mk ho; have HG5 := Aside0.mk hg; have HAT5 := Aside0.mk hat; clear ho hb hg hat hw9) | fail)
            have HS5 := Aside0.mk (HS4.out.setw (word' := word ++ [a]) HG5.out (by rw [E5.out]; exact HO5.out))
            have HKB5 := Aside0.mk ((KB.grown (KB.refl wr (fun x => x = L.bw ∨ some x = (Value.slice A1 (ints word).length c1).ownBlock)) HG5.out (fun x hx => .inl (.inr hx.symm))).setCell (p := ⟨L.bw, 0, none⟩) (.inl (.inl rfl)) (.slice A5 ((ints word).length + 1) c5))
            have HI5 := Aside0.mk (HFD.out.stay _ _ _ _ _ HI4.out HKB5.out (fun x hx => by
              rcases hx with rfl | hx
              · exact (HS4.out.off _ (by simp)).1
              · exact HS4.out.row.1 x hx.symm))
            have HP6 := Aside0.mk (fun x (hx : φ1 x) => Nat.lt_of_lt_of_le (HP5.out x hx) HKB5.out.size)
            have HZ5 := Aside0.mk HKB5.out.size
            clear HO5 HG5 hc9 hf9
            generalize w9.setCell ⟨L.bw, 0, none⟩ (.slice A5 ((ints word).length + 1) c5) = w10 at HS5 HKB5 HI5 HP6 HZ5 ⊢
            have hbn : w10.cell? ⟨L.bn, 0, none⟩ = some (.func (.func 108) #[] #[.pointer (some ⟨L.bs, 0, none⟩), .pointer (some ⟨L.bd, 0, none⟩), .pointer (some ⟨L.bw, 0, none⟩), .pointer (some ⟨L.bg, 0, none⟩), .pointer (some ⟨L.bf, 0, none⟩), .pointer (some ⟨L.bn, 0, none⟩)]) := (blk_cell HS5.out.n 0).trans rfl
            obtain ⟨p, hp1, hp2, hp⟩ := bit_letter a (by omega)
            obtain ⟨q, hq⟩ : ∃ q, wth set a = q := ⟨_, rfl⟩
            have hq1 : Go.bits .or .i64 (set : Int) p = (q : Int) := by rw [hp, ← hq]; exact go_wth set a hs ha
            have HQ := Aside0.mk hq
            have HPP := Aside0.mk hp
            have hih := IH.out (wth set a) (word ++ [a]) (st j).1 φ1 w10.drew A5 _ c5 (wth_lt _ _ hs ha) (by have := cnt_wth set a hs ha (HOM.out a (List.mem_of_getElem? HG.out)).2; have := HD.out; omega) (by have := HWL.out; simp; omega) (HOK.out a (List.mem_of_getElem? HG.out)) (by have h5 := HS5.out.below (below_drew (Below.refl _ _)); rw [HBB2.out] at h5; exact h5) (HFD.out.stay _ _ _ _ _ HI5.out (KB.drew (KB.refl _ (fun _ => False))) (fun _ hx => hx.elim)) HP6.out
            have hst1 : feed cont ((st j).1, true) ((wordsFrom F al d (wth set a)).map ((word ++ [a]) ++ ·)) = st (j + 1) := by
              have e3 : (itemsOf ou).take (j + 1) = (itemsOf ou).take j ++ [a] := by rw [List.take_add_one, HG.out]; rfl
              have e4 : feed cont (h, true) (below_ F al d set word ((itemsOf ou).take j)) = st j := by rw [← HST.out]
              have e6 : st (j + 1) = feed cont (h, true) (below_ F al d set word ((itemsOf ou).take (j + 1))) := by rw [← HST.out]
              have e7 : st j = ((st j).1, true) := by rw [← HBB2.out]
              rw [e6, e3, below_snoc, feed_append, e4, ← e7]
            rw [hst1, hq] at hih
            unfold nextArgs at hih
            have HIH := Aside0.mk hih
            have HST1 := Aside0.mk hst1
            clear hp hq hb1 hf3 hih hst1
            go_region_with (go_at_call 108; refine (HIH.out).mono ?_; rintro e w11 ⟨rfl, φ2, A6, k6, c6, hs6, hi6, hp6, hp7, hw6, hk6⟩; have HS6 := Aside0.mk hs6; have HI6 := Aside0.mk hi6; have HP7 := Aside0.mk hp6; have HP8 := Aside0.mk hp7; have HW6 := Aside0.mk hw6; have HKB6 := Aside0.mk hk6; clear hs6 hi6 hp6 hp7 hw6 hk6)
            obtain ⟨hk6, hk7, hk8⟩ := Kd.R_reads' HS6.out.row
            rw [E5.out, HL5.out] at hk6
            subst hk6
            have hc11 : w11.cell? ⟨L.bw, 0, none⟩ = some (.slice A6 ((ints word).length + 1) c6) := (blk_cell HS6.out.w 0).trans rfl
            have hf11 := blk_frozen HS6.out.w 0
            have hwl8 : (ints word).length ≤ 8 := by have := HWL.out; simp only [ints, List.length_map]; omega
            clear hk8 hbn
            go_wp2_with fail
            have hrow7 : Kd.R (Kd.int .i64) 3 w11 w0.heap.size (fun x => ¬ φ2 x) (.slice A6 (ints word).length c6) (ints word) := by
              have h7 := Kd.R_take (m := (ints word).length) HS6.out.row (by rw [E5.out]; simp)
              rw [E5.out, List.take_left] at h7
              exact h7
            have HS7 := HS6.out.setw (W' := w11) (word' := word) (grown_of_below (Below.refl _ _) _) hrow7
            have hkb7 : KB w11 (w11.setCell ⟨L.bw, 0, none⟩ (.slice A6 (ints word).length c6)) (fun x => x = L.bw) := KB.setCell (S := fun x => x = L.bw) (KB.refl _ _) (p := ⟨L.bw, 0, none⟩) (.inl rfl) _
            have HI7 := HFD.out.stay _ _ _ _ _ HI6.out hkb7 (fun x hx => by rw [hx]; exact (HS6.out.off _ (by simp)).1)
            have hadl : ad.block < wr.heap.size := by
              have h8 := World.block_lt_of_cell? wr _ hx1
              have e8 : (ad.add j).block = ad.block := by unfold Addr.add; split <;> rfl
              rwa [e8] at h8
            have hz1 : W.heap.size ≤ wr.heap.size := HKB4.out.size
            have hz2 : wr.heap.size ≤ w10.heap.size := HZ5.out
            have hown5 : ∀ x, (Value.slice A5 ((ints word).length + 1) c5).ownBlock = some x → (Value.slice A1 (ints word).length c1).ownBlock = some x ∨ wr.heap.size ≤ x := by
              intro x hx
              rcases HAT5.out with h9 | ⟨b9, h9, h10⟩
              · left; rw [← h9]; rw [HL5.out]; exact hx
              · right; rw [HL5.out] at h9; rw [h9] at hx; injection hx with hx; omega
            have hown6 : ∀ x, (Value.slice A6 ((ints word).length + 1) c6).ownBlock = some x → (Value.slice A1 (ints word).length c1).ownBlock = some x ∨ wr.heap.size ≤ x := by
              intro x hx
              rcases HW6.out x hx with h9 | h9
              · exact hown5 x h9
              · right; exact Nat.le_trans hz2 h9
            have hown7 : (Value.slice A6 (ints word).length c6).ownBlock = (Value.slice A6 ((ints word).length + 1) c6).ownBlock := by cases A6 <;> rfl
            have hfar1 : ∀ x, x < wr.heap.size → φ2 x → φ1 x := by
              intro x hx hp
              rcases HP7.out x hp with h9 | h9
              · exact h9
              · have h9' : w10.heap.size ≤ x := h9; omega
            have hkb8 : KB wr (w11.setCell ⟨L.bw, 0, none⟩ (.slice A6 (ints word).length c6)) (fun x => φ1 x ∨ x = L.bg ∨ x = L.bw ∨ some x = (Value.slice A1 (ints word).length c1).ownBlock) := by
              refine ((HKB5.out.mono (fun x _ hx => by rcases hx with hx | hx; exact .inr (.inr (.inl hx)); exact .inr (.inr (.inr hx)))).drew.then_ HKB6.out ?_).then_ hkb7 (fun x _ hx => .inr (.inr (.inl hx)))
              rintro x hx (h9 | h9 | h9 | h9)
              · exact .inl h9
              · exact .inr (.inl h9)
              · exact .inr (.inr (.inl h9))
              · rcases hown5 x h9.symm with h10 | h10
                · exact .inr (.inr (.inr h10.symm))
                · omega
            have HN := HN4.out ad rfl
            go_roundg ((itemsOf ou).length - (j + 1))
            case measure => have := HK.out; omega
            case rel =>
              refine ⟨j + 1, by go_num, by omega, ⟨rfl⟩, φ2, A6, _, c6, ⟨HS7⟩, ⟨HI7⟩, ⟨?_⟩, ⟨?_⟩, ⟨?_⟩, ⟨?_⟩, ⟨?_⟩, ⟨?_⟩⟩
              · intro x hx
                rcases HP7.out x hx with h9 | h9
                · exact HP4.out x h9
                · right; exact Nat.le_trans hz1 (Nat.le_trans hz2 h9)
              · intro x hx; have := HP8.out x hx; simpa [World.setCell] using this
              · intro x hx
                rw [hown7] at hx
                rcases hown6 x hx with h9 | h9
                · exact HW4.out x h9
                · right; exact Nat.le_trans hz1 h9
              · refine HKB4.out.then_ hkb8 ?_
                rintro x hx (h9 | h9 | h9 | h9)
                · rcases HP4.out x h9 with h10 | h10
                  · exact .inl h10
                  · omega
                · exact .inr (.inl h9)
                · exact .inr (.inr (.inl h9))
                · rcases HW4.out x h9.symm with h10 | h10
                  · exact .inr (.inr (.inr h10.symm))
                  · omega
              · refine C_kb HO4.out hkb8 ?_
                intro ad' e9
                injection e9 with e9
                subst e9
                rintro (h9 | h9 | h9 | h9)
                · exact HN.1 h9
                · exact HN.2.1 h9
                · exact HN.2.2.1 h9
                · exact HN.2.2.2 h9
              · intro ad' e9
                injection e9 with e9
                subst e9
                refine ⟨fun h9 => HN.1 (hfar1 _ hadl h9), HN.2.1, HN.2.2.1, fun h9 => ?_⟩
                rw [hown7] at h9
                rcases hown6 _ h9.symm with h10 | h10
                · exact HN.2.2.2 h10.symm
                · omega
        · have hje : j = (itemsOf ou).length := by omega
          have hge : ¬ j < (ints (itemsOf ou)).length := by rw [HLEN.out]; exact hlt
          go_wp2
          go_end0
          have e1 : feed cont (h, true) (below_ F al d set word (itemsOf ou)) = st j := by rw [← HST.out, hje]; simp only [List.take_length]
          rw [HOU.out, e1]
          exact ⟨rfl, φ1, A1, k1, c1, HS4.out, HI4.out, HP4.out, HP5.out, HW4.out, HKB4.out⟩
end
end Go.Proofs.Ytjhjphgdjhahlaa.P
/- impl's 'words' behind no word: what is told. -/
namespace Go.Proofs.Ytjhjphgdjhahlaa.P
open Go.RowKit Go.Proofs.YtjhjphgdjhahlaaW.PrintWords Go.Proofs.YtjhjphgdjhahlaaW.PrintLast Go.Proofs.YtjhjphgdjhahlaaW.PrintMore
set_option linter.unusedVariables false
set_option maxHeartbeats 1600000
set_option maxRecDepth 100000

theorem clone_nil (w : World) : Calls Try.prog 107 #[.slice none 0 0] w fun e w' => e = .returned (.slice none 0 0) ∧ w = w' := by
  have hn := fun w => run_eql_slice_nil (P := Try.prog) w 22 3 none 0 0 Try.underlying22
  go_enter Try.func107, Try.ntmps107
  go_wp2_with fail
  go_ret
  exact ⟨rfl, rfl⟩
theorem setOf_nil (n : Int) (A : Option Addr) (l : List Int) (c : Nat) (w : World) (hr : Kd.C (Kd.int .i64) w A l.length l) (hv : ∀ x ∈ l, 0 ≤ x ∧ x < 128) :
    Calls Try.prog 112 #[.agg #[.int .i64 n, .slice A l.length c], .slice none 0 0] w fun e w' => e = .returned (.tuple #[.int .i64 0, .bool true]) ∧ Below w.heap.size w w' := by
  have hu := Try.underlying28
  have HR := Aside0.mk hr
  have HV := Aside0.mk hv
  clear hr hv
  go_enter Try.func112, Try.ntmps112
  go_wp2_with fail
  refine (family_calls n A l c _ (Kd.C_alloc HR.out _) HV.out).mono ?_
  rintro e w1 ⟨g, rfl, hf, hb, hg⟩
  have HB := Aside0.mk (below_step (below_alloc (Below.refl _ w) _) hb)
  clear hb hg hf
  go_wp2_with fail
  go_loopg [7, 14] 0 (fun kq v7 v14 w' => v7 = .int .i64 0 ∧ v14 = .int .i64 0 ∧ Aside0 (Below w.heap.size w w'))
  case atStart => exact ⟨rfl, rfl, HB⟩
  case round =>
    obtain ⟨rfl, rfl, HB2⟩ := hrel
    go_wp2_with fail
    go_ret2
    exact ⟨rfl, HB2.out⟩
section
variable {g : Nat} {lb : Array Value} {I : List (List Nat) → (Nat → Prop) → World → Prop} {cont : List (List Nat) → Bool} {w : World} {M φ : Nat → Prop} {okw : List Nat → Prop}
theorem words_calls (FD : Feeder g lb I cont w M okw) (n : Nat) (hn7 : n ≤ 7) (A : Option Addr) (l : List Int) (c : Nat) (hr : Kd.C (Kd.int .i64) w A l.length l) (hc : l.length ≤ c) (hv : ∀ x ∈ l, 0 ≤ x ∧ x < 128) (hMs : ∀ ad, A = some ad → ¬ M ad.block)
    (hI : I [] φ w) (hφ : ∀ j, φ j → j < w.heap.size) (hok : ∀ y ∈ wordsFrom (famOf l) (2 ^ n - 1) 8 0, okw y) :
    Calls Try.prog 63 #[.agg #[.int .i64 n, .slice A l.length c], .slice none 0 0, .func (.func g) #[] lb] w fun e w' => e = .returned (.tuple #[]) ∧ ∃ φ', I (feed cont ([], true) (wordsFrom (famOf l) (2 ^ n - 1) 8 0)).1 φ' w' ∧ (∀ j, φ' j → φ j ∨ w.heap.size ≤ j) ∧ (∀ j, φ' j → j < w'.heap.size) ∧ KB w w' (fun j => φ j ∧ M j) := by
  have hu := Try.underlying28
  have HR := Aside0.mk hr
  have HC := Aside0.mk hc
  have HV := Aside0.mk hv
  have HFD := Aside0.mk FD
  have HMS := Aside0.mk hMs
  have HI := Aside0.mk hI
  have HP := Aside0.mk hφ
  have HOK := Aside0.mk hok
  clear hr hv FD hMs hI hφ hok hc
  go_enter Try.func63, Try.ntmps63
  go_wp2_with fail
  refine (family_calls n A l c _ (Kd.C_alloc (Kd.C_alloc HR.out _) _) HV.out).mono ?_
  rintro e w1 ⟨fm, rfl, hf, hb, hg⟩
  have HF1 := Aside0.mk hf
  have HB1 := Aside0.mk (below_step (below_alloc (below_alloc (Below.refl _ w) _) _) hb)
  have HS1 := Aside0.mk (blk_below (blk_alloc (blk_new w _) _) hb)
  have hd1 := blk_below (blk_new (w.alloc (.cells #[.int .i64 (n : Int), .slice A l.length c] 28)) _) hb
  have es1 : (w.alloc (.cells #[.int .i64 (n : Int), .slice A l.length c] 28)).heap.size = w.heap.size + 1 := by simp
  rw [es1] at hd1
  have HD1 := Aside0.mk hd1
  have hg1 : w.heap.size + 1 + 1 ≤ fm := by simpa using hg
  have HG1 := Aside0.mk hg1
  have hz0 : w.heap.size < w1.heap.size := by have := hb.size; simp at this; omega
  have hz2 : w.heap.size < w1.heap.size + 1 := by omega
  have hz3 : w.heap.size < w1.heap.size + 1 + 1 := by omega
  have hz4 : w.heap.size < w1.heap.size + 1 + 1 + 1 := by omega
  have hz1 : w.heap.size + 1 < w1.heap.size := by have := hb.size; simp at this; omega
  have hc1_0 : w1.cell? ⟨w.heap.size, 0, none⟩ = some (.int .i64 (n : Int)) := (blk_cell HS1.out 0).trans rfl
  have hc1_1 : w1.cell? ⟨w.heap.size, 1, none⟩ = some (.slice A l.length c) := (blk_cell HS1.out 1).trans rfl
  clear hf hb hg hd1 es1 hg1
  go_wp2_with fail
  refine (clone_nil _).mono ?_
  rintro e w2 ⟨rfl, rfl⟩
  go_wp2_with fail
  have hb3 : Below w1.heap.size w1 ((((w1.alloc (.cells #[.pointer (some ⟨fm, 0, none⟩)] 107)).alloc (.cells #[.slice none 0 0] 22)).alloc (.cells #[.bool true] 4)).alloc (.cells #[.func (.func 108) #[] #[.pointer (some ⟨w.heap.size, 0, none⟩), .pointer (some ⟨w.heap.size + 1, 0, none⟩), .pointer (some ⟨w1.heap.size + 1, 0, none⟩), .pointer (some ⟨w1.heap.size + 1 + 1, 0, none⟩), .pointer (some ⟨w1.heap.size, 0, none⟩), .pointer (some ⟨w1.heap.size + 1 + 1 + 1, 0, none⟩)]] 109)) := below_alloc (below_alloc (below_alloc (below_alloc (Below.refl _ _) _) _) _) _
  have hS : WSt ((((w1.alloc (.cells #[.pointer (some ⟨fm, 0, none⟩)] 107)).alloc (.cells #[.slice none 0 0] 22)).alloc (.cells #[.bool true] 4)).alloc (.cells #[.func (.func 108) #[] #[.pointer (some ⟨w.heap.size, 0, none⟩), .pointer (some ⟨w.heap.size + 1, 0, none⟩), .pointer (some ⟨w1.heap.size + 1, 0, none⟩), .pointer (some ⟨w1.heap.size + 1 + 1, 0, none⟩), .pointer (some ⟨w1.heap.size, 0, none⟩), .pointer (some ⟨w1.heap.size + 1 + 1 + 1, 0, none⟩)]] 109)) w M φ
      ⟨w.heap.size, w.heap.size + 1, w1.heap.size + 1, w1.heap.size + 1 + 1, w1.heap.size, w1.heap.size + 1 + 1 + 1, fm⟩ #[.int .i64 (n : Int), .slice A l.length c] (.func (.func g) #[] lb) (famOf l) none 0 0 [] true := by
    have e1 : ∀ (W : World) (o : Obj), (W.alloc o).heap.size = W.heap.size + 1 := fun W o => by simp
    refine ⟨blk_below HS1.out hb3, blk_below HD1.out hb3, ?_, ?_, ?_, ?_, blk_below HF1.out hb3, Kd.R_nil _ _ _ _ _, KB.of_below (below_step HB1.out hb3) _, ?_⟩
    · refine blk_alloc (blk_alloc ?_ _) _
      have := blk_new (w1.alloc (.cells #[.pointer (some ⟨fm, 0, none⟩)] 107)) (.cells #[.slice none 0 0] 22)
      rwa [e1] at this
    · refine blk_alloc ?_ _
      have := blk_new ((w1.alloc (.cells #[.pointer (some ⟨fm, 0, none⟩)] 107)).alloc (.cells #[.slice none 0 0] 22)) (.cells #[.bool true] 4)
      rwa [e1, e1] at this
    · exact blk_alloc (blk_alloc (blk_alloc (blk_new _ _) _) _) _
    · have := blk_new (((w1.alloc (.cells #[.pointer (some ⟨fm, 0, none⟩)] 107)).alloc (.cells #[.slice none 0 0] 22)).alloc (.cells #[.bool true] 4)) (.cells #[.func (.func 108) #[] #[.pointer (some ⟨w.heap.size, 0, none⟩), .pointer (some ⟨w.heap.size + 1, 0, none⟩), .pointer (some ⟨w1.heap.size + 1, 0, none⟩), .pointer (some ⟨w1.heap.size + 1 + 1, 0, none⟩), .pointer (some ⟨w1.heap.size, 0, none⟩), .pointer (some ⟨w1.heap.size + 1 + 1 + 1, 0, none⟩)]] 109)
      rwa [e1, e1, e1] at this
    · intro j hj
      have hge : w.heap.size ≤ j := by have := HG1.out; dsimp only at hj; omega
      exact ⟨fun hp => by have := HP.out j hp; omega, hge⟩
  refine (setOf_nil n A l c _ (Kd.C_below (Kd.C_below HR.out HB1.out) hb3) HV.out).mono ?_
  rintro e w3 ⟨rfl, hb⟩
  have HS3 := Aside0.mk (hS.below hb)
  have HB3 := Aside0.mk (below_step (below_step HB1.out hb3) hb)
  clear hS hb3 hb hc1_0 hc1_1 hz0 hz1 hz2 hz3 hz4
  have hbn := (blk_cell HS3.out.n 0).trans rfl
  have hnx := next_calls HFD.out n hn7 A l c HR.out HC.out HMS.out (famOf l) _ 8 0 [] [] φ w3 none 0 0 (by omega) (by decide) rfl (fun y hy => HOK.out y hy) HS3.out (HFD.out.stay _ _ _ _ _ HI.out (KB.of_below HB3.out (fun _ => False)) (fun _ hx => hx.elim)) (fun j hj => Nat.lt_of_lt_of_le (HP.out j hj) HB3.out.size)
  simp only [nextArgs] at hnx hbn
  have HNX := Aside0.mk hnx
  clear hnx
  go_wp2_with fail
  refine HNX.out.mono ?_
  rintro e w4 ⟨rfl, φ', A', k', c', hS4, hI4, hp1, hp2, hw, hkb⟩
  have HEND : ∃ φ', I (feed cont ([], true) (wordsFrom (famOf l) (2 ^ n - 1) 8 0)).1 φ' w4 ∧ (∀ j, φ' j → φ j ∨ w.heap.size ≤ j) ∧ (∀ j, φ' j → j < w4.heap.size) ∧ KB w w4 (fun j => φ j ∧ M j) := by
    have e0 : (wordsFrom (famOf l) (2 ^ n - 1) 8 0).map (([] : List Nat) ++ ·) = wordsFrom (famOf l) (2 ^ n - 1) 8 0 := by simp
    rw [e0] at hI4
    refine ⟨φ', hI4, fun j hj => ?_, hp2, hS4.kb.os, hS4.kb.tape, hS4.kb.output, hS4.kb.size, fun i hi hn => ?_⟩
    · rcases hp1 j hj with h1 | h1
      · exact .inl h1
      · exact .inr (Nat.le_trans HB3.out.size h1)
    · by_cases hM : M i
      · have hφ' : ¬ φ i := fun h => hn ⟨h, hM⟩
        have hz : w.heap.size < w1.heap.size := by have := blk_lt HS1.out; exact this
        rw [hkb.block i (Nat.lt_of_lt_of_le hi HB3.out.size) ?_, HB3.out.block i hi]
        rintro (h1 | h1 | h1 | h1)
        · exact hφ' h1
        · omega
        · omega
        · simp [Value.ownBlock] at h1
      · exact hS4.kb.block i hi hM
  have HE := Aside0.mk HEND
  clear HEND hS4 hI4 hp1 hp2 hw hkb
  go_wp2_with fail
  go_end0
  exact ⟨rfl, HE.out⟩
end
end Go.Proofs.Ytjhjphgdjhahlaa.P
/- impl's 'CountBest': how many full words have the best cost. -/
-- by Sp.of, Sp.words_ok, Sp.n1, Sp.lt128, Sp.greedy_word
namespace Go.Proofs.Ytjhjphgdjhahlaa.P
open Go.RowKit Go.Proofs.YtjhjphgdjhahlaaW.PrintWords Go.Proofs.YtjhjphgdjhahlaaW.PrintLast Go.Proofs.YtjhjphgdjhahlaaW.PrintMore
set_option linter.unusedVariables false
set_option maxHeartbeats 1600000
set_option maxRecDepth 100000

/-- how many of the words have a cost -/
def cntW (ts : List S54) (best : Int) (h : List (List Nat)) : Int := h.foldl (fun c x => if costW ts x = best then wrap64 (c + 1) else c) 0
theorem cntW_snoc (ts : List S54) (best : Int) (h : List (List Nat)) (x : List Nat) : cntW ts best (h ++ [x]) = if costW ts x = best then wrap64 (cntW ts best h + 1) else cntW ts best h := by
  unfold cntW; rw [List.foldl_append]; rfl
def CI (ts : List S54) (best : Int) (bn : Nat) (h : List (List Nat)) (φ : Nat → Prop) (W : World) : Prop := φ bn ∧ W.heap[bn]? = some (.cells #[.int .i64 (cntW ts best h)] 3 (0, 0))
theorem count_feeder (ts : List S54) (ht : ∀ x ∈ ts, taskB x) (hl : ts.length ≤ 7) (best : Int) (A : Option Addr) (c : Nat) (bt bb bn : Nat) (w0 : World) (hbn : bn < w0.heap.size) (h1 : bt ≠ bn) (h2 : bb ≠ bn)
    (hbt : w0.heap[bt]? = some (.cells #[.slice A ts.length c] 40 (0, 0))) (hbb : w0.heap[bb]? = some (.cells #[.int .i64 best] 3 (0, 0))) (hr : Kd.C k54 w0 A ts.length ts) (hc : ts.length ≤ c) (hne : ∀ ad, A = some ad → ad.block ≠ bn) :
    Feeder 64 #[.pointer (some ⟨bt, 0, none⟩), .pointer (some ⟨bb, 0, none⟩), .pointer (some ⟨bn, 0, none⟩)] (CI ts best bn) (fun _ => true) w0 (fun j => j = bn) (fun x => x ≠ [] ∧ x.length ≤ 7 ∧ ∀ i ∈ x, i < ts.length) where
  eg := enters_ (by rw [Try.func64]) (by decide) (by decide)
  stay := by
    rintro h φ W W' S ⟨h0, hb⟩ hk hS
    exact ⟨h0, blk_kb hb hk (fun hm => hS _ hm h0)⟩
  call := by
    rintro W h φ A1 c1 x hk ⟨h0, hb⟩ hφ hC hc1 hA ⟨hx1, hx2, hx3⟩
    obtain ⟨k, hk0⟩ := Ev.rounds (costOf_pure ts ht hl x hx3 (by omega) hx1)
    have HK := Aside0.mk hk0
    have HT := Aside0.mk (blk_kb hbt hk h1)
    have HBB := Aside0.mk (blk_kb hbb hk h2)
    have HB := Aside0.mk hb
    have HR := Aside0.mk (Kd.C_kbT hr hk hne)
    have HC := Aside0.mk hc
    have HX := Aside0.mk hC
    have HC1 := Aside0.mk hc1
    have H0 := Aside0.mk h0
    have HP := Aside0.mk hφ
    have hc0 : W.cell? ⟨bt, 0, none⟩ = some (.slice A ts.length c) := (blk_cell HT.out 0).trans rfl
    clear hk0 hbt hbb hb hr hk hne hc hC hc1 h0 hφ hA ht hx3
    show Calls _ _ #[.slice A1 (ints x).length c1, .pointer (some ⟨bt, 0, none⟩), .pointer (some ⟨bb, 0, none⟩), .pointer (some ⟨bn, 0, none⟩)] _ _
    go_enter Try.func64, Try.ntmps64
    go_wp2_with fail
    have hcb : W.cell? ⟨bb, 0, none⟩ = some (.int .i64 best) := (blk_cell HBB.out 0).trans rfl
    obtain ⟨cw, hcw⟩ : ∃ cw, costW ts x = cw := ⟨_, rfl⟩
    have HCW := Aside0.mk hcw
    rw [hcw] at HK
    clear hcw
    obtain ⟨b, hb⟩ : ∃ b, decide (cw = best) = b := ⟨_, rfl⟩
    have hbe : (cw == best) = b := by rw [← hb]; rfl
    have HBE := Aside0.mk hb
    obtain ⟨cn, hcn⟩ : ∃ cn, cntW ts best h = cn := ⟨_, rfl⟩
    have HCN := Aside0.mk hcn
    rw [hcn] at HB
    clear hb hcn
    go_region_with (go_at_call 65; refine (impl_costOf.calls k A c ts A1 c1 (ints x) cw _ (Kd.C_drew HR.out) HC.out (Kd.C_drew HX.out) HC1.out HK.out).mono ?_; rintro e w1 ⟨rfl, hb⟩; have hcb1 : w1.cell? ⟨bb, 0, none⟩ = some (.int .i64 best) := pw_cell_below hb hcb; have HBW := Aside0.mk hb; clear hb)
    all_goals
      have HN1 := Aside0.mk (blk_below (blk_drew HB.out) HBW.out)
      have HKB := Aside0.mk ((KB.drew (KB.refl W (fun j => φ j ∧ (j = bn ∨ w0.heap.size ≤ j)))).below HBW.out)
      have HP1 := Aside0.mk (fun j (hj : φ j) => Nat.lt_of_lt_of_le (HP.out j hj) HKB.out.size)
      have hcn1 : w1.cell? ⟨bn, 0, none⟩ = some (.int .i64 cn) := (blk_cell HN1.out 0).trans rfl
      have hfn1 := blk_frozen HN1.out 0
      cases b
      · go_wp2_with fail
        go_ret
        refine ⟨rfl, φ, ⟨H0.out, ?_⟩, HKB.out, fun j hj => .inl hj, HP1.out⟩
        rw [cntW_snoc, HCW.out, if_neg (by simpa using HBE.out), HCN.out]
        exact HN1.out
      · go_wp2_with fail
        go_ret
        refine ⟨rfl, φ, ⟨H0.out, ?_⟩, KB.setCell HKB.out (p := ⟨bn, 0, none⟩) (.inl ⟨H0.out, .inl rfl⟩) _, fun j hj => .inl hj, fun j hj => by have := HP1.out j hj; simpa [World.setCell] using this⟩
        rw [cntW_snoc, HCW.out, if_pos (by simpa using HBE.out), HCN.out]
        exact blk_put (cs := #[.int .i64 cn]) HN1.out 0 _ rfl
def bestW (l : List Int) (n : Nat) (ts : List S54) : Int := costW ts (greedyW (famOf l) (2 ^ n - 1) (costB ts) 8 0)
def countB (l : List Int) (n : Nat) (ts : List S54) : Int := cntW ts (bestW l n ts) (wordsFrom (famOf l) (2 ^ n - 1) 8 0)
def impl_CountBest.f (a0_0 : Int) (l0_1 : List Int) (l1 : List S54) : Option (Int × Bool) := if isSpB a0_0 l0_1 = true ∧ tasksOk l1 a0_0 = true then some (countB l0_1 a0_0.toNat l1, true) else some (0, false)
theorem countBest_no (a0 : Int) (l : List Int) (ts : List S54) (A : Option Addr) (c : Nat) (A1 : Option Addr) (c1 : Nat) (w : World) (hno : ¬ (isSpB a0 l = true ∧ tasksOk ts a0 = true)) (hr : Kd.C (Kd.int .i64) w A l.length l) (hc : l.length ≤ c) (hr1 : Kd.C k54 w A1 ts.length ts) (hc1 : ts.length ≤ c1) :
    Calls Try.prog 24 #[.agg #[.int .i64 a0, .slice A l.length c], .slice A1 ts.length c1] w fun e w' => e = .returned (.tuple #[.int .i64 0, .bool false]) ∧ Below w.heap.size w w' := by
  have hf : impl_BestCost.f 0 a0 l ts = some (0, false) := by
    unfold impl_BestCost.f impl_together.f impl_IsSpace.f impl_AreTasks.f
    simp only [Option.bind_some]
    cases h1 : isSpB a0 l with
    | false => simp
    | true =>
      cases h2 : tasksOk ts a0 with
      | false => simp
      | true => exact absurd ⟨h1, h2⟩ hno
  have hu := Try.underlying28
  have HF := Aside0.mk hf
  have HR := Aside0.mk hr
  have HC := Aside0.mk hc
  have HR1 := Aside0.mk hr1
  have HC1 := Aside0.mk hc1
  clear hno hf hr hc hr1 hc1
  go_enter Try.func24, Try.ntmps24
  go_wp2_with fail
  have hb2 : Below w.heap.size w ((w.alloc (.cells #[.int .i64 a0, .slice A l.length c] 28)).alloc (.cells #[.slice A1 ts.length c1] 40)) := below_alloc (below_alloc (Below.refl _ _) _) _
  refine (impl_BestCost.calls 0 a0 A c l A1 c1 ts 0 false _ (Kd.C_below HR.out hb2) HC.out (Kd.C_below HR1.out hb2) HC1.out HF.out).mono ?_
  rintro e w1 ⟨rfl, hb⟩
  have HB := Aside0.mk (below_step hb2 hb)
  clear hb hb2
  go_wp2_with fail
  go_ret2
  exact ⟨rfl, below_alloc HB.out _⟩
theorem countBest_yes (n : Nat) (l : List Int) (hsp : Sp n l) (hs : isSpB (n : Int) l = true) (ts : List S54) (hts : tasksOk ts (n : Int) = true) (A : Option Addr) (c : Nat) (A1 : Option Addr) (c1 : Nat) (w : World) (hr : Kd.C (Kd.int .i64) w A l.length l) (hc : l.length ≤ c) (hr1 : Kd.C k54 w A1 ts.length ts) (hc1 : ts.length ≤ c1) (hgl : greedyW (famOf l) (2 ^ n - 1) (costB ts) 8 0 ∈ wordsFrom (famOf l) (2 ^ n - 1) 8 0) :
    Calls Try.prog 24 #[.agg #[.int .i64 (n : Int), .slice A l.length c], .slice A1 ts.length c1] w fun e w' => e = .returned (.tuple #[.int .i64 (countB l n ts), .bool true]) ∧ Below w.heap.size w w' := by
  obtain ⟨h17, hln, ht⟩ := taskB_of hts
  have hln' : ts.length = n := by omega
  have hl7 : ts.length ≤ 7 := by omega
  have hf : Ev (fun k => impl_BestCost.f k (n : Int) l ts) (bestW l n ts, true) := by
    refine Ev.congr (fun k => impl_BestCost.f.eq_1 k _ _ _) ?_
    unfold impl_together.f impl_IsSpace.f impl_AreTasks.f impl_Space_best.f
    simp only [Option.bind_some, hs, hts, if_true]
    rw [if_pos (by simp), Int.toNat_natCast]
    obtain ⟨h1, h2⟩ := hsp.words_ok _ hgl
    simp only [Option.bind_some]
    exact Ev.bind (costOf_pure ts ht hl7 _ (fun i hi => by rw [hln']; exact h2 i hi) (by omega) (fun e => by rw [e] at h1; have := hsp.n1; simp at h1; omega)) (Ev.now _)
  obtain ⟨k, hk⟩ := Ev.rounds hf
  have hu := Try.underlying28
  have HF := Aside0.mk hk
  have HSP := Aside0.mk hsp
  have HR := Aside0.mk hr
  have HC := Aside0.mk hc
  have HR1 := Aside0.mk hr1
  have HC1 := Aside0.mk hc1
  have HT := Aside0.mk ht
  have HL7 := Aside0.mk hl7
  have HLN := Aside0.mk hln'
  have hne1 : ts ≠ [] := fun e => by rw [e] at hln'; have := hsp.n1; simp at hln'; omega
  have hA1 : ∀ ad, A1 = some ad → ad.block < w.heap.size := by
    intro ad e
    obtain ⟨ad', e1, hx, _⟩ := at_T54 hr1 0 (by omega) (by have := hsp.n1; omega)
    rw [e] at e1; injection e1 with e1; subst e1
    have h8 := World.block_lt_of_cell? w _ hx
    have e8 : (ad.add ((0 : Int).toNat * 3)).block = ad.block := by unfold Addr.add; split <;> rfl
    rwa [e8] at h8
  have hA : ∀ ad, A = some ad → ad.block < w.heap.size := by
    intro ad e
    obtain ⟨ad', e1, hx⟩ := int_at hr 0 (List.length_pos_iff.2 hsp.ne)
    rw [e] at e1; injection e1 with e1; subst e1
    have h8 := World.block_lt_of_cell? w _ hx
    have e8 : (ad.add 0).block = ad.block := by unfold Addr.add; split <;> rfl
    rwa [e8] at h8
  have HA1 := Aside0.mk hA1
  have HA := Aside0.mk hA
  unfold countB
  obtain ⟨bw, hbw⟩ : ∃ bw, bestW l n ts = bw := ⟨_, rfl⟩
  rw [hbw] at HF ⊢
  clear hf hk hsp hr hc hr1 hc1 ht hl7 hln hln' h17 hs hts hgl hne1 hA1 hA hbw
  go_enter Try.func24, Try.ntmps24
  go_wp2_with fail
  have hb2 : Below w.heap.size w ((w.alloc (.cells #[.int .i64 (n : Int), .slice A l.length c] 28)).alloc (.cells #[.slice A1 ts.length c1] 40)) := below_alloc (below_alloc (Below.refl _ _) _) _
  refine (impl_BestCost.calls k (n : Int) A c l A1 c1 ts bw true _ (Kd.C_below HR.out hb2) HC.out (Kd.C_below HR1.out hb2) HC1.out HF.out).mono ?_
  rintro e w1 ⟨rfl, hb⟩
  have HB := Aside0.mk (below_step hb2 hb)
  have HS := Aside0.mk (blk_below (blk_alloc (blk_new w (.cells #[.int .i64 (n : Int), .slice A l.length c] 28)) (.cells #[.slice A1 ts.length c1] 40)) hb)
  have hbx : ((w.alloc (.cells #[.int .i64 (n : Int), .slice A l.length c] 28)).alloc (.cells #[.slice A1 ts.length c1] 40)).heap[w.heap.size + 1]? = some (.cells #[.slice A1 ts.length c1] 40 (0, 0)) := by
    have := blk_new (w.alloc (.cells #[.int .i64 (n : Int), .slice A l.length c] 28)) (.cells #[.slice A1 ts.length c1] 40)
    simpa using this
  have HT1 := Aside0.mk (blk_below hbx hb)
  have hc0 : w1.cell? ⟨w.heap.size, 0, none⟩ = some (.int .i64 (n : Int)) := (blk_cell HS.out 0).trans rfl
  have hc1 : w1.cell? ⟨w.heap.size, 1, none⟩ = some (.slice A l.length c) := (blk_cell HS.out 1).trans rfl
  have hz0 : w.heap.size < w1.heap.size := blk_lt HS.out
  clear hb hb2 hbx
  go_wp2_with fail
  have hb3 : Below w1.heap.size w1 ((w1.alloc (.cells #[.int .i64 bw] 3)).alloc (.cells #[.int .i64 0] 3)) := below_alloc (below_alloc (Below.refl _ _) _) _
  have hbn : ((w1.alloc (.cells #[.int .i64 bw] 3)).alloc (.cells #[.int .i64 0] 3)).heap[w1.heap.size + 1]? = some (.cells #[.int .i64 0] 3 (0, 0)) := by
    have := blk_new (w1.alloc (.cells #[.int .i64 bw] 3)) (.cells #[.int .i64 0] 3)
    simpa using this
  have hbb : ((w1.alloc (.cells #[.int .i64 bw] 3)).alloc (.cells #[.int .i64 0] 3)).heap[w1.heap.size]? = some (.cells #[.int .i64 bw] 3 (0, 0)) := blk_alloc (blk_new _ _) _
  have hz1 : w.heap.size + 1 < w1.heap.size := blk_lt HT1.out
  have hlt : w1.heap.size + 1 < ((w1.alloc (.cells #[.int .i64 bw] 3)).alloc (.cells #[.int .i64 0] 3)).heap.size := blk_lt hbn
  have hw := words_calls (count_feeder ts HT.out HL7.out bw A1 c1 (w.heap.size + 1) w1.heap.size (w1.heap.size + 1) _ hlt (by omega) (by omega) (blk_below HT1.out hb3) hbb (Kd.C_below (Kd.C_below HR1.out HB.out) hb3) HC1.out (fun ad e => by have := HA1.out ad e; omega))
    n HSP.out.n7 A l c (Kd.C_below (Kd.C_below HR.out HB.out) hb3) HC.out HSP.out.lt128 (fun ad e hm => by have := HA.out ad e; omega) (φ := fun j => j = w1.heap.size + 1) ⟨rfl, hbn⟩ (fun j hj => by rw [hj]; exact hlt)
    (fun y hy => by
      obtain ⟨h1, h2⟩ := HSP.out.words_ok y hy
      have h3 := HSP.out.n1
      have h7 := HSP.out.n7
      exact ⟨fun e => by rw [e] at h1; simp at h1; omega, by omega, fun i hi => by rw [HLN.out]; exact h2 i hi⟩)
  rw [feed_all _ (fun _ => rfl), List.nil_append] at hw
  refine hw.mono ?_
  rintro e w4 ⟨rfl, φ', ⟨-, hI⟩, -, -, hkb⟩
  have HE := Aside0.mk (show Below w.heap.size w w4 from ((KB.of_below (below_step HB.out hb3) (fun j => j = w1.heap.size + 1)).then_ hkb (fun j _ hj => hj.2)).to_below (fun j hj he => by omega))
  have hcn : w4.cell? ⟨w1.heap.size + 1, 0, none⟩ = some (.int .i64 (cntW ts bw (wordsFrom (famOf l) (2 ^ n - 1) 8 0))) := (blk_cell hI 0).trans rfl
  clear hw hI hkb hb3 hbn hbb hz1 hlt hc0 hc1 hz0
  go_wp2_with fail
  go_ret2
  exact ⟨rfl, HE.out⟩
theorem impl_CountBest.calls (a0_0 : Int) (A0_1 : Option Addr) (c0_1 : Nat) (l0_1 : List Int) (A1 : Option Addr) (c1 : Nat) (l1 : List S54) (r1 : Int) (r2 : Bool) (w : World) (hr0_1 : Kd.C (Kd.int .i64) w A0_1 l0_1.length l0_1) (hc0_1 : l0_1.length ≤ c0_1) (hr1 : Kd.C k54 w A1 l1.length l1) (hc1 : l1.length ≤ c1) (h : impl_CountBest.f a0_0 l0_1 l1 = some (r1, r2)) :
    Calls Try.prog 24 #[.agg #[.int .i64 a0_0, .slice A0_1 l0_1.length c0_1], .slice A1 l1.length c1] w fun e w' => e = .returned (.tuple #[.int .i64 r1, .bool r2]) ∧ Below w.heap.size w w' := by
  unfold impl_CountBest.f at h
  split at h
  · rename_i hc
    obtain ⟨n, rfl, hs⟩ := Sp.of hc.1
    simp only [Option.some.injEq, Prod.mk.injEq, Int.toNat_natCast] at h
    obtain ⟨rfl, rfl⟩ := h
    exact countBest_yes n l0_1 hs hc.1 l1 hc.2 A0_1 c0_1 A1 c1 w hr0_1 hc0_1 hr1 hc1 (hs.greedy_word _)
  · rename_i hc
    simp only [Option.some.injEq, Prod.mk.injEq] at h
    obtain ⟨rfl, rfl⟩ := h
    exact countBest_no a0_0 l0_1 l1 A0_1 c0_1 A1 c1 w hc hr0_1 hc0_1 hr1 hc1
end Go.Proofs.Ytjhjphgdjhahlaa.P
