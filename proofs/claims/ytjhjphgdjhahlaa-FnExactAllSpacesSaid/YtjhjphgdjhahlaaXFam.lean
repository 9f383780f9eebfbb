/- Families in memory: an array of 128 Bools in a block of its own; impl's 'family' makes the family of a space. -/
import Derived.Test.YtjhjphgdjhahlaaQ0
import Derived.Test.YtjhjphgdjhahlaaXCore
namespace Go.Proofs.Ytjhjphgdjhahlaa.P
open Go.RowKit Go.Proofs.YtjhjphgdjhahlaaW.PrintWords Go.Proofs.YtjhjphgdjhahlaaW.PrintLast Go.Proofs.YtjhjphgdjhahlaaW.PrintMore
set_option linter.unusedVariables false

def famCells (F : Nat → Bool) : Array Value := ((List.range 128).map fun i => Value.bool (F i)).toArray
theorem famCells_size (F : Nat → Bool) : (famCells F).size = 128 := by simp [famCells]
theorem famCells_get (F : Nat → Bool) (i : Nat) (h : i < 128) : (famCells F)[i]? = some (.bool (F i)) := by
  simp [famCells, h]
theorem famCells_set (F : Nat → Bool) (i : Nat) (b : Bool) : (famCells F).setIfInBounds i (.bool b) = famCells (upd F i b) := by
  apply Array.ext
  · simp [famCells]
  · intro j h1 h2
    simp [famCells, upd]
    have := h1; simp [famCells] at this
    by_cases e : i = j <;> simp [e, eq_comm]

/-- Block g holds the family F. -/
def FamAt (w : World) (g : Nat) (F : Nat → Bool) : Prop := w.heap[g]? = some (.cells (famCells F) 120 (0, 0))
theorem zero_fam : Try.zeroCells120 = famCells (fun _ => false) := by kernel_rfl
theorem FamAt.lt {w : World} {g : Nat} {F : Nat → Bool} (h : FamAt w g F) : g < w.heap.size := (Array.getElem?_eq_some_iff.1 h).1
theorem FamAt.cell {w : World} {g : Nat} {F : Nat → Bool} (h : FamAt w g F) (i : Nat) (hi : i < 128) : w.cell? ⟨g, i, none⟩ = some (.bool (F i)) := (blk_cell h i).trans (famCells_get F i hi)
theorem FamAt.frozen {w : World} {g : Nat} {F : Nat → Bool} (h : FamAt w g F) (i : Nat) : w.frozen? ⟨g, i, none⟩ = false := blk_frozen h i
theorem FamAt.set {w : World} {g : Nat} {F : Nat → Bool} (h : FamAt w g F) (i : Nat) (b : Bool) : FamAt (w.setCell ⟨g, i, none⟩ (.bool b)) g (upd F i b) := by
  unfold FamAt; rw [← famCells_set]; exact blk_set h i _
theorem FamAt.far {w : World} {g : Nat} {F : Nat → Bool} (h : FamAt w g F) {p : Addr} (hne : g ≠ p.block) (u : Value) : FamAt (w.setCell p u) g F := blk_far h hne u
theorem FamAt.below {w w1 : World} {g : Nat} {F : Nat → Bool} (h : FamAt w g F) (hb : Below w.heap.size w w1) : FamAt w1 g F := blk_below h hb
theorem FamAt.alloc {w : World} {g : Nat} {F : Nat → Bool} (h : FamAt w g F) (o : Obj) : FamAt (w.alloc o) g F := blk_alloc h o
theorem FamAt.drewN {w : World} {g : Nat} {F : Nat → Bool} (h : FamAt w g F) (n : Nat) : FamAt (w.drewN n) g F := blk_drewN h n
theorem FamAt.drew {w : World} {g : Nat} {F : Nat → Bool} (h : FamAt w g F) : FamAt w.drew g F := blk_drew h
theorem FamAt.new (w : World) : FamAt (w.alloc (.cells Try.zeroCells120 120)) w.heap.size (fun _ => false) := by
  unfold FamAt; rw [← zero_fam]; exact heap_alloc_new w _
theorem FamAt.ext {w : World} {g : Nat} {F G : Nat → Bool} (h : FamAt w g F) (e : ∀ i, i < 128 → F i = G i) : FamAt w g G := by
  have : famCells F = famCells G := by
    simp only [famCells]; congr 1; apply List.map_congr_left; intro i hi; rw [e i (by simpa using hi)]
  unfold FamAt; rw [← this]; exact h

/-- The integers of a list that is read lie where the list is. -/
theorem int_at {w : World} {A : Option Addr} {n : Nat} {l : List Int} (h : Kd.C (Kd.int .i64) w A n l) (i : Nat) (hi : i < n) : ∃ ad, A = some ad ∧ w.cell? (ad.add i) = some (.int .i64 (l[i]?.getD 0)) := by
  obtain ⟨ad, e1, hx⟩ := Kd.at_int h (i : Int) (by omega) (by omega)
  refine ⟨ad, e1, ?_⟩
  simpa [rd] using hx

set_option maxHeartbeats 800000
set_option maxRecDepth 100000
theorem family_calls (n : Int) (A : Option Addr) (l : List Int) (c : Nat) (w : World) (hr : Kd.C (Kd.int .i64) w A l.length l) (hv : ∀ x ∈ l, 0 ≤ x ∧ x < 128) :
    Calls Try.prog 106 #[.agg #[.int .i64 n, .slice A l.length c]] w fun e w' => ∃ g, e = .returned (.pointer (some ⟨g, 0, none⟩)) ∧ FamAt w' g (famOf l) ∧ Below w.heap.size w w' ∧ w.heap.size ≤ g := by
  have hu := Try.underlying28
  have HR := Aside0.mk hr
  clear hr
  have HV := Aside0.mk hv
  clear hv
  have HL := Aside0.mk (HR.out.2.1)
  go_enter Try.func106, Try.ntmps106
  go_wp2_with fail
  go_loopg [11] l.length (fun kq v11 w' => ∃ i : Nat, v11 = .int .i64 i ∧ i ≤ l.length ∧ Aside0 (kq = l.length - i) ∧ Aside0 (FamAt w' (w.heap.size + 1) (famOf (l.take i))) ∧ Aside0 (Below w.heap.size w w'))
  case atStart =>
    refine ⟨0, rfl, Nat.zero_le _, ⟨by omega⟩, ⟨?_⟩, ⟨?_⟩⟩
    · have := FamAt.new (w.alloc (.cells #[Value.int .i64 n, .slice A l.length c] 28))
      simpa using this.ext (fun i _ => by simp [famOf])
    · exact below_alloc (below_alloc (Below.refl _ _) _) _
  case round =>
    obtain ⟨i, rfl, hi, HK, HF, HB⟩ := hrel
    by_cases hlt : i < l.length
    · have hlen := HL.out
      have p1 : (0:Int) ≤ (i : Int) := by omega
      have q1 : (i : Int) < (l.length : Int) := by omega
      obtain ⟨ad, e1, hx⟩ := Kd.at_int HR.out (i : Int) p1 q1
      cases e1
      replace hx := (HB.out.cell (World.block_lt_of_cell? w _ hx)).trans hx
      have hm := HV.out (rd l i) (by unfold rd; simp [hlt])
      obtain ⟨m, hm1⟩ := Int.eq_ofNat_of_zero_le hm.1
      rw [hm1] at hx hm
      have hm2 : (m : Int) < 128 := hm.2
      clear hm
      simp only [Int.toNat_natCast] at hx
      have hc' := HF.out.cell m (by omega)
      have hf' := HF.out.frozen m
      have HM1 := Aside0.mk hm1
      clear hm1
      go_wp2
      go_roundg (l.length - (i + 1))
      case measure => have := HK.out; omega
      case rel =>
        refine ⟨i + 1, by go_num, by omega, ⟨rfl⟩, ⟨?_⟩, ⟨below_set HB.out (by omega)⟩⟩
        refine (HF.out.set m true).ext (fun j _ => ?_)
        have hh := famOf_snoc l i hlt (by have := HM1.out; unfold rd at this; simp [hlt] at this; omega) j
        have e2 : l[i].toNat = m := by have := HM1.out; unfold rd at this; simp [hlt] at this; omega
        rw [e2] at hh; exact hh
    · obtain rfl : i = l.length := by omega
      go_wp2
      go_ret
      refine ⟨w.heap.size + 1, rfl, ?_, HB.out, by omega⟩
      have := HF.out; rw [List.take_length] at this; exact this
end Go.Proofs.Ytjhjphgdjhahlaa.P
