/- slices.SortFunc of a row of spaces by impl's 'compare': the row is sorted, and still no two of its spaces lead to one block. -/
import Derived.Test.YtjhjphgdjhahlaaQ0
import Derived.Test.YtjhjphgdjhahlaaXCmp
import Derived.Test.YtjhjphgdjhahlaaXCore
import Derived.Test.YtjhjphgdjhahlaaXKb
import Derived.Test.YtjhjphgdjhahlaaXSortLay
import Derived.Shelf.SlSortCmp.WholeK
namespace Go.Proofs.Ytjhjphgdjhahlaa.P
open Go.Shelf Go.RowKit Go.Sort Go.Proofs.YtjhjphgdjhahlaaW.PrintWords Go.Proofs.YtjhjphgdjhahlaaW.PrintLast Go.Proofs.YtjhjphgdjhahlaaW.PrintMore
set_option linter.unusedVariables false
set_option maxHeartbeats 800000

section
variable {α : Type} [Inhabited α] (enc : α → List Value) (k : Nat) (w : World) (g m : Nat) (dk : Array α) (os : Array Obj)
theorem sw_heap {j : Nat} (hj : j < w.heap.size) (hne : j ≠ g) : (sortWorldK enc k w g 0 m dk os).heap[j]? = w.heap[j]? := by
  unfold sortWorldK
  rw [heap_grow_old _ _ (by rw [size_putRowK]; exact hj)]
  unfold putRowK putRow mapBlock
  simp only [Array.getElem?_modify]
  rw [if_neg (fun h => hne h.symm)]
  rfl
theorem sw_row {cur : Array Value} {t : Nat} {fz : Nat × Nat} (h : w.heap[g]? = some (.cells cur t fz)) : (sortWorldK enc k w g 0 m dk os).heap[g]? = some (.cells (putCells id 0 (flatK enc k dk) cur) t fz) := by
  have hg : g < w.heap.size := (Array.getElem?_eq_some_iff.1 h).1
  unfold sortWorldK
  rw [heap_grow_old _ _ (by rw [size_putRowK]; exact hg)]
  unfold putRowK putRow mapBlock
  simp only [Array.getElem?_modify]
  have : (Go.Sort.ahead w m).heap = w.heap := rfl
  rw [this, h]; simp [onCells]
theorem sw_kb : KB w (sortWorldK enc k w g 0 m dk os) (fun j => j = g) :=
  ⟨rfl, rfl, rfl, size_sortWorldK_c enc k w g 0 m dk os, fun j hj hne => sw_heap enc k w g m dk os hj hne⟩
end

theorem sort_calls (W : World) (base : Nat) (v : Value) (xs : List S28) (hS : Kd.S k28 28 W base (fun _ => True) v xs) (hne : xs ≠ []) (hl : ∀ x ∈ xs, x.f1.length < 4611686018427387904) (hn : xs.length < 4611686018427387904) :
    Calls Try.prog 125 #[v, .func (.func 52) #[] #[]] W fun e w' => e = .returned (.tuple #[]) ∧ ∃ ys, Kd.S k28 28 w' base (fun _ => True) v ys ∧ ys.Perm xs ∧ ys.Pairwise (fun a b => cmpL a.f1 b.f1 ≤ 0) ∧ KB W w' (fun j => base ≤ j) := by
  obtain ⟨f, h0, inner, ho, hr⟩ := hS
  rw [List.length_zipIdx] at ho
  have hpos : 0 < xs.length := List.length_pos_iff.2 hne
  have hsz : (Kd.tag f k28).sz = 2 := rfl
  rw [hsz] at ho hr
  obtain ⟨hin, hov⟩ := ho
  rcases hov with ⟨_, h00⟩ | ⟨g, cap, cur, rfl, hbg, hg, hnc, hcm, hcs, hct⟩
  · omega
  have hglt : g < W.heap.size := blk_lt hg
  obtain ⟨hrl, hre⟩ := hr
  -- the elements: their places
  letI inh : Inhabited (Fin xs.length) := ⟨⟨0, hpos⟩⟩
  let enc : Fin xs.length → List Value := fun i => (inner.drop (i.1 * 2)).take 2
  have hk : ∀ i, (enc i).length = 2 := fun i => by
    have := i.2
    simp only [enc, List.length_take, List.length_drop, hin]; omega
  have hM : ∀ i : Fin xs.length, ∃ v1, enc i = [.int .i64 xs[i].f0, v1] ∧ Kd.R (Kd.int .i64) 3 W base (fun j => (True ∧ some j ≠ (Value.slice (some ⟨g, 0, none⟩) xs.length cap).ownBlock) ∧ f j = i.1) v1 xs[i].f1 := fun i => by
    have hz : xs.zipIdx[i.1]? = some (xs[i], i.1) := Kd.zip_at (by simp)
    exact k28_openM (hre i.1 _ hz)
  have h1 : ∀ i, ∀ u ∈ enc i, u.oneCell' = true := fun i u hu => by
    have hz : xs.zipIdx[i.1]? = some (xs[i], i.1) := Kd.zip_at (by simp)
    exact k28.K_one (k28.K_of_M (hre i.1 _ hz)) u hu
  let cf : Fin xs.length → Fin xs.length → Int := fun i j => cmpL xs[i].f1 xs[j].f1
  have hO : SWO (ltOf cf) := {
    irrefl := fun x => by simp [ltOf, cf, cmpL_self]
    trans := fun x y z h h' => by
      simp only [ltOf, cf, decide_eq_true_eq] at *
      have := cmpL_trans xs[x].f1 xs[y].f1 xs[z].f1 (by omega) (by omega)
      have h2 := this.1
      rcases Int.lt_or_eq_of_le h2 with h3 | h3
      · exact h3
      · have := (this.2 h3).1; omega
    ntrans := fun x y z h h' => by
      simp only [ltOf, cf, decide_eq_false_iff_not] at *
      have e1 := cmpL_neg xs[x].f1 xs[y].f1
      have e2 := cmpL_neg xs[y].f1 xs[z].f1
      have e3 := cmpL_neg xs[x].f1 xs[z].f1
      have := (cmpL_trans xs[z].f1 xs[y].f1 xs[x].f1 (by omega) (by omega)).1
      omega }
  let d : Array (Fin xs.length) := (List.finRange xs.length).toArray
  have hds : d.size = xs.length := by simp [d]
  have hdg : ∀ j (h : j < xs.length), d[j]! = ⟨j, h⟩ := fun j h => by
    rw [getElem!_pos d j (by rw [hds]; exact h)]; simp [d]
  have hinn : ∀ j, j < xs.length * 2 → (enc d[j / 2]!)[j % 2]! = inner[j]! := fun j hj => by
    rw [hdg (j / 2) (by omega)]
    simp only [enc]
    rw [List.getElem!_eq_getElem?_getD, List.getElem!_eq_getElem?_getD, List.getElem?_take_of_lt (by omega), List.getElem?_drop]
    congr 2; omega
  have hH : HoldsK enc 2 W g 0 d := fun j hj => by
    rw [size_flatK, hds] at hj
    refine ⟨?_, blk_frozen hg _⟩
    rw [blk_cell hg, get_flatK _ _ _ _ (by rw [hds]; exact hj), hinn j hj, Nat.zero_add]
    have hjc : j < cur.size := by rw [hcs]; have := Nat.mul_le_mul_right 2 hnc; omega
    rw [List.getElem!_eq_getElem?_getD, ← hct, List.getElem?_take_of_lt hj, Array.getElem?_toList, Array.getElem?_eq_getElem hjc]; rfl
  have eg : ∀ args w, (callFunc 52 args).run Try.prog w = .ok (.enter 52 args) w := enters_of Try.func52 (by kernel_rfl) rfl
  have hcmp : CmpLays Try.prog 52 #[] enc 2 cf g 0 d.size W := by
    intro m os dk hdk x y
    obtain ⟨vx, ex, hx⟩ := hM x
    obtain ⟨vy, ey, hy⟩ := hM y
    have mv : ∀ (i : Fin xs.length) (u : Value), Kd.R (Kd.int .i64) 3 W base (fun j => (True ∧ some j ≠ (Value.slice (some ⟨g, 0, none⟩) xs.length cap).ownBlock) ∧ f j = i.1) u xs[i].f1 → Kd.R (Kd.int .i64) 3 (sortWorldK enc 2 W g 0 m dk os) base (fun _ => True) u xs[i].f1 := fun i u hu =>
      Kd.R_mono (R_kb hu (sw_kb enc 2 W g m dk os) (fun j hj he => hj.1.2 (by simp [Value.ownBlock, he]))) (fun _ _ => trivial)
    have hx' := mv x vx hx
    have hy' := mv y vy hy
    obtain ⟨Ax, cx, rfl⟩ := Kd.R_slice hx'
    obtain ⟨Ay, cy, rfl⟩ := Kd.R_slice hy'
    obtain ⟨_, hx2, hx3⟩ := Kd.R_reads' hx'
    obtain ⟨_, hy2, hy3⟩ := Kd.R_reads' hy'
    rw [ex, ey]
    exact compare_calls xs[x].f0 xs[y].f0 Ax cx xs[x].f1 Ay cy xs[y].f1 _ hx3 hx2 hy3 hy2 (hl _ (List.getElem_mem _))
  have hcon := AnyQ.slices_SortFunc sortSp 2 Try.isAgg28 Try.sizeOf28 enc hk h1 cf hO 52 #[] g 0 cap d W eg hcmp hH hglt (by rw [hds]; exact hn)
  change Calls Try.prog 125 _ _ _ at hcon
  rw [hds] at hcon
  refine hcon.mono ?_
  rintro e w' ⟨rfl, d', m, os, hp, hso, rfl⟩
  obtain ⟨hp1, _, hp2⟩ := hp
  rw [hds] at hp1
  have ex : ∀ (a : Array (Fin xs.length)) (n : Nat), a.size = n → a.extract 0 n = a := fun a n h => by subst h; exact Array.extract_size
  have e1 := ex d' xs.length hp1
  have e2 := ex d xs.length hds
  rw [e1, e2] at hp2
  have hp3 : d'.toList.Perm (List.finRange xs.length) := by simpa [d] using hp2
  have hnd : (d'.toList.map Fin.val).Nodup := by
    have : (d'.toList.map Fin.val).Perm ((List.finRange xs.length).map Fin.val) := hp3.map _
    refine this.nodup_iff.2 ?_
    have : (List.finRange xs.length).map Fin.val = List.range xs.length := by
      apply List.ext_getElem <;> simp
    rw [this]; exact List.nodup_range
  have hdl : d'.toList.length = xs.length := by simpa using hp1
  refine ⟨rfl, d'.toList.map (fun i => xs[i]), ?_, ?_, ?_, (sw_kb enc 2 W g m d' os).mono (fun j _ hj => by subst hj; exact hbg)⟩
  · refine ⟨fun j => (d'.toList.map Fin.val).idxOf (f j), fun _ _ => trivial, (flatK enc 2 d').toList, ?_, ?_⟩
    · change World.ownsRow _ base 28 2 _ _ _
      rw [List.length_zipIdx, List.length_map, hdl]
      refine ⟨by simp [hp1], .inr ⟨g, cap, _, rfl, hbg, sw_row enc 2 W g m d' os hg, hnc, hcm, by simp [putCells, hcs], ?_⟩⟩
      apply List.ext_getElem?
      intro j
      by_cases hj : j < xs.length * 2
      · have hjc : j < cur.size := by rw [hcs]; have := Nat.mul_le_mul_right 2 hnc; omega
        have hjf : j < (flatK enc 2 d').size := by rw [size_flatK, hp1]; exact hj
        rw [List.getElem?_take_of_lt hj, Array.getElem?_toList, Array.getElem?_toList, Array.getElem?_eq_getElem hjf]
        simp only [putCells, Array.getElem?_mapIdx, Array.getElem?_eq_getElem hjc, Option.map_some]
        rw [if_pos ⟨Nat.zero_le _, by omega⟩, Nat.sub_zero, getElem!_pos _ j hjf]; rfl
      · rw [List.getElem?_eq_none (by simp; omega), List.getElem?_eq_none (by simp [hp1]; omega)]
    · change Reps _ 2 _ _
      refine ⟨by simp [hp1], fun p q hq => ?_⟩
      have hpl : p < xs.length := by have := (List.getElem?_eq_some_iff.1 hq).1; simpa [hp1] using this
      have hpd : p < d'.size := by rw [hp1]; exact hpl
      rw [List.getElem?_zipIdx, List.getElem?_map, Array.getElem?_toList, Array.getElem?_eq_getElem hpd] at hq
      simp only [Option.map_some, Nat.zero_add, Option.some.injEq] at hq
      subst hq
      have hch : ((flatK enc 2 d').toList.drop (p * 2)).take 2 = enc d'[p] := by
        apply List.ext_getElem?
        intro j
        by_cases hj : j < 2
        · have hjf : p * 2 + j < (flatK enc 2 d').size := by rw [size_flatK, hp1]; omega
          rw [List.getElem?_take_of_lt hj, List.getElem?_drop, Array.getElem?_toList, Array.getElem?_eq_getElem hjf, ← getElem!_pos (flatK enc 2 d') (p * 2 + j) hjf, get_flatK _ _ _ _ (by rw [hp1]; omega), show (p * 2 + j) / 2 = p by omega, show (p * 2 + j) % 2 = j by omega, getElem!_pos d' p hpd]
          rw [List.getElem!_eq_getElem?_getD, List.getElem?_eq_getElem (by rw [hk]; exact hj)]; rfl
        · rw [List.getElem?_eq_none (by simp; omega), List.getElem?_eq_none (by rw [hk]; omega)]
      show k28.M _ base _ xs[d'[p]] _
      rw [hch]
      have hz : xs.zipIdx[(d'[p]).1]? = some (xs[d'[p]], (d'[p]).1) := Kd.zip_at (by simp)
      have hm : k28.M W base _ xs[d'[p]] (enc d'[p]) := hre (d'[p]).1 _ hz
      refine k28.M_mono ?_ (Kd.M_step (w1 := sortWorldK enc 2 W g 0 m d' os) hm (fun j hj hjl => sw_heap enc 2 W g m d' os hjl (fun he => hj.1.2 (by simp [Value.ownBlock, he]))))
      rintro j ⟨hj1, hj2⟩
      refine ⟨hj1, ?_⟩
      show (d'.toList.map Fin.val).idxOf (f j) = p
      have : f j = (d'[p]).1 := hj2
      rw [this]
      have hpp : p < (d'.toList.map Fin.val).length := by simp [hp1, hpl]
      have hg2 : (d'.toList.map Fin.val)[p] = (d'[p]).1 := by simp
      rw [← hg2]
      exact hnd.idxOf_getElem p hpp
  · have := hp3.map (fun i => xs[i])
    refine this.trans ?_
    have e : (List.finRange xs.length).map (fun i => xs[i]) = xs := by apply List.ext_getElem <;> simp
    rw [e]
  · rw [List.pairwise_map, List.pairwise_iff_getElem]
    intro i j hi hj hij
    have := hso i j (Nat.zero_le _) hij (by rw [← hdl]; exact hj)
    have hi' : i < d'.size := by simpa using hi
    have hj' : j < d'.size := by simpa using hj
    rw [getElem!_pos d' i hi', getElem!_pos d' j hj'] at this
    simp only [ltOf, cf, decide_eq_false_iff_not] at this
    have e3 := cmpL_neg xs[d'[j]].f1 xs[d'[i]].f1
    simp only [Array.getElem_toList]
    omega
end Go.Proofs.Ytjhjphgdjhahlaa.P
