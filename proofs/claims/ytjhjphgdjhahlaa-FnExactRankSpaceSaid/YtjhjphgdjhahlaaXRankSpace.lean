/- impl's 'RankSpace': where a space stands among all of its size. -/
import Derived.Test.YtjhjphgdjhahlaaQ0
import Derived.Test.YtjhjphgdjhahlaaXCmp
import Derived.Test.YtjhjphgdjhahlaaXCore
import Derived.Test.YtjhjphgdjhahlaaXIndexLay
import Derived.Test.YtjhjphgdjhahlaaXIsSpace
import Derived.Test.YtjhjphgdjhahlaaXSpaces
import Derived.Shelf.SlicesQ.IndexFunc
namespace Go.Proofs.Ytjhjphgdjhahlaa.P
open Go.Shelf Go.RowKit Go.Proofs.YtjhjphgdjhahlaaW.PrintWords Go.Proofs.YtjhjphgdjhahlaaW.PrintLast Go.Proofs.YtjhjphgdjhahlaaW.PrintMore
set_option linter.unusedVariables false
set_option maxHeartbeats 800000
set_option maxRecDepth 100000

theorem idxByFrom_map {α β : Type} (f : α → β) (q : β → Bool) (x : α) (y : β) : ∀ (l : List α) (i : Nat), Lib.idxByFrom (fun _ a => q (f a)) x l i = Lib.idxByFrom (fun _ b => q b) y (l.map f) i
  | [], i => rfl
  | a :: l, i => by
    simp only [Lib.idxByFrom, List.map_cons]
    rw [idxByFrom_map f q x y l (i + 1)]
/-- where a list of sets stands among spaces -/
def rankI (xs : List S28) (l : List Int) : Int := Lib.idxBy (fun _ y => decide (y.f1 = l)) xs z28

theorem below_grow (w : World) (q : Nat) (os : Array Obj) : Below w.heap.size w (Go.Sort.grow (w.drewN q) os) := by
  refine ⟨rfl, rfl, rfl, ?_, fun i hi => ?_⟩
  · rw [Go.Sort.size_grow]; exact Nat.le_add_right _ _
  · exact Go.Sort.heap_grow_old (w.drewN q) os hi
/-- A space in a box is compared with another one. -/
theorem rank_pred (n m : Int) (A B : Option Addr) (c e : Nat) (l t : List Int) (g : Nat) (w : World) (hg : w.heap[g]? = some (.cells #[.int .i64 n, .slice A l.length c] 28 (0, 0))) (hl : Kd.C (Kd.int .i64) w A l.length l) (hc : l.length ≤ c) (ht : Kd.C (Kd.int .i64) w B t.length t) (he : t.length ≤ e) (hn : l.length < 4611686018427387904) :
    Calls Try.prog 91 #[.agg #[.int .i64 m, .slice B t.length e], .pointer (some ⟨g, 0, none⟩)] w fun r w' => r = .returned (.bool (decide (t = l))) ∧ Below w.heap.size w w' := by
  have hu := Try.underlying28
  have hg1 := blk_alloc hg (.cells #[Value.int .i64 m, .slice B t.length e] 28)
  have hc0 : (w.alloc (.cells #[Value.int .i64 m, .slice B t.length e] 28)).cell? ⟨g, 0, none⟩ = some (.int .i64 n) := (blk_cell hg1 0).trans rfl
  have hc1 : (w.alloc (.cells #[Value.int .i64 m, .slice B t.length e] 28)).cell? ⟨g, 1, none⟩ = some (.slice A l.length c) := (blk_cell hg1 1).trans rfl
  clear hg1
  have HL := Aside0.mk hl
  have HT := Aside0.mk ht
  have HC := Aside0.mk hc
  have HE := Aside0.mk he
  have HN := Aside0.mk hn
  clear hg hl ht hc he hn
  have key : (cmpL l t == 0) = decide (t = l) := by
    rw [Bool.eq_iff_iff]; simp only [beq_iff_eq, decide_eq_true_eq]; rw [cmpL_zero]; exact eq_comm
  obtain ⟨r, hr⟩ : ∃ r, cmpL l t = r := ⟨_, rfl⟩
  have HR := Aside0.mk hr
  rw [hr] at key
  rw [← key]
  clear hr key
  go_enter Try.func91, Try.ntmps91
  go_wp2_with fail
  refine (compare_calls n m A c l B e t _ (Kd.C_below HL.out (below_alloc (Below.refl _ _) _)) HC.out (Kd.C_below HT.out (below_alloc (Below.refl _ _) _)) HE.out HN.out).mono ?_
  rw [HR.out]
  rintro x w1 ⟨rfl, q, os, hw⟩
  have hb : Below w.heap.size w w1 := by
    rw [hw]
    exact below_then (below_alloc (Below.refl _ _) _) (by simp) (below_grow _ q os)
  have HB := Aside0.mk hb
  clear hb hw
  go_wp2_with fail
  go_ret
  exact ⟨rfl, HB.out⟩

theorem index_calls (W : World) (base : Nat) (ok : Nat → Prop) (v : Value) (xs : List S28) (hR : Kd.R k28 28 W base ok v xs) (hne : xs ≠ []) (hbig : xs.length ≤ 9223372036854775807) (n : Int) (A : Option Addr) (c : Nat) (l : List Int) (g : Nat) (hg : W.heap[g]? = some (.cells #[.int .i64 n, .slice A l.length c] 28 (0, 0))) (hl : Kd.C (Kd.int .i64) W A l.length l) (hc : l.length ≤ c) (hn : l.length < 4611686018427387904) :
    Calls Try.prog 90 #[v, .func (.func 91) #[] #[.pointer (some ⟨g, 0, none⟩)]] W fun e w' => e = .returned (.int .i64 (rankI xs l)) ∧ Below W.heap.size W w' := by
  have hpos : 0 < xs.length := List.length_pos_iff.2 hne
  obtain ⟨A1, cc, rfl, hle, hC⟩ := Kd.R_reads hR
  obtain ⟨ad, _, rfl, _, _, _⟩ := Kd.C_get hC z28 0 (by omega) (by omega)
  obtain ⟨b, rfl⟩ := Kd.R_head hR
  have hsz : k28.sz = 2 := rfl
  have hE : ∀ i : Fin xs.length, ∃ cs : List Value, cs.length = 2 ∧ k28.K W xs[i] cs ∧ ∀ t u, cs[t]? = some u → W.cell? ⟨b, 0 + i.1 * 2 + t, none⟩ = some u := fun i => by
    obtain ⟨ad, cs, e, h1, h2, h3⟩ := Kd.C_get hC z28 (i.1 : Int) (by omega) (by have := i.2; omega)
    injection e with e
    subst e
    rw [hsz] at h1 h3
    refine ⟨cs, h1, ?_, fun t u hu => ?_⟩
    · have : xs.getD ((i.1 : Int)).toNat z28 = xs[i] := by simp
      rwa [this] at h2
    · have := h3 t u hu
      rw [Int.toNat_natCast, add_at] at this
      rw [Nat.add_assoc]; exact this
  letI inh : Inhabited (Fin xs.length) := ⟨⟨0, hpos⟩⟩
  let enc : Fin xs.length → List Value := fun i => Classical.choose (hE i)
  have hk : ∀ i, (enc i).length = 2 := fun i => (Classical.choose_spec (hE i)).1
  have hK : ∀ i, k28.K W xs[i] (enc i) := fun i => (Classical.choose_spec (hE i)).2.1
  have hcell : ∀ (i : Fin xs.length) (t : Nat) (u : Value), (enc i)[t]? = some u → W.cell? ⟨b, 0 + i.1 * 2 + t, none⟩ = some u := fun i => (Classical.choose_spec (hE i)).2.2
  have hb : b < W.heap.size := by
    have h2 := hcell ⟨0, hpos⟩ 0 _ (List.getElem?_eq_getElem (by rw [hk]; omega))
    exact World.block_lt_of_cell? W _ h2
  have eg : ∀ args w, (callFunc 91 args).run Try.prog w = .ok (.enter 91 args) w := enters_of Try.func91 (by kernel_rfl) rfl
  have hp : PredBelow Try.prog 91 #[.pointer (some ⟨g, 0, none⟩)] (fun x => .agg (enc x).toArray) (fun i : Fin xs.length => decide (xs[i].f1 = l)) W := by
    intro W' x hW
    obtain ⟨B, e, hcs, he, ht⟩ := k28_open (hK x)
    show Calls Try.prog 91 #[.agg (enc x).toArray, .pointer (some ⟨g, 0, none⟩)] W' _
    rw [hcs]
    refine (rank_pred n xs[x].f0 A B c e l xs[x].f1 g W' (blk_below hg hW) (Kd.C_below hl hW) hc (Kd.C_below ht hW) he hn).mono ?_
    rintro r w' ⟨rfl, hb'⟩
    exact ⟨rfl, below_then hW hW.size hb'⟩
  have hzl : (List.finRange xs.length).length = xs.length := List.length_finRange
  have hcon := AnyQ.slices_IndexFunc indexSp 2 Try.isAgg28 Try.sizeOf28 enc hk (fun i : Fin xs.length => decide (xs[i].f1 = l)) 91 #[.pointer (some ⟨g, 0, none⟩)] eg b 0 xs.length cc (List.finRange xs.length) W hp (by rw [hzl]; exact Nat.le_refl _) hbig hb (fun j hj i u hu => by
    rw [hzl] at hj
    have e : (List.finRange xs.length)[j]! = ⟨j, hj⟩ := by rw [getElem!_pos (List.finRange xs.length) j (by rw [hzl]; exact hj)]; simp
    rw [e] at hu
    exact hcell ⟨j, hj⟩ i u hu)
  change Calls Try.prog 90 _ _ _ at hcon
  have hr : Lib.idxBy (fun _ (y : Fin xs.length) => decide (xs[y].f1 = l)) ((List.finRange xs.length).take xs.length) default = rankI xs l := by
    rw [List.take_of_length_le (by rw [hzl]; exact Nat.le_refl _)]
    unfold rankI Lib.idxBy
    rw [idxByFrom_map (fun i : Fin xs.length => xs[i]) (fun y => decide (y.f1 = l)) default z28]
    congr 1
    apply List.ext_getElem <;> simp
  rw [hr] at hcon
  exact hcon

def impl_RankSpace.f (a0_0 : Int) (l0_1 : List Int) : Option (Int × Bool) := some (if isSpB a0_0 l0_1 = true ∧ a0_0 ≤ 3 then (rankI (allSp a0_0.toNat) l0_1, true) else (0, false))
theorem isSpB_n {n : Int} {l : List Int} (h : isSpB n l = true) : 1 ≤ n ∧ n ≤ 7 ∧ l.length ≤ 128 := by
  unfold isSpB at h
  split at h
  · rename_i hn
    refine ⟨hn.1, hn.2, ?_⟩
    unfold isSpN at h
    simp only [Bool.and_eq_true, decide_eq_true_eq] at h
    have : 2 ^ n.toNat ≤ 2 ^ 7 := Nat.pow_le_pow_right (by omega) (by omega)
    exact Nat.le_trans h.1 this
  · cases h
theorem impl_RankSpace.calls (a0_0 : Int) (A0_1 : Option Addr) (c0_1 : Nat) (l0_1 : List Int) (r1 : Int) (r2 : Bool) (w : World) (hr0_1 : Kd.C (Kd.int .i64) w A0_1 l0_1.length l0_1) (hc0_1 : l0_1.length ≤ c0_1) (h : impl_RankSpace.f a0_0 l0_1 = some (r1, r2)) :
    Calls Try.prog 43 #[.agg #[.int .i64 a0_0, .slice A0_1 l0_1.length c0_1]] w fun e w' => e = .returned (.tuple #[.int .i64 r1, .bool r2]) ∧ Below w.heap.size w w' := by
  have hu := Try.underlying28
  have HL := Aside0.mk hr0_1
  have HC := Aside0.mk hc0_1
  clear hr0_1 hc0_1
  have h := Option.some.inj h
  obtain ⟨b, hb⟩ : ∃ b, isSpB a0_0 l0_1 = b := ⟨_, rfl⟩
  have HB0 := Aside0.mk hb
  cases b with
  | false =>
    rw [hb] at h
    simp only [Bool.false_eq_true, false_and, if_false, Prod.mk.injEq] at h
    obtain ⟨rfl, rfl⟩ := h
    clear hb
    go_enter Try.func43, Try.ntmps43
    go_wp2_with fail
    refine (impl_IsSpace.calls a0_0 A0_1 c0_1 l0_1 false _ (Kd.C_below HL.out (below_alloc (Below.refl _ _) _)) HC.out (by rw [← HB0.out]; rfl)).mono ?_
    rintro e w1 ⟨rfl, hb⟩
    have HB1 := Aside0.mk (below_then (below_alloc (Below.refl _ _) _) (by simp) hb)
    clear hb
    go_wp2_with fail
    go_ret2
    exact ⟨rfl, HB1.out⟩
  | true =>
    obtain ⟨n1, n7, hlen⟩ := isSpB_n hb
    have HLEN := Aside0.mk hlen
    obtain ⟨n, rfl⟩ : ∃ n : Nat, a0_0 = n := ⟨a0_0.toNat, by omega⟩
    rw [hb] at h
    by_cases h3 : (n : Int) ≤ 3
    · rw [if_pos ⟨rfl, h3⟩] at h
      simp only [Prod.mk.injEq] at h
      obtain ⟨h1, rfl⟩ := h
      rw [show ((n : Int)).toNat = n by omega] at h1
      have H1 := Aside0.mk h1
      have hgt : ¬ ((n : Int) > 3) := by omega
      have hnn : 1 ≤ n := by omega
      have hn4 : n ≤ 4 := by omega
      have HNN := Aside0.mk (And.intro hnn hn4)
      clear hb h1 hlen n1 n7 h3 hnn hn4
      go_enter Try.func43, Try.ntmps43
      go_wp2_with fail
      refine (impl_IsSpace.calls (n : Int) A0_1 c0_1 l0_1 true _ (Kd.C_below HL.out (below_alloc (Below.refl _ _) _)) HC.out (by rw [← HB0.out]; rfl)).mono ?_
      rintro e w1 ⟨rfl, hb⟩
      have HX1 := Aside0.mk (blk_below (heap_alloc_new w (.cells #[Value.int .i64 (n : Int), .slice A0_1 l0_1.length c0_1] 28)) hb)
      have HB1 := Aside0.mk (below_then (below_alloc (Below.refl _ _) _) (by simp) hb)
      clear hb
      have hc0 : w1.cell? ⟨w.heap.size, 0, none⟩ = some (.int .i64 (n : Int)) := (blk_cell HX1.out 0).trans rfl
      go_wp2_with fail
      refine (impl_spaces.calls (n : Int) (allSp n) _ (by unfold impl_spaces.f; have := HNN.out; rw [if_pos (by omega), show ((n : Int)).toNat = n by omega])).mono ?_
      rintro e w2 ⟨v, rfl, hS, hb⟩
      have HX2 := Aside0.mk (blk_below HX1.out hb)
      have HB2 := Aside0.mk (below_then HB1.out HB1.out.size hb)
      have HS := Aside0.mk (Kd.S_R hS)
      clear hb hc0 hS
      go_wp2_with fail
      have hl2 := rawS_len n (2 ^ (2 ^ n - 2))
      have hp2 := (pow_small n HNN.out.1 HNN.out.2).2.2.2
      have hla : (allSp n).length ≤ 16384 := by unfold allSp rawSpaces; rw [List.length_mergeSort]; omega
      have hna : allSp n ≠ [] := by
        intro he
        have : (rawSpaces n).length = 0 := by have h := congrArg List.length he; unfold allSp at h; rwa [List.length_mergeSort] at h
        exact rawSpaces_ne n HNN.out.1 HNN.out.2 (List.eq_nil_of_length_eq_zero this)
      refine (index_calls _ w1.heap.size _ _ (allSp n) HS.out hna (by omega) (n : Int) A0_1 c0_1 l0_1 w.heap.size HX2.out (Kd.C_below HL.out HB2.out) HC.out (by have := HLEN.out; omega)).mono ?_
      rw [H1.out]
      rintro e w3 ⟨rfl, hb⟩
      have HB3 := Aside0.mk (below_then HB2.out HB2.out.size hb)
      clear hb hl2 hp2 hla hna
      go_wp2_with fail
      go_ret2
      exact ⟨rfl, HB3.out⟩
    · rw [if_neg (fun h => h3 h.2)] at h
      simp only [Prod.mk.injEq] at h
      obtain ⟨rfl, rfl⟩ := h
      have hgt : (n : Int) > 3 := by omega
      clear hb hlen n1 n7 h3
      go_enter Try.func43, Try.ntmps43
      go_wp2_with fail
      refine (impl_IsSpace.calls (n : Int) A0_1 c0_1 l0_1 true _ (Kd.C_below HL.out (below_alloc (Below.refl _ _) _)) HC.out (by rw [← HB0.out]; rfl)).mono ?_
      rintro e w1 ⟨rfl, hb⟩
      have HX1 := Aside0.mk (blk_below (heap_alloc_new w (.cells #[Value.int .i64 (n : Int), .slice A0_1 l0_1.length c0_1] 28)) hb)
      have HB1 := Aside0.mk (below_then (below_alloc (Below.refl _ _) _) (by simp) hb)
      clear hb
      have hc0 : w1.cell? ⟨w.heap.size, 0, none⟩ = some (.int .i64 (n : Int)) := (blk_cell HX1.out 0).trans rfl
      go_wp2_with fail
      go_ret2
      exact ⟨rfl, HB1.out⟩
end Go.Proofs.Ytjhjphgdjhahlaa.P
