/- laws' 'markSpaceS': all that a row of spaces holds is marked with numbers, one after the other. -/
import Derived.Test.YtjhjphgdjhahlaaQ0
import Derived.Test.YtjhjphgdjhahlaaQ6
import Derived.Test.YtjhjphgdjhahlaaXCore
import Derived.Test.YtjhjphgdjhahlaaXMark
namespace Go.Proofs.Ytjhjphgdjhahlaa.P
open Go.RowKit Go.Proofs.YtjhjphgdjhahlaaW.PrintWords Go.Proofs.YtjhjphgdjhahlaaW.PrintLast Go.Proofs.YtjhjphgdjhahlaaW.PrintMore
set_option linter.unusedVariables false
set_option maxHeartbeats 1600000
set_option maxRecDepth 100000

/-- A row of spaces in block g, told place by place. -/
structure MS (W : World) (base g n : Nat) (cur : Array Value) (f : Nat → Nat) (vs : Nat → Value) (L : Nat → S28) : Prop where
  blk : W.heap[g]? = some (.cells cur 28 (0, 0))
  c0 : ∀ j, j < n → cur[j * 2]? = some (.int .i64 (L j).f0)
  c1 : ∀ j, j < n → cur[j * 2 + 1]? = some (vs j)
  row : ∀ j, j < n → Kd.R (Kd.int .i64) 3 W base (fun b => b ≠ g ∧ f b = j) (vs j) (L j).f1
theorem MS.of {W : World} {base : Nat} {v : Value} {xs : List S28} (hS : Kd.S k28 28 W base (fun _ => True) v xs) (hne : xs ≠ []) :
    ∃ g cap cur f vs, v = .slice (some ⟨g, 0, none⟩) xs.length cap ∧ base ≤ g ∧ xs.length ≤ cap ∧ MS W base g xs.length cur f vs (fun j => xs.getD j z28) := by
  obtain ⟨f, h0, inner, ho, hr⟩ := hS
  rw [List.length_zipIdx] at ho
  have hpos : 0 < xs.length := List.length_pos_iff.2 hne
  have hsz : (Kd.tag f k28).sz = 2 := rfl
  rw [hsz] at ho hr
  obtain ⟨hin, hov⟩ := ho
  rcases hov with ⟨_, h00⟩ | ⟨g, cap, cur, rfl, hbg, hg, hnc, hcm, hcs, hct⟩
  · omega
  obtain ⟨hrl, hre⟩ := hr
  have hM : ∀ j (h : j < xs.length), ∃ v1, (inner.drop (j * 2)).take 2 = [.int .i64 xs[j].f0, v1] ∧ Kd.R (Kd.int .i64) 3 W base (fun b => (True ∧ some b ≠ (Value.slice (some ⟨g, 0, none⟩) xs.length cap).ownBlock) ∧ f b = j) v1 xs[j].f1 := fun j h => by
    have hz : xs.zipIdx[j]? = some (xs[j], j) := Kd.zip_at (by simp [h])
    exact k28_openM (hre j _ hz)
  have hcell : ∀ j, j < xs.length * 2 → cur[j]? = inner[j]? := fun j hj => by
    rw [← hct, List.getElem?_take_of_lt hj, Array.getElem?_toList]
  refine ⟨g, cap, cur, f, fun j => if h : j < xs.length then Classical.choose (hM j h) else .bool false, rfl, hbg, hnc, hg, ?_, ?_, ?_⟩
  · intro j h
    have hs := (Classical.choose_spec (hM j h)).1
    have e : inner[j * 2]? = some (.int .i64 xs[j].f0) := by
      have := congrArg (fun l => l[0]?) hs
      simpa [List.getElem?_take_of_lt, List.getElem?_drop] using this
    rw [hcell _ (by omega), e]; simp [h]
  · intro j h
    have hs := (Classical.choose_spec (hM j h)).1
    have e : inner[j * 2 + 1]? = some (Classical.choose (hM j h)) := by
      have := congrArg (fun l => l[1]?) hs
      simpa [List.getElem?_take_of_lt, List.getElem?_drop] using this
    rw [hcell _ (by omega), e]; simp [h]
  · intro j h
    have hs := (Classical.choose_spec (hM j h)).2
    have : xs.getD j z28 = xs[j] := by simp [h]
    simp only [this, dif_pos h]
    exact Kd.R_mono hs (fun b hb => ⟨fun he => hb.1.2 (by simp [Value.ownBlock, he]), hb.2⟩)
theorem MS.reads {W : World} {base g n : Nat} {cur : Array Value} {f : Nat → Nat} {vs : Nat → Value} {L : Nat → S28} (h : MS W base g n cur f vs L) (hn : n ≤ 9223372036854775807) : Kd.C k28 W (some ⟨g, 0, none⟩) n ((List.range n).map L) := by
  refine ⟨by simp, hn, fun hp => ⟨_, rfl, fun j p hj => ?_⟩⟩
  have hjn : j < n := by have := (List.getElem?_eq_some_iff.1 hj).1; simpa using this
  have hp2 : p = L j := by simpa [hjn] using hj.symm
  subst hp2
  obtain ⟨A, c, hv, hl, hC⟩ := Kd.R_reads (h.row j hjn)
  refine ⟨[.int .i64 (L j).f0, vs j], rfl, ?_, fun i u hu => ?_⟩
  · rw [hv]; exact k28_mk W (L j) hl hC
  · have hsz : k28.sz = 2 := rfl
    rw [hsz, add_at, Nat.zero_add, blk_cell h.blk]
    match i, hu with
    | 0, hu => rw [Nat.add_zero, h.c0 j hjn]; simpa using hu
    | 1, hu => rw [h.c1 j hjn]; simpa using hu
    | i + 2, hu => simp at hu
/-- where the numbers of place j begin -/
def markAt (s : Nat) (L : Nat → S28) : Nat → Nat
  | 0 => s
  | j + 1 => markAt s L j + 1 + (L j).f1.length
def markOf (s : Nat) (L : Nat → S28) (j : Nat) : S28 := ⟨(markAt s L j : Int), marks (markAt s L j + 1) (L j).f1.length⟩
def markTo (s : Nat) (L : Nat → S28) (i : Nat) : Nat → S28 := fun j => if j < i then markOf s L j else L j
theorem markAt_le (s : Nat) (L : Nat → S28) (n : Nat) (hL : ∀ j, j < n → (L j).f1.length ≤ 16) : ∀ j, j ≤ n → markAt s L j ≤ s + 17 * j
  | 0, _ => by simp [markAt]
  | j + 1, h => by have := markAt_le s L n hL j (by omega); have := hL j (by omega); simp only [markAt]; omega

theorem markSpaceS_calls (w0 W : World) (hB : Below w0.heap.size w0 W) (g cap n : Nat) (cur : Array Value) (f : Nat → Nat) (vs : Nat → Value) (L : Nat → S28) (hM : MS W w0.heap.size g n cur f vs L) (hbg : w0.heap.size ≤ g) (hL : ∀ j, j < n → (L j).f1.length ≤ 16) (hn : n ≤ 16384) (s : Nat) (hs : s ≤ 16384) :
    Calls Try.prog 40 #[.slice (some ⟨g, 0, none⟩) n cap, .int .i64 (s : Int)] W fun e w' => e = .returned (.int .i64 (markAt s L n : Int)) ∧ (∃ cur', MS w' w0.heap.size g n cur' f vs (markOf s L)) ∧ Below w0.heap.size w0 w' := by
  have hu := Try.underlying28
  have HM := Aside0.mk hM
  have HB := Aside0.mk hB
  have HL := Aside0.mk hL
  have HBG := Aside0.mk hbg
  have HS := Aside0.mk hs
  clear hM hB hL hbg hs
  go_enter Try.func40, Try.ntmps40
  go_wp2_with fail
  go_loopg [1, 5] n (fun kq v1 v5 w' => ∃ i : Nat, v5 = .int .i64 (i : Int) ∧ v1 = .int .i64 (markAt s L i : Int) ∧ i ≤ n ∧ Aside0 (kq = n - i) ∧ Aside0 (∃ cur', MS w' w0.heap.size g n cur' f vs (markTo s L i)) ∧ Aside0 (Below w0.heap.size w0 w'))
  case atStart =>
    refine ⟨0, rfl, rfl, Nat.zero_le _, ⟨rfl⟩, ⟨cur, ?_⟩, HB⟩
    have : markTo s L 0 = L := by funext j; simp [markTo]
    rw [this]; exact HM.out
  case round =>
    obtain ⟨i, rfl, rfl, hi, HK, HC, HB1⟩ := hrel
    by_cases hlt : i < n
    · obtain ⟨cur', hms⟩ := HC.out
      have HMS := Aside0.mk hms
      have hfz := blk_frozen hms.blk (i * 2)
      have hc0 : wr.cell? ⟨g, i * 2, none⟩ = some (.int .i64 (markTo s L i i).f0) := (blk_cell hms.blk _).trans (hms.c0 i hlt)
      have hL16 := HL.out i hlt
      have hat := markAt_le s L n HL.out i (by omega)
      have hat2 := HS.out
      obtain ⟨kk, hkk⟩ := (markIntS_pure (L i).f1 (markAt s L i + 1) (by omega)).rounds
      have HKK := Aside0.mk hkk
      have ek : wrap64 ((markAt s L i : Int) + 1) = ((markAt s L i + 1 : Nat) : Int) := by unfold wrap64; omega
      have EK := Aside0.mk ek
      have hbig : (markAt s L i : Int) + 1 < 9223372036854775807 := by omega
      clear hkk ek hL16 hat hat2
      have hc1 : (wr.setCell ⟨g, i * 2, none⟩ (.int .i64 (markAt s L i : Int))).cell? ⟨g, i * 2 + 1, none⟩ = some (vs i) := by
        rw [blk_cell (blk_put hms.blk (i * 2) _ rfl)]
        rw [Array.getElem?_setIfInBounds_ne (by omega)]
        exact hms.c1 i hlt
      clear hms
      go_wp2_with fail
      have hms := HMS.out
      have hrow := hms.row i hlt
      have eL : (markTo s L i i) = L i := by simp [markTo]
      rw [eL] at hrow
      have HR := Aside0.mk hrow
      have hblk2 := blk_put hms.blk (i * 2) (.int .i64 (markAt s L i : Int)) rfl
      have HBLK := Aside0.mk hblk2
      refine (laws_markIntS.calls kk (fun b => b ≠ g ∧ f b = i) (vs i) (L i).f1 _ _ _ w0 _ (below_set HB1.out HBG.out) (Kd.R_far (p := ⟨g, i * 2, none⟩) hrow (fun _ hk => hk.1) _) (by first | exact HKK.out | (rw [← EK.out] at HKK; exact HKK.out) | (have := HKK.out; simpa using this))).mono ?_
      rintro e w2 ⟨rfl, hr, hb, hk⟩
      have HR2 := Aside0.mk hr
      have HB2 := Aside0.mk hb
      have HK2 := Aside0.mk hk
      clear hr hb hk hrow hblk2 eL hms
      go_wp2_with fail
      go_roundg (n - (i + 1))
      case measure => have := HK.out; omega
      case rel =>
        refine ⟨i + 1, by go_num, by simp only [markAt]; congr 1, by omega, ⟨rfl⟩, ⟨cur'.setIfInBounds (i * 2) (.int .i64 (markAt s L i : Int)), ?_⟩, HB2⟩
        have hms := HMS.out
        have hsz : i * 2 < cur'.size := (Array.getElem?_eq_some_iff.1 (hms.c0 i hlt)).1
        refine ⟨(HK2.out.2 g (blk_lt HBLK.out) (fun h => h.1 rfl)).trans HBLK.out, ?_, ?_, ?_⟩
        · intro j hj
          by_cases e : j = i
          · subst e
            rw [Array.getElem?_setIfInBounds_self_of_lt hsz]; simp [markTo, markOf]
          · rw [Array.getElem?_setIfInBounds_ne (by omega), hms.c0 j hj]
            congr 3; simp only [markTo]; split <;> split <;> first | rfl | omega
        · intro j hj
          rw [Array.getElem?_setIfInBounds_ne (by omega)]; exact hms.c1 j hj
        · intro j hj
          by_cases e : j = i
          · subst e
            have : (markTo s L (j + 1) j).f1 = marks (markAt s L j + 1) (L j).f1.length := by simp [markTo, markOf]
            rw [this]
            exact ⟨HR.out.1, HR2.out.2⟩
          · have : markTo s L (i + 1) j = markTo s L i j := by simp only [markTo]; split <;> split <;> first | rfl | omega
            rw [this]
            exact Kd.R_step (Kd.R_far (p := ⟨g, i * 2, none⟩) (hms.row j hj) (fun _ hk => hk.1) _) (fun b hb hlt' => HK2.out.2 b hlt' (fun h => e (hb.2.symm.trans h.2)))
    · obtain rfl : i = n := by omega
      obtain ⟨cur', hms⟩ := HC.out
      have HMS := Aside0.mk hms
      go_wp2
      go_ret
      refine ⟨rfl, ⟨cur', ?_⟩, HB1.out⟩
      have hm := HMS.out
      exact ⟨hm.blk, fun j hj => by have := hm.c0 j hj; rwa [show markTo s L i j = markOf s L j by simp [markTo, hj]] at this, hm.c1, fun j hj => by have := hm.row j hj; rwa [show markTo s L i j = markOf s L j by simp [markTo, hj]] at this⟩
theorem MS.below {W W' : World} {base g n : Nat} {cur : Array Value} {f : Nat → Nat} {vs : Nat → Value} {L : Nat → S28} (h : MS W base g n cur f vs L) (hb : Below W.heap.size W W') : MS W' base g n cur f vs L :=
  ⟨blk_below h.blk hb, h.c0, h.c1, fun j hj => Kd.R_below (h.row j hj) hb⟩
theorem markSpaceS_none (W : World) (A : Option Addr) (cap : Nat) (s : Int) :
    Calls Try.prog 40 #[.slice A 0 cap, .int .i64 s] W fun e w' => e = .returned (.int .i64 s) ∧ Below W.heap.size W w' := by
  go_enter Try.func40, Try.ntmps40
  go_wp2_with fail
  go_loopg [1, 5] 1 (fun kq v1 v5 w' => v5 = .int .i64 0 ∧ v1 = .int .i64 s ∧ Aside0 (Below W.heap.size W w'))
  case atStart => exact ⟨rfl, rfl, ⟨Below.refl _ _⟩⟩
  case round =>
    obtain ⟨rfl, rfl, HB1⟩ := hrel
    go_wp2
    go_ret
    exact ⟨rfl, HB1.out⟩
end Go.Proofs.Ytjhjphgdjhahlaa.P
