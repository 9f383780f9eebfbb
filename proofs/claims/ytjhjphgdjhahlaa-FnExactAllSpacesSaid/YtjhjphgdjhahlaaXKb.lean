/- What a call leaves: all blocks but those of a set are as they were. -/
import Derived.Test.YtjhjphgdjhahlaaWWords
import Derived.Test.YtjhjphgdjhahlaaWKept
import Derived.Test.YtjhjphgdjhahlaaWMore
-- plain
namespace Go.Proofs.Ytjhjphgdjhahlaa.P
open Go.RowKit Go.Proofs.YtjhjphgdjhahlaaW.PrintWords Go.Proofs.YtjhjphgdjhahlaaW.PrintLast Go.Proofs.YtjhjphgdjhahlaaW.PrintMore

/-- W is w but for new blocks, draws, and what may have been written into blocks of S. -/
structure KB (w W : World) (S : Nat → Prop) : Prop where
  os : W.os = w.os
  tape : W.tape = w.tape
  output : W.output = w.output
  size : w.heap.size ≤ W.heap.size
  block : ∀ i, i < w.heap.size → ¬ S i → W.heap[i]? = w.heap[i]?
variable {w W W2 : World} {S S' S2 : Nat → Prop}
theorem KB.refl (w : World) (S : Nat → Prop) : KB w w S := ⟨rfl, rfl, rfl, Nat.le_refl _, fun _ _ _ => rfl⟩
theorem KB.of_below (h : Below w.heap.size w W) (S : Nat → Prop) : KB w W S := ⟨h.os, h.tape, h.output, h.size, fun i hi _ => h.block i hi⟩
theorem KB.mono (h : KB w W S) (hs : ∀ k, k < w.heap.size → S k → S' k) : KB w W S' := ⟨h.os, h.tape, h.output, h.size, fun i hi hn => h.block i hi fun hk => hn (hs i hi hk)⟩
theorem KB.then_ (h : KB w W S) (k : KB W W2 S2) (hs : ∀ k, k < w.heap.size → S2 k → S k) : KB w W2 S :=
  ⟨k.os.trans h.os, k.tape.trans h.tape, k.output.trans h.output, Nat.le_trans h.size k.size, fun i hi hn =>
    (k.block i (Nat.lt_of_lt_of_le hi h.size) fun h2 => hn (hs i hi h2)).trans (h.block i hi hn)⟩
theorem KB.to_below (h : KB w W S) (hs : ∀ k, k < w.heap.size → ¬ S k) : Below w.heap.size w W := ⟨h.os, h.tape, h.output, h.size, fun i hi => h.block i hi (hs i hi)⟩
theorem KB.below (h : KB w W S) (hb : Below W.heap.size W W2) : KB w W2 S := h.then_ (KB.of_below hb (fun _ => False)) (fun _ _ hk => hk.elim)
theorem KB.alloc (h : KB w W S) (o : Obj) : KB w (W.alloc o) S := h.below (below_alloc (Below.refl _ _) o)
theorem KB.drewN (h : KB w W S) (m : Nat) : KB w (W.drewN m) S := ⟨h.os, h.tape, h.output, h.size, h.block⟩
theorem KB.drew (h : KB w W S) : KB w W.drew S := ⟨h.os, h.tape, h.output, h.size, h.block⟩
theorem KB.setCell (h : KB w W S) {p : Addr} (hp : S p.block ∨ w.heap.size ≤ p.block) (u : Value) : KB w (W.setCell p u) S :=
  h.then_ (S2 := fun k => k = p.block) ⟨rfl, rfl, rfl, by simp [World.setCell], fun i _ hn => Below.heap_setCell W p u i hn⟩ (fun k hk he => by subst he; rcases hp with h | h; exact h; omega)
theorem KB.grown (h : KB w W S) {row : Option Nat} (hg : W.grownBy W2 row) (hr : ∀ k, row = some k → S k ∨ w.heap.size ≤ k) : KB w W2 S :=
  h.then_ (S2 := fun k => row = some k) ⟨hg.os, hg.tape, hg.output, hg.size, fun i hi hn => hg.block i hi (fun he => hn he.symm)⟩ (fun k hk he => by rcases hr k he with h | h; exact h; omega)
theorem blk_kb {g : Nat} {o : Obj} (hb : W.heap[g]? = some o) (hk : KB W W2 S) (hne : ¬ S g) : W2.heap[g]? = some o := (hk.block g (blk_lt hb) hne).trans hb
theorem cell_kb {a : Addr} {v : Value} (hc : W.cell? a = some v) (hk : KB W W2 S) (hne : ¬ S a.block) : W2.cell? a = some v := by
  have := hk.block a.block (World.block_lt_of_cell? W a hc) hne
  simpa [World.cell?, this] using hc
/-- A list of integers that is read, over what leaves its block alone. -/
theorem C_kb {A : Option Addr} {n : Nat} {l : List Int} (h : Kd.C (Kd.int .i64) W A n l) (hk : KB W W2 S) (hne : ∀ ad, A = some ad → ¬ S ad.block) : Kd.C (Kd.int .i64) W2 A n l := by
  refine ⟨h.1, h.2.1, fun hn => ?_⟩
  obtain ⟨ad, e, hc⟩ := h.2.2 hn
  refine ⟨ad, e, fun j p hp => ?_⟩
  obtain ⟨c, hl, hK, hcc⟩ := hc j p hp
  refine ⟨c, hl, hK, fun i u hu => cell_kb (hcc i u hu) hk ?_⟩
  have : (ad.add (j * (Kd.int .i64).sz + i)).block = ad.block := by unfold Addr.add; split <;> rfl
  rw [this]; exact hne ad e
/-- An own row, over what leaves its block alone. -/
theorem R_kb {base : Nat} {ok : Nat → Prop} {v : Value} {l : List Int} {e : Nat} (h : Kd.R (Kd.int .i64) e W base ok v l) (hk : KB W W2 S) (hne : ∀ k, ok k → ¬ S k) : Kd.R (Kd.int .i64) e W2 base ok v l := by
  refine Kd.R_mono (Kd.R_move (Kd.R_bound h) ?_) (fun k hk => hk.1)
  intro k hk2
  exact hk.block k hk2.2.2.1 (hne k hk2.1)
end Go.Proofs.Ytjhjphgdjhahlaa.P
