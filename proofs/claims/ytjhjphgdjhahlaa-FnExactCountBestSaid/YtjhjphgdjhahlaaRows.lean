/-
  No cell of these rows narrows 'for every input' (looked for: loops, veiled, ifaces, maps, wideKeys, modest, calm, conditions, laid).
  DERIVED. THE GIVEN ROWS OF THIS SEAT. 9 by the template 'for every input the law returns true; each argument reads behind the call as it read before'; 0 by the template 'total and deterministic' (their statements: YtjhjphgdjhahlaaTotals.lean).
  GIVEN WITH THE SEED: the statements are not yours to turn. If you find one false, say at which input.
  Laid BY PROGRAM, IN A SANDBOX (cutbox-rows.mjs): the forced cells as the released guide's own fill.sh prints them over the translation 3703b0e75f7c0e47… (all of the seat's roots in one cut). By AI agents, Wed Nov 11 2026. No macro, syntax, notation, axiom, sorry.
-/
import Derived.Test.YtjhjphgdjhahlaaChecked
import GoSem.Claim
import GoSem.ClaimJoined
import GoSem.ClaimMapViews
import Derived.JoinedTies
import Derived.KernelRfl
namespace Go.Proofs.Ytjhjphgdjhahlaa
/- THE CELL 'sum', in the pinned program and in every row, IS THE sha256 OF THE DUMP (.gsa) THAT YtjhjphgdjhahlaaProg.lean LOADS. Nothing in Lean hashes anything: it is a label: what it is worth is what the hold of that sum in a sandbox is worth. -/
noncomputable def Try.pinned : Pinned := { name := "ytjhjphgdjhahlaa", sum := "3703b0e75f7c0e47600aa10f9d1830cbd95a4b3a50fa13aec1cbe828f907f5a6", checked := Try.checked }
namespace Rows
def none {H : Type} : Left H := { results := [], args := [] }

/-- 'laws.FnExactAreAlike': WHATEVER THE INPUT: true; the input reads as it did. -/
def fnExactAreAlikeSpec : ChangeSpec := { name := "fnExactAreAlike", fn := fun _ => fun
  | [d1, d2] => { results := [.lit (.bool true)], args := [d1, d2] }
  | _ => none }
def fnExactAreAlikeRow : OpenClaim := { program := "ytjhjphgdjhahlaa", sum := "3703b0e75f7c0e47600aa10f9d1830cbd95a4b3a50fa13aec1cbe828f907f5a6", func := "loop.example/g01137/laws.FnExactAreAlike", spec := "fnExactAreAlike", unfollowed := true, recurses := true, apart := false }
def FnExactAreAlikeSaid : Prop := fnExactAreAlikeRow.holds Try.pinned (OpenSpec.ofChange fnExactAreAlikeSpec)

/-- ITS FALSE NEIGHBOUR: 'it returns false'. Refute it at one input. -/
def fnExactAreAlikeWrong : ChangeSpec := { name := "fnExactAreAlike", fn := fun _ => fun
  | [d1, d2] => { results := [.lit (.bool false)], args := [d1, d2] }
  | _ => none }
def FnExactAreAlikeWrongFalsely : Prop := fnExactAreAlikeRow.holds Try.pinned (OpenSpec.ofChange fnExactAreAlikeWrong)

/-- 'laws.FnExactLeastNamed': WHATEVER THE INPUT: true; the input reads as it did. -/
def fnExactLeastNamedSpec : ChangeSpec := { name := "fnExactLeastNamed", fn := fun _ => fun
  | [d] => { results := [.lit (.bool true)], args := [d] }
  | _ => none }
def fnExactLeastNamedRow : OpenClaim := { program := "ytjhjphgdjhahlaa", sum := "3703b0e75f7c0e47600aa10f9d1830cbd95a4b3a50fa13aec1cbe828f907f5a6", func := "loop.example/g01137/laws.FnExactLeastNamed", spec := "fnExactLeastNamed", unfollowed := true, recurses := true, apart := false }
def FnExactLeastNamedSaid : Prop := fnExactLeastNamedRow.holds Try.pinned (OpenSpec.ofChange fnExactLeastNamedSpec)

/-- ITS FALSE NEIGHBOUR: 'it returns false'. Refute it at one input. -/
def fnExactLeastNamedWrong : ChangeSpec := { name := "fnExactLeastNamed", fn := fun _ => fun
  | [d] => { results := [.lit (.bool false)], args := [d] }
  | _ => none }
def FnExactLeastNamedWrongFalsely : Prop := fnExactLeastNamedRow.holds Try.pinned (OpenSpec.ofChange fnExactLeastNamedWrong)

/-- 'laws.FnExactCountBest': WHATEVER THE INPUT: true; the input reads as it did. -/
def fnExactCountBestSpec : ChangeSpec := { name := "fnExactCountBest", fn := fun _ => fun
  | [d1, d2] => { results := [.lit (.bool true)], args := [d1, d2] }
  | _ => none }
def fnExactCountBestRow : OpenClaim := { program := "ytjhjphgdjhahlaa", sum := "3703b0e75f7c0e47600aa10f9d1830cbd95a4b3a50fa13aec1cbe828f907f5a6", func := "loop.example/g01137/laws.FnExactCountBest", spec := "fnExactCountBest", unfollowed := true, recurses := true, apart := false }
def FnExactCountBestSaid : Prop := fnExactCountBestRow.holds Try.pinned (OpenSpec.ofChange fnExactCountBestSpec)

/-- ITS FALSE NEIGHBOUR: 'it returns false'. Refute it at one input. -/
def fnExactCountBestWrong : ChangeSpec := { name := "fnExactCountBest", fn := fun _ => fun
  | [d1, d2] => { results := [.lit (.bool false)], args := [d1, d2] }
  | _ => none }
def FnExactCountBestWrongFalsely : Prop := fnExactCountBestRow.holds Try.pinned (OpenSpec.ofChange fnExactCountBestWrong)

/-- 'laws.FnLateJobs': WHATEVER THE INPUT: true; the input reads as it did. -/
def fnLateJobsSpec : ChangeSpec := { name := "fnLateJobs", fn := fun _ => fun
  | [d1, d2] => { results := [.lit (.bool true)], args := [d1, d2] }
  | _ => none }
def fnLateJobsRow : OpenClaim := { program := "ytjhjphgdjhahlaa", sum := "3703b0e75f7c0e47600aa10f9d1830cbd95a4b3a50fa13aec1cbe828f907f5a6", func := "loop.example/g01137/laws.FnLateJobs", spec := "fnLateJobs", unfollowed := true, recurses := true, apart := false }
def FnLateJobsSaid : Prop := fnLateJobsRow.holds Try.pinned (OpenSpec.ofChange fnLateJobsSpec)

/-- ITS FALSE NEIGHBOUR: 'it returns false'. Refute it at one input. -/
def fnLateJobsWrong : ChangeSpec := { name := "fnLateJobs", fn := fun _ => fun
  | [d1, d2] => { results := [.lit (.bool false)], args := [d1, d2] }
  | _ => none }
def FnLateJobsWrongFalsely : Prop := fnLateJobsRow.holds Try.pinned (OpenSpec.ofChange fnLateJobsWrong)

/-- 'laws.FnExactCountSpaces': WHATEVER THE INPUT: true; the input reads as it did. -/
def fnExactCountSpacesSpec : ChangeSpec := { name := "fnExactCountSpaces", fn := fun _ => fun
  | [d] => { results := [.lit (.bool true)], args := [d] }
  | _ => none }
def fnExactCountSpacesRow : OpenClaim := { program := "ytjhjphgdjhahlaa", sum := "3703b0e75f7c0e47600aa10f9d1830cbd95a4b3a50fa13aec1cbe828f907f5a6", func := "loop.example/g01137/laws.FnExactCountSpaces", spec := "fnExactCountSpaces", unfollowed := true, recurses := true, apart := false }
def FnExactCountSpacesSaid : Prop := fnExactCountSpacesRow.holds Try.pinned (OpenSpec.ofChange fnExactCountSpacesSpec)

/-- ITS FALSE NEIGHBOUR: 'it returns false'. Refute it at one input. -/
def fnExactCountSpacesWrong : ChangeSpec := { name := "fnExactCountSpaces", fn := fun _ => fun
  | [d] => { results := [.lit (.bool false)], args := [d] }
  | _ => none }
def FnExactCountSpacesWrongFalsely : Prop := fnExactCountSpacesRow.holds Try.pinned (OpenSpec.ofChange fnExactCountSpacesWrong)

/-- 'laws.FnExactSpaceAt': WHATEVER THE INPUT: true; the input reads as it did. -/
def fnExactSpaceAtSpec : ChangeSpec := { name := "fnExactSpaceAt", fn := fun _ => fun
  | [d1, d2] => { results := [.lit (.bool true)], args := [d1, d2] }
  | _ => none }
def fnExactSpaceAtRow : OpenClaim := { program := "ytjhjphgdjhahlaa", sum := "3703b0e75f7c0e47600aa10f9d1830cbd95a4b3a50fa13aec1cbe828f907f5a6", func := "loop.example/g01137/laws.FnExactSpaceAt", spec := "fnExactSpaceAt", unfollowed := true, recurses := true, apart := false }
def FnExactSpaceAtSaid : Prop := fnExactSpaceAtRow.holds Try.pinned (OpenSpec.ofChange fnExactSpaceAtSpec)

/-- ITS FALSE NEIGHBOUR: 'it returns false'. Refute it at one input. -/
def fnExactSpaceAtWrong : ChangeSpec := { name := "fnExactSpaceAt", fn := fun _ => fun
  | [d1, d2] => { results := [.lit (.bool false)], args := [d1, d2] }
  | _ => none }
def FnExactSpaceAtWrongFalsely : Prop := fnExactSpaceAtRow.holds Try.pinned (OpenSpec.ofChange fnExactSpaceAtWrong)

/-- 'laws.FnExactAllSpaces': WHATEVER THE INPUT: true; the input reads as it did. -/
def fnExactAllSpacesSpec : ChangeSpec := { name := "fnExactAllSpaces", fn := fun _ => fun
  | [d] => { results := [.lit (.bool true)], args := [d] }
  | _ => none }
def fnExactAllSpacesRow : OpenClaim := { program := "ytjhjphgdjhahlaa", sum := "3703b0e75f7c0e47600aa10f9d1830cbd95a4b3a50fa13aec1cbe828f907f5a6", func := "loop.example/g01137/laws.FnExactAllSpaces", spec := "fnExactAllSpaces", unfollowed := true, recurses := true, apart := false }
def FnExactAllSpacesSaid : Prop := fnExactAllSpacesRow.holds Try.pinned (OpenSpec.ofChange fnExactAllSpacesSpec)

/-- ITS FALSE NEIGHBOUR: 'it returns false'. Refute it at one input. -/
def fnExactAllSpacesWrong : ChangeSpec := { name := "fnExactAllSpaces", fn := fun _ => fun
  | [d] => { results := [.lit (.bool false)], args := [d] }
  | _ => none }
def FnExactAllSpacesWrongFalsely : Prop := fnExactAllSpacesRow.holds Try.pinned (OpenSpec.ofChange fnExactAllSpacesWrong)

/-- 'laws.FnExactRankSpace': WHATEVER THE INPUT: true; the input reads as it did. -/
def fnExactRankSpaceSpec : ChangeSpec := { name := "fnExactRankSpace", fn := fun _ => fun
  | [d] => { results := [.lit (.bool true)], args := [d] }
  | _ => none }
def fnExactRankSpaceRow : OpenClaim := { program := "ytjhjphgdjhahlaa", sum := "3703b0e75f7c0e47600aa10f9d1830cbd95a4b3a50fa13aec1cbe828f907f5a6", func := "loop.example/g01137/laws.FnExactRankSpace", spec := "fnExactRankSpace", unfollowed := true, recurses := true, apart := false }
def FnExactRankSpaceSaid : Prop := fnExactRankSpaceRow.holds Try.pinned (OpenSpec.ofChange fnExactRankSpaceSpec)

/-- ITS FALSE NEIGHBOUR: 'it returns false'. Refute it at one input. -/
def fnExactRankSpaceWrong : ChangeSpec := { name := "fnExactRankSpace", fn := fun _ => fun
  | [d] => { results := [.lit (.bool false)], args := [d] }
  | _ => none }
def FnExactRankSpaceWrongFalsely : Prop := fnExactRankSpaceRow.holds Try.pinned (OpenSpec.ofChange fnExactRankSpaceWrong)

/-- 'laws.FnExactCountUpToNames': WHATEVER THE INPUT: true; the input reads as it did. -/
def fnExactCountUpToNamesSpec : ChangeSpec := { name := "fnExactCountUpToNames", fn := fun _ => fun
  | [d] => { results := [.lit (.bool true)], args := [d] }
  | _ => none }
def fnExactCountUpToNamesRow : OpenClaim := { program := "ytjhjphgdjhahlaa", sum := "3703b0e75f7c0e47600aa10f9d1830cbd95a4b3a50fa13aec1cbe828f907f5a6", func := "loop.example/g01137/laws.FnExactCountUpToNames", spec := "fnExactCountUpToNames", unfollowed := true, recurses := true, apart := false }
def FnExactCountUpToNamesSaid : Prop := fnExactCountUpToNamesRow.holds Try.pinned (OpenSpec.ofChange fnExactCountUpToNamesSpec)

/-- ITS FALSE NEIGHBOUR: 'it returns false'. Refute it at one input. -/
def fnExactCountUpToNamesWrong : ChangeSpec := { name := "fnExactCountUpToNames", fn := fun _ => fun
  | [d] => { results := [.lit (.bool false)], args := [d] }
  | _ => none }
def FnExactCountUpToNamesWrongFalsely : Prop := fnExactCountUpToNamesRow.holds Try.pinned (OpenSpec.ofChange fnExactCountUpToNamesWrong)

/- THE SECOND FORM. 'bulk': how many values and letters a reading holds, each counted each time it is reached (what is shared counts as often as it is met; a slice's spare places count too). A statement '..UptoSaid' is the law's where the arguments, and the package variables that the reading takes, are together of bulk at most 1048576: NARROWER than '..Said'. Prove '..Said' where nothing that the law and all that it calls make is longer than what came in: it says more and counts as full. Else prove '..UptoSaid'. A law counts once. -/
mutual
def uptoBulk {H : Type} : DataW H → Nat
  | .lit (.string bytes) => bytes.length + 1
  | .lit _ => 1
  | .nil => 1
  | .ptr d => uptoBulk d + 1
  | .slice elems spare => uptoBulkAll elems + uptoBulkAll spare + 1
  | .agg parts => uptoBulkAll parts + 1
  | .iface _ d => uptoBulk d + 1
  | .map entries => uptoBulkEntries entries + 1
  | .held _ => 1
def uptoBulkAll {H : Type} : List (DataW H) → Nat
  | [] => 0
  | d :: r => uptoBulk d + uptoBulkAll r
def uptoBulkEntries {H : Type} : List (Lit × DataW H) → Nat
  | [] => 0
  | x :: r => uptoBulkEntry x + uptoBulkEntries r
def uptoBulkEntry {H : Type} : Lit × DataW H → Nat
  | (.string bytes, d) => bytes.length + uptoBulk d + 1
  | (_, d) => uptoBulk d + 1
 end
def uptoSmall : (H : Type) → List (DataW H) → Bool := fun _ ds => decide (uptoBulkAll ds ≤ 1048576)
def OpenSpec.upto (s : _root_.Go.ChangeSpec) : _root_.Go.OpenSpec := { _root_.Go.OpenSpec.ofChange s with cond := some uptoSmall }

/-- 'laws.FnExactAreAlike', WHERE WHAT IT READS IS OF BULK AT MOST 1048576: true; the input reads as it did. -/
def fnExactAreAlikeUptoRow : OpenClaim := { program := "ytjhjphgdjhahlaa", sum := "3703b0e75f7c0e47600aa10f9d1830cbd95a4b3a50fa13aec1cbe828f907f5a6", func := "loop.example/g01137/laws.FnExactAreAlike", spec := "fnExactAreAlike", unfollowed := true, recurses := true, apart := false, narrowed := true }
def FnExactAreAlikeUptoSaid : Prop := fnExactAreAlikeUptoRow.holds Try.pinned (OpenSpec.upto fnExactAreAlikeSpec)

/-- 'laws.FnExactLeastNamed', WHERE WHAT IT READS IS OF BULK AT MOST 1048576: true; the input reads as it did. -/
def fnExactLeastNamedUptoRow : OpenClaim := { program := "ytjhjphgdjhahlaa", sum := "3703b0e75f7c0e47600aa10f9d1830cbd95a4b3a50fa13aec1cbe828f907f5a6", func := "loop.example/g01137/laws.FnExactLeastNamed", spec := "fnExactLeastNamed", unfollowed := true, recurses := true, apart := false, narrowed := true }
def FnExactLeastNamedUptoSaid : Prop := fnExactLeastNamedUptoRow.holds Try.pinned (OpenSpec.upto fnExactLeastNamedSpec)

/-- 'laws.FnExactCountBest', WHERE WHAT IT READS IS OF BULK AT MOST 1048576: true; the input reads as it did. -/
def fnExactCountBestUptoRow : OpenClaim := { program := "ytjhjphgdjhahlaa", sum := "3703b0e75f7c0e47600aa10f9d1830cbd95a4b3a50fa13aec1cbe828f907f5a6", func := "loop.example/g01137/laws.FnExactCountBest", spec := "fnExactCountBest", unfollowed := true, recurses := true, apart := false, narrowed := true }
def FnExactCountBestUptoSaid : Prop := fnExactCountBestUptoRow.holds Try.pinned (OpenSpec.upto fnExactCountBestSpec)

/-- 'laws.FnLateJobs', WHERE WHAT IT READS IS OF BULK AT MOST 1048576: true; the input reads as it did. -/
def fnLateJobsUptoRow : OpenClaim := { program := "ytjhjphgdjhahlaa", sum := "3703b0e75f7c0e47600aa10f9d1830cbd95a4b3a50fa13aec1cbe828f907f5a6", func := "loop.example/g01137/laws.FnLateJobs", spec := "fnLateJobs", unfollowed := true, recurses := true, apart := false, narrowed := true }
def FnLateJobsUptoSaid : Prop := fnLateJobsUptoRow.holds Try.pinned (OpenSpec.upto fnLateJobsSpec)

/-- 'laws.FnExactCountSpaces', WHERE WHAT IT READS IS OF BULK AT MOST 1048576: true; the input reads as it did. -/
def fnExactCountSpacesUptoRow : OpenClaim := { program := "ytjhjphgdjhahlaa", sum := "3703b0e75f7c0e47600aa10f9d1830cbd95a4b3a50fa13aec1cbe828f907f5a6", func := "loop.example/g01137/laws.FnExactCountSpaces", spec := "fnExactCountSpaces", unfollowed := true, recurses := true, apart := false, narrowed := true }
def FnExactCountSpacesUptoSaid : Prop := fnExactCountSpacesUptoRow.holds Try.pinned (OpenSpec.upto fnExactCountSpacesSpec)

/-- 'laws.FnExactSpaceAt', WHERE WHAT IT READS IS OF BULK AT MOST 1048576: true; the input reads as it did. -/
def fnExactSpaceAtUptoRow : OpenClaim := { program := "ytjhjphgdjhahlaa", sum := "3703b0e75f7c0e47600aa10f9d1830cbd95a4b3a50fa13aec1cbe828f907f5a6", func := "loop.example/g01137/laws.FnExactSpaceAt", spec := "fnExactSpaceAt", unfollowed := true, recurses := true, apart := false, narrowed := true }
def FnExactSpaceAtUptoSaid : Prop := fnExactSpaceAtUptoRow.holds Try.pinned (OpenSpec.upto fnExactSpaceAtSpec)

/-- 'laws.FnExactAllSpaces', WHERE WHAT IT READS IS OF BULK AT MOST 1048576: true; the input reads as it did. -/
def fnExactAllSpacesUptoRow : OpenClaim := { program := "ytjhjphgdjhahlaa", sum := "3703b0e75f7c0e47600aa10f9d1830cbd95a4b3a50fa13aec1cbe828f907f5a6", func := "loop.example/g01137/laws.FnExactAllSpaces", spec := "fnExactAllSpaces", unfollowed := true, recurses := true, apart := false, narrowed := true }
def FnExactAllSpacesUptoSaid : Prop := fnExactAllSpacesUptoRow.holds Try.pinned (OpenSpec.upto fnExactAllSpacesSpec)

/-- 'laws.FnExactRankSpace', WHERE WHAT IT READS IS OF BULK AT MOST 1048576: true; the input reads as it did. -/
def fnExactRankSpaceUptoRow : OpenClaim := { program := "ytjhjphgdjhahlaa", sum := "3703b0e75f7c0e47600aa10f9d1830cbd95a4b3a50fa13aec1cbe828f907f5a6", func := "loop.example/g01137/laws.FnExactRankSpace", spec := "fnExactRankSpace", unfollowed := true, recurses := true, apart := false, narrowed := true }
def FnExactRankSpaceUptoSaid : Prop := fnExactRankSpaceUptoRow.holds Try.pinned (OpenSpec.upto fnExactRankSpaceSpec)

/-- 'laws.FnExactCountUpToNames', WHERE WHAT IT READS IS OF BULK AT MOST 1048576: true; the input reads as it did. -/
def fnExactCountUpToNamesUptoRow : OpenClaim := { program := "ytjhjphgdjhahlaa", sum := "3703b0e75f7c0e47600aa10f9d1830cbd95a4b3a50fa13aec1cbe828f907f5a6", func := "loop.example/g01137/laws.FnExactCountUpToNames", spec := "fnExactCountUpToNames", unfollowed := true, recurses := true, apart := false, narrowed := true }
def FnExactCountUpToNamesUptoSaid : Prop := fnExactCountUpToNamesUptoRow.holds Try.pinned (OpenSpec.upto fnExactCountUpToNamesSpec)

end Rows
end Go.Proofs.Ytjhjphgdjhahlaa
