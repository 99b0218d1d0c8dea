/-
  No cell of these rows narrows 'for every input' (looked for: loops, veiled, ifaces, maps, wideKeys, modest, calm, conditions, laid).
  DERIVED. THE GIVEN ROWS OF THIS SEAT. 5 by the template 'for every input the law returns true; each argument reads behind the call as it read before'; 0 by the template 'total and deterministic' (their statements: YtdehifinipmmcaaTotals.lean).
  GIVEN WITH THE SEED: the statements are not yours to turn. If you find one false, say at which input.
  Laid BY PROGRAM, IN A SANDBOX (cutbox-rows.mjs): the forced cells as the released guide's own fill.sh prints them over the translation 3417a58afc8e89e9… (all of the seat's roots in one cut). By AI agents, Wed Nov 11 2026. No macro, syntax, notation, axiom, sorry.
-/
import Derived.Test.YtdehifinipmmcaaChecked
import GoSem.Claim
import GoSem.ClaimJoined
import GoSem.ClaimMapViews
import Derived.JoinedTies
import Derived.KernelRfl
namespace Go.Proofs.Ytdehifinipmmcaa
/- THE CELL 'sum', in the pinned program and in every row, IS THE sha256 OF THE DUMP (.gsa) THAT YtdehifinipmmcaaProg.lean LOADS. Nothing in Lean hashes anything: it is a label: what it is worth is what the hold of that sum in a sandbox is worth. -/
noncomputable def Try.pinned : Pinned := { name := "ytdehifinipmmcaa", sum := "3417a58afc8e89e9fecccdde0559fbd49268e14c88411f55f7c776a3b0de7598", checked := Try.checked }
namespace Rows
def none {H : Type} : Left H := { results := [], args := [] }

/-- 'laminalaw17.DiffApplies': WHATEVER THE INPUT: true; the input reads as it did. -/
def diffAppliesSpec : ChangeSpec := { name := "diffApplies", fn := fun _ => fun
  | [d1, d2] => { results := [.lit (.bool true)], args := [d1, d2] }
  | _ => none }
def diffAppliesRow : OpenClaim := { program := "ytdehifinipmmcaa", sum := "3417a58afc8e89e9fecccdde0559fbd49268e14c88411f55f7c776a3b0de7598", func := "lamina/laminalaw17.DiffApplies", spec := "diffApplies", unfollowed := true, recurses := true, apart := false }
def DiffAppliesSaid : Prop := diffAppliesRow.holds Try.pinned (OpenSpec.ofChange diffAppliesSpec)

/-- ITS FALSE NEIGHBOUR: 'it returns false'. Refute it at one input. -/
def diffAppliesWrong : ChangeSpec := { name := "diffApplies", fn := fun _ => fun
  | [d1, d2] => { results := [.lit (.bool false)], args := [d1, d2] }
  | _ => none }
def DiffAppliesWrongFalsely : Prop := diffAppliesRow.holds Try.pinned (OpenSpec.ofChange diffAppliesWrong)

/-- 'laminalaw17.DiffBetween': WHATEVER THE INPUT: true; the input reads as it did. -/
def diffBetweenSpec : ChangeSpec := { name := "diffBetween", fn := fun _ => fun
  | [d1, d2, d3] => { results := [.lit (.bool true)], args := [d1, d2, d3] }
  | _ => none }
def diffBetweenRow : OpenClaim := { program := "ytdehifinipmmcaa", sum := "3417a58afc8e89e9fecccdde0559fbd49268e14c88411f55f7c776a3b0de7598", func := "lamina/laminalaw17.DiffBetween", spec := "diffBetween", unfollowed := true, recurses := true, apart := false }
def DiffBetweenSaid : Prop := diffBetweenRow.holds Try.pinned (OpenSpec.ofChange diffBetweenSpec)

/-- ITS FALSE NEIGHBOUR: 'it returns false'. Refute it at one input. -/
def diffBetweenWrong : ChangeSpec := { name := "diffBetween", fn := fun _ => fun
  | [d1, d2, d3] => { results := [.lit (.bool false)], args := [d1, d2, d3] }
  | _ => none }
def DiffBetweenWrongFalsely : Prop := diffBetweenRow.holds Try.pinned (OpenSpec.ofChange diffBetweenWrong)

/-- 'laminalaw17.DiffSame': WHATEVER THE INPUT: true; the input reads as it did. -/
def diffSameSpec : ChangeSpec := { name := "diffSame", fn := fun _ => fun
  | [d] => { results := [.lit (.bool true)], args := [d] }
  | _ => none }
def diffSameRow : OpenClaim := { program := "ytdehifinipmmcaa", sum := "3417a58afc8e89e9fecccdde0559fbd49268e14c88411f55f7c776a3b0de7598", func := "lamina/laminalaw17.DiffSame", spec := "diffSame", unfollowed := true, recurses := true, apart := false }
def DiffSameSaid : Prop := diffSameRow.holds Try.pinned (OpenSpec.ofChange diffSameSpec)

/-- ITS FALSE NEIGHBOUR: 'it returns false'. Refute it at one input. -/
def diffSameWrong : ChangeSpec := { name := "diffSame", fn := fun _ => fun
  | [d] => { results := [.lit (.bool false)], args := [d] }
  | _ => none }
def DiffSameWrongFalsely : Prop := diffSameRow.holds Try.pinned (OpenSpec.ofChange diffSameWrong)

/-- 'laminalaw17.DiffPuts': WHATEVER THE INPUT: true; the input reads as it did. -/
def diffPutsSpec : ChangeSpec := { name := "diffPuts", fn := fun _ => fun
  | [d] => { results := [.lit (.bool true)], args := [d] }
  | _ => none }
def diffPutsRow : OpenClaim := { program := "ytdehifinipmmcaa", sum := "3417a58afc8e89e9fecccdde0559fbd49268e14c88411f55f7c776a3b0de7598", func := "lamina/laminalaw17.DiffPuts", spec := "diffPuts", unfollowed := true, recurses := true, apart := false }
def DiffPutsSaid : Prop := diffPutsRow.holds Try.pinned (OpenSpec.ofChange diffPutsSpec)

/-- ITS FALSE NEIGHBOUR: 'it returns false'. Refute it at one input. -/
def diffPutsWrong : ChangeSpec := { name := "diffPuts", fn := fun _ => fun
  | [d] => { results := [.lit (.bool false)], args := [d] }
  | _ => none }
def DiffPutsWrongFalsely : Prop := diffPutsRow.holds Try.pinned (OpenSpec.ofChange diffPutsWrong)

/-- 'laminalaw17.DiffTakes': WHATEVER THE INPUT: true; the input reads as it did. -/
def diffTakesSpec : ChangeSpec := { name := "diffTakes", fn := fun _ => fun
  | [d] => { results := [.lit (.bool true)], args := [d] }
  | _ => none }
def diffTakesRow : OpenClaim := { program := "ytdehifinipmmcaa", sum := "3417a58afc8e89e9fecccdde0559fbd49268e14c88411f55f7c776a3b0de7598", func := "lamina/laminalaw17.DiffTakes", spec := "diffTakes", unfollowed := true, recurses := true, apart := false }
def DiffTakesSaid : Prop := diffTakesRow.holds Try.pinned (OpenSpec.ofChange diffTakesSpec)

/-- ITS FALSE NEIGHBOUR: 'it returns false'. Refute it at one input. -/
def diffTakesWrong : ChangeSpec := { name := "diffTakes", fn := fun _ => fun
  | [d] => { results := [.lit (.bool false)], args := [d] }
  | _ => none }
def DiffTakesWrongFalsely : Prop := diffTakesRow.holds Try.pinned (OpenSpec.ofChange diffTakesWrong)

/- THE SECOND FORM. 'bulk': how many values and letters a reading holds, each counted each time it is reached (what is shared counts as often as it is met; a slice's spare places count too). A statement '..UptoSaid' is the law's where the arguments, and the package variables that the reading takes, are together of bulk at most 1048576: NARROWER than '..Said'. Prove '..Said' where nothing that the law and all that it calls make is longer than what came in: it says more and counts as full. Else prove '..UptoSaid'. A law counts once. -/
mutual
def uptoBulk {H : Type} : DataW H → Nat
  | .lit (.string bytes) => bytes.length + 1
  | .lit _ => 1
  | .nil => 1
  | .ptr d => uptoBulk d + 1
  | .slice elems spare => uptoBulkAll elems + uptoBulkAll spare + 1
  | .agg parts => uptoBulkAll parts + 1
  | .iface _ d => uptoBulk d + 1
  | .map entries => uptoBulkEntries entries + 1
  | .held _ => 1
def uptoBulkAll {H : Type} : List (DataW H) → Nat
  | [] => 0
  | d :: r => uptoBulk d + uptoBulkAll r
def uptoBulkEntries {H : Type} : List (Lit × DataW H) → Nat
  | [] => 0
  | x :: r => uptoBulkEntry x + uptoBulkEntries r
def uptoBulkEntry {H : Type} : Lit × DataW H → Nat
  | (.string bytes, d) => bytes.length + uptoBulk d + 1
  | (_, d) => uptoBulk d + 1
 end
def uptoSmall : (H : Type) → List (DataW H) → Bool := fun _ ds => decide (uptoBulkAll ds ≤ 1048576)
def OpenSpec.upto (s : _root_.Go.ChangeSpec) : _root_.Go.OpenSpec := { _root_.Go.OpenSpec.ofChange s with cond := some uptoSmall }

/-- 'laminalaw17.DiffApplies', WHERE WHAT IT READS IS OF BULK AT MOST 1048576: true; the input reads as it did. -/
def diffAppliesUptoRow : OpenClaim := { program := "ytdehifinipmmcaa", sum := "3417a58afc8e89e9fecccdde0559fbd49268e14c88411f55f7c776a3b0de7598", func := "lamina/laminalaw17.DiffApplies", spec := "diffApplies", unfollowed := true, recurses := true, apart := false, narrowed := true }
def DiffAppliesUptoSaid : Prop := diffAppliesUptoRow.holds Try.pinned (OpenSpec.upto diffAppliesSpec)

/-- 'laminalaw17.DiffBetween', WHERE WHAT IT READS IS OF BULK AT MOST 1048576: true; the input reads as it did. -/
def diffBetweenUptoRow : OpenClaim := { program := "ytdehifinipmmcaa", sum := "3417a58afc8e89e9fecccdde0559fbd49268e14c88411f55f7c776a3b0de7598", func := "lamina/laminalaw17.DiffBetween", spec := "diffBetween", unfollowed := true, recurses := true, apart := false, narrowed := true }
def DiffBetweenUptoSaid : Prop := diffBetweenUptoRow.holds Try.pinned (OpenSpec.upto diffBetweenSpec)

/-- 'laminalaw17.DiffSame', WHERE WHAT IT READS IS OF BULK AT MOST 1048576: true; the input reads as it did. -/
def diffSameUptoRow : OpenClaim := { program := "ytdehifinipmmcaa", sum := "3417a58afc8e89e9fecccdde0559fbd49268e14c88411f55f7c776a3b0de7598", func := "lamina/laminalaw17.DiffSame", spec := "diffSame", unfollowed := true, recurses := true, apart := false, narrowed := true }
def DiffSameUptoSaid : Prop := diffSameUptoRow.holds Try.pinned (OpenSpec.upto diffSameSpec)

/-- 'laminalaw17.DiffPuts', WHERE WHAT IT READS IS OF BULK AT MOST 1048576: true; the input reads as it did. -/
def diffPutsUptoRow : OpenClaim := { program := "ytdehifinipmmcaa", sum := "3417a58afc8e89e9fecccdde0559fbd49268e14c88411f55f7c776a3b0de7598", func := "lamina/laminalaw17.DiffPuts", spec := "diffPuts", unfollowed := true, recurses := true, apart := false, narrowed := true }
def DiffPutsUptoSaid : Prop := diffPutsUptoRow.holds Try.pinned (OpenSpec.upto diffPutsSpec)

/-- 'laminalaw17.DiffTakes', WHERE WHAT IT READS IS OF BULK AT MOST 1048576: true; the input reads as it did. -/
def diffTakesUptoRow : OpenClaim := { program := "ytdehifinipmmcaa", sum := "3417a58afc8e89e9fecccdde0559fbd49268e14c88411f55f7c776a3b0de7598", func := "lamina/laminalaw17.DiffTakes", spec := "diffTakes", unfollowed := true, recurses := true, apart := false, narrowed := true }
def DiffTakesUptoSaid : Prop := diffTakesUptoRow.holds Try.pinned (OpenSpec.upto diffTakesSpec)

end Rows
end Go.Proofs.Ytdehifinipmmcaa
