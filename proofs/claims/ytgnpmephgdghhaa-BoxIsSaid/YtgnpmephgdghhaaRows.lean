/-
  No cell of these rows narrows 'for every input' (looked for: loops, veiled, ifaces, maps, wideKeys, modest, calm, conditions, laid).
  DERIVED. THE GIVEN ROWS OF THIS SEAT. 5 by the template 'for every input the law returns true; each argument reads behind the call as it read before'; 0 by the template 'total and deterministic' (their statements: YtgnpmephgdghhaaTotals.lean).
  GIVEN WITH THE SEED: the statements are not yours to turn. If you find one false, say at which input.
  Laid BY PROGRAM, IN A SANDBOX (cutbox-rows.mjs): the forced cells as the released guide's own fill.sh prints them over the translation 3f2c2cfaaf0c1b1f… (all of the seat's roots in one cut). By AI agents, Wed Nov 11 2026. No macro, syntax, notation, axiom, sorry.
-/
import Derived.Test.YtgnpmephgdghhaaChecked
import GoSem.Claim
import GoSem.ClaimJoined
import GoSem.ClaimMapViews
import Derived.JoinedTies
import Derived.KernelRfl
namespace Go.Proofs.Ytgnpmephgdghhaa
/- THE CELL 'sum', in the pinned program and in every row, IS THE sha256 OF THE DUMP (.gsa) THAT YtgnpmephgdghhaaProg.lean LOADS. Nothing in Lean hashes anything: it is a label: what it is worth is what the hold of that sum in a sandbox is worth. -/
noncomputable def Try.pinned : Pinned := { name := "ytgnpmephgdghhaa", sum := "3f2c2cfaaf0c1b1f803f7689c20a562140ed9835b5e7736bb78c6b41e248f4ee", checked := Try.checked }
namespace Rows
def none {H : Type} : Left H := { results := [], args := [] }

/-- 'laminalaw04.BoxSeals': WHATEVER THE INPUT: true; the input reads as it did. -/
def boxSealsSpec : ChangeSpec := { name := "boxSeals", fn := fun _ => fun
  | [d] => { results := [.lit (.bool true)], args := [d] }
  | _ => none }
def boxSealsRow : OpenClaim := { program := "ytgnpmephgdghhaa", sum := "3f2c2cfaaf0c1b1f803f7689c20a562140ed9835b5e7736bb78c6b41e248f4ee", func := "lamina/laminalaw04.BoxSeals", spec := "boxSeals", apart := false }
def BoxSealsSaid : Prop := boxSealsRow.holds Try.pinned (OpenSpec.ofChange boxSealsSpec)

/-- ITS FALSE NEIGHBOUR: 'it returns false'. Refute it at one input. -/
def boxSealsWrong : ChangeSpec := { name := "boxSeals", fn := fun _ => fun
  | [d] => { results := [.lit (.bool false)], args := [d] }
  | _ => none }
def BoxSealsWrongFalsely : Prop := boxSealsRow.holds Try.pinned (OpenSpec.ofChange boxSealsWrong)

/-- 'laminalaw04.BoxIs': WHATEVER THE INPUT: true; the input reads as it did. -/
def boxIsSpec : ChangeSpec := { name := "boxIs", fn := fun _ => fun
  | [d] => { results := [.lit (.bool true)], args := [d] }
  | _ => none }
def boxIsRow : OpenClaim := { program := "ytgnpmephgdghhaa", sum := "3f2c2cfaaf0c1b1f803f7689c20a562140ed9835b5e7736bb78c6b41e248f4ee", func := "lamina/laminalaw04.BoxIs", spec := "boxIs", apart := false }
def BoxIsSaid : Prop := boxIsRow.holds Try.pinned (OpenSpec.ofChange boxIsSpec)

/-- ITS FALSE NEIGHBOUR: 'it returns false'. Refute it at one input. -/
def boxIsWrong : ChangeSpec := { name := "boxIs", fn := fun _ => fun
  | [d] => { results := [.lit (.bool false)], args := [d] }
  | _ => none }
def BoxIsWrongFalsely : Prop := boxIsRow.holds Try.pinned (OpenSpec.ofChange boxIsWrong)

/-- 'laminalaw04.BoxTurns': WHATEVER THE INPUT: true; the input reads as it did. -/
def boxTurnsSpec : ChangeSpec := { name := "boxTurns", fn := fun _ => fun
  | [d1, d2, d3] => { results := [.lit (.bool true)], args := [d1, d2, d3] }
  | _ => none }
def boxTurnsRow : OpenClaim := { program := "ytgnpmephgdghhaa", sum := "3f2c2cfaaf0c1b1f803f7689c20a562140ed9835b5e7736bb78c6b41e248f4ee", func := "lamina/laminalaw04.BoxTurns", spec := "boxTurns", apart := false }
def BoxTurnsSaid : Prop := boxTurnsRow.holds Try.pinned (OpenSpec.ofChange boxTurnsSpec)

/-- ITS FALSE NEIGHBOUR: 'it returns false'. Refute it at one input. -/
def boxTurnsWrong : ChangeSpec := { name := "boxTurns", fn := fun _ => fun
  | [d1, d2, d3] => { results := [.lit (.bool false)], args := [d1, d2, d3] }
  | _ => none }
def BoxTurnsWrongFalsely : Prop := boxTurnsRow.holds Try.pinned (OpenSpec.ofChange boxTurnsWrong)

/-- 'laminalaw04.BoxApart': WHATEVER THE INPUT: true; the input reads as it did. -/
def boxApartSpec : ChangeSpec := { name := "boxApart", fn := fun _ => fun
  | [d1, d2] => { results := [.lit (.bool true)], args := [d1, d2] }
  | _ => none }
def boxApartRow : OpenClaim := { program := "ytgnpmephgdghhaa", sum := "3f2c2cfaaf0c1b1f803f7689c20a562140ed9835b5e7736bb78c6b41e248f4ee", func := "lamina/laminalaw04.BoxApart", spec := "boxApart", apart := false }
def BoxApartSaid : Prop := boxApartRow.holds Try.pinned (OpenSpec.ofChange boxApartSpec)

/-- ITS FALSE NEIGHBOUR: 'it returns false'. Refute it at one input. -/
def boxApartWrong : ChangeSpec := { name := "boxApart", fn := fun _ => fun
  | [d1, d2] => { results := [.lit (.bool false)], args := [d1, d2] }
  | _ => none }
def BoxApartWrongFalsely : Prop := boxApartRow.holds Try.pinned (OpenSpec.ofChange boxApartWrong)

/-- 'laminalaw04.BoxParts': WHATEVER THE INPUT: true; the input reads as it did. -/
def boxPartsSpec : ChangeSpec := { name := "boxParts", fn := fun _ => fun
  | [d] => { results := [.lit (.bool true)], args := [d] }
  | _ => none }
def boxPartsRow : OpenClaim := { program := "ytgnpmephgdghhaa", sum := "3f2c2cfaaf0c1b1f803f7689c20a562140ed9835b5e7736bb78c6b41e248f4ee", func := "lamina/laminalaw04.BoxParts", spec := "boxParts", unfollowed := true, recurses := true, apart := false }
def BoxPartsSaid : Prop := boxPartsRow.holds Try.pinned (OpenSpec.ofChange boxPartsSpec)

/-- ITS FALSE NEIGHBOUR: 'it returns false'. Refute it at one input. -/
def boxPartsWrong : ChangeSpec := { name := "boxParts", fn := fun _ => fun
  | [d] => { results := [.lit (.bool false)], args := [d] }
  | _ => none }
def BoxPartsWrongFalsely : Prop := boxPartsRow.holds Try.pinned (OpenSpec.ofChange boxPartsWrong)

/- THE SECOND FORM. 'bulk': how many values and letters a reading holds, each counted each time it is reached (what is shared counts as often as it is met; a slice's spare places count too). A statement '..UptoSaid' is the law's where the arguments, and the package variables that the reading takes, are together of bulk at most 1048576: NARROWER than '..Said'. Prove '..Said' where nothing that the law and all that it calls make is longer than what came in: it says more and counts as full. Else prove '..UptoSaid'. A law counts once. -/
mutual
def uptoBulk {H : Type} : DataW H → Nat
  | .lit (.string bytes) => bytes.length + 1
  | .lit _ => 1
  | .nil => 1
  | .ptr d => uptoBulk d + 1
  | .slice elems spare => uptoBulkAll elems + uptoBulkAll spare + 1
  | .agg parts => uptoBulkAll parts + 1
  | .iface _ d => uptoBulk d + 1
  | .map entries => uptoBulkEntries entries + 1
  | .held _ => 1
def uptoBulkAll {H : Type} : List (DataW H) → Nat
  | [] => 0
  | d :: r => uptoBulk d + uptoBulkAll r
def uptoBulkEntries {H : Type} : List (Lit × DataW H) → Nat
  | [] => 0
  | x :: r => uptoBulkEntry x + uptoBulkEntries r
def uptoBulkEntry {H : Type} : Lit × DataW H → Nat
  | (.string bytes, d) => bytes.length + uptoBulk d + 1
  | (_, d) => uptoBulk d + 1
 end
def uptoSmall : (H : Type) → List (DataW H) → Bool := fun _ ds => decide (uptoBulkAll ds ≤ 1048576)
def OpenSpec.upto (s : _root_.Go.ChangeSpec) : _root_.Go.OpenSpec := { _root_.Go.OpenSpec.ofChange s with cond := some uptoSmall }

/-- 'laminalaw04.BoxSeals', WHERE WHAT IT READS IS OF BULK AT MOST 1048576: true; the input reads as it did. -/
def boxSealsUptoRow : OpenClaim := { program := "ytgnpmephgdghhaa", sum := "3f2c2cfaaf0c1b1f803f7689c20a562140ed9835b5e7736bb78c6b41e248f4ee", func := "lamina/laminalaw04.BoxSeals", spec := "boxSeals", apart := false, narrowed := true }
def BoxSealsUptoSaid : Prop := boxSealsUptoRow.holds Try.pinned (OpenSpec.upto boxSealsSpec)

/-- 'laminalaw04.BoxIs', WHERE WHAT IT READS IS OF BULK AT MOST 1048576: true; the input reads as it did. -/
def boxIsUptoRow : OpenClaim := { program := "ytgnpmephgdghhaa", sum := "3f2c2cfaaf0c1b1f803f7689c20a562140ed9835b5e7736bb78c6b41e248f4ee", func := "lamina/laminalaw04.BoxIs", spec := "boxIs", apart := false, narrowed := true }
def BoxIsUptoSaid : Prop := boxIsUptoRow.holds Try.pinned (OpenSpec.upto boxIsSpec)

/-- 'laminalaw04.BoxTurns', WHERE WHAT IT READS IS OF BULK AT MOST 1048576: true; the input reads as it did. -/
def boxTurnsUptoRow : OpenClaim := { program := "ytgnpmephgdghhaa", sum := "3f2c2cfaaf0c1b1f803f7689c20a562140ed9835b5e7736bb78c6b41e248f4ee", func := "lamina/laminalaw04.BoxTurns", spec := "boxTurns", apart := false, narrowed := true }
def BoxTurnsUptoSaid : Prop := boxTurnsUptoRow.holds Try.pinned (OpenSpec.upto boxTurnsSpec)

/-- 'laminalaw04.BoxApart', WHERE WHAT IT READS IS OF BULK AT MOST 1048576: true; the input reads as it did. -/
def boxApartUptoRow : OpenClaim := { program := "ytgnpmephgdghhaa", sum := "3f2c2cfaaf0c1b1f803f7689c20a562140ed9835b5e7736bb78c6b41e248f4ee", func := "lamina/laminalaw04.BoxApart", spec := "boxApart", apart := false, narrowed := true }
def BoxApartUptoSaid : Prop := boxApartUptoRow.holds Try.pinned (OpenSpec.upto boxApartSpec)

/-- 'laminalaw04.BoxParts', WHERE WHAT IT READS IS OF BULK AT MOST 1048576: true; the input reads as it did. -/
def boxPartsUptoRow : OpenClaim := { program := "ytgnpmephgdghhaa", sum := "3f2c2cfaaf0c1b1f803f7689c20a562140ed9835b5e7736bb78c6b41e248f4ee", func := "lamina/laminalaw04.BoxParts", spec := "boxParts", unfollowed := true, recurses := true, apart := false, narrowed := true }
def BoxPartsUptoSaid : Prop := boxPartsUptoRow.holds Try.pinned (OpenSpec.upto boxPartsSpec)

end Rows
end Go.Proofs.Ytgnpmephgdghhaa
