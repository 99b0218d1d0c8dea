/-
  No cell of these rows narrows 'for every input' (looked for: loops, veiled, ifaces, maps, wideKeys, modest, calm, conditions, laid).
  DERIVED. THE GIVEN ROWS OF THIS SEAT. 6 by the template 'for every input the law returns true; each argument reads behind the call as it read before'; 0 by the template 'total and deterministic' (their statements: YtdfkecfmmcdgiaaTotals.lean).
  GIVEN WITH THE SEED: the statements are not yours to turn. If you find one false, say at which input.
  Laid BY PROGRAM, IN A SANDBOX (cutbox-rows.mjs): the forced cells as the released guide's own fill.sh prints them over the translation 2ed54fb3f0c3c849… (all of the seat's roots in one cut). By AI agents, Wed Nov 11 2026. No macro, syntax, notation, axiom, sorry.
-/
import Derived.Test.YtdfkecfmmcdgiaaChecked
import GoSem.Claim
import GoSem.ClaimJoined
import GoSem.ClaimMapViews
import Derived.JoinedTies
import Derived.KernelRfl
namespace Go.Proofs.Ytdfkecfmmcdgiaa
/- THE CELL 'sum', in the pinned program and in every row, IS THE sha256 OF THE DUMP (.gsa) THAT YtdfkecfmmcdgiaaProg.lean LOADS. Nothing in Lean hashes anything: it is a label: what it is worth is what the hold of that sum in a sandbox is worth. -/
noncomputable def Try.pinned : Pinned := { name := "ytdfkecfmmcdgiaa", sum := "2ed54fb3f0c3c849c7142a761ffcd23d1c434c10b5709b762424069d71bd5138", checked := Try.checked }
namespace Rows
def none {H : Type} : Left H := { results := [], args := [] }

/-- 'laminalaw10.MarksSet': WHATEVER THE INPUT: true; the input reads as it did. -/
def marksSetSpec : ChangeSpec := { name := "marksSet", fn := fun _ => fun
  | [d1, d2, d3] => { results := [.lit (.bool true)], args := [d1, d2, d3] }
  | _ => none }
def marksSetRow : OpenClaim := { program := "ytdfkecfmmcdgiaa", sum := "2ed54fb3f0c3c849c7142a761ffcd23d1c434c10b5709b762424069d71bd5138", func := "lamina/laminalaw10.MarksSet", spec := "marksSet", unfollowed := true, recurses := true, apart := false }
def MarksSetSaid : Prop := marksSetRow.holds Try.pinned (OpenSpec.ofChange marksSetSpec)

/-- ITS FALSE NEIGHBOUR: 'it returns false'. Refute it at one input. -/
def marksSetWrong : ChangeSpec := { name := "marksSet", fn := fun _ => fun
  | [d1, d2, d3] => { results := [.lit (.bool false)], args := [d1, d2, d3] }
  | _ => none }
def MarksSetWrongFalsely : Prop := marksSetRow.holds Try.pinned (OpenSpec.ofChange marksSetWrong)

/-- 'laminalaw10.MarksScan': WHATEVER THE INPUT: true; the input reads as it did. -/
def marksScanSpec : ChangeSpec := { name := "marksScan", fn := fun _ => fun
  | [d1, d2, d3] => { results := [.lit (.bool true)], args := [d1, d2, d3] }
  | _ => none }
def marksScanRow : OpenClaim := { program := "ytdfkecfmmcdgiaa", sum := "2ed54fb3f0c3c849c7142a761ffcd23d1c434c10b5709b762424069d71bd5138", func := "lamina/laminalaw10.MarksScan", spec := "marksScan", unfollowed := true, recurses := true, apart := false }
def MarksScanSaid : Prop := marksScanRow.holds Try.pinned (OpenSpec.ofChange marksScanSpec)

/-- ITS FALSE NEIGHBOUR: 'it returns false'. Refute it at one input. -/
def marksScanWrong : ChangeSpec := { name := "marksScan", fn := fun _ => fun
  | [d1, d2, d3] => { results := [.lit (.bool false)], args := [d1, d2, d3] }
  | _ => none }
def MarksScanWrongFalsely : Prop := marksScanRow.holds Try.pinned (OpenSpec.ofChange marksScanWrong)

/-- 'laminalaw10.MarksPut': WHATEVER THE INPUT: true; the input reads as it did. -/
def marksPutSpec : ChangeSpec := { name := "marksPut", fn := fun _ => fun
  | [d] => { results := [.lit (.bool true)], args := [d] }
  | _ => none }
def marksPutRow : OpenClaim := { program := "ytdfkecfmmcdgiaa", sum := "2ed54fb3f0c3c849c7142a761ffcd23d1c434c10b5709b762424069d71bd5138", func := "lamina/laminalaw10.MarksPut", spec := "marksPut", unfollowed := true, recurses := true, apart := false }
def MarksPutSaid : Prop := marksPutRow.holds Try.pinned (OpenSpec.ofChange marksPutSpec)

/-- ITS FALSE NEIGHBOUR: 'it returns false'. Refute it at one input. -/
def marksPutWrong : ChangeSpec := { name := "marksPut", fn := fun _ => fun
  | [d] => { results := [.lit (.bool false)], args := [d] }
  | _ => none }
def MarksPutWrongFalsely : Prop := marksPutRow.holds Try.pinned (OpenSpec.ofChange marksPutWrong)

/-- 'laminalaw10.MarksTake': WHATEVER THE INPUT: true; the input reads as it did. -/
def marksTakeSpec : ChangeSpec := { name := "marksTake", fn := fun _ => fun
  | [d] => { results := [.lit (.bool true)], args := [d] }
  | _ => none }
def marksTakeRow : OpenClaim := { program := "ytdfkecfmmcdgiaa", sum := "2ed54fb3f0c3c849c7142a761ffcd23d1c434c10b5709b762424069d71bd5138", func := "lamina/laminalaw10.MarksTake", spec := "marksTake", unfollowed := true, recurses := true, apart := false }
def MarksTakeSaid : Prop := marksTakeRow.holds Try.pinned (OpenSpec.ofChange marksTakeSpec)

/-- ITS FALSE NEIGHBOUR: 'it returns false'. Refute it at one input. -/
def marksTakeWrong : ChangeSpec := { name := "marksTake", fn := fun _ => fun
  | [d] => { results := [.lit (.bool false)], args := [d] }
  | _ => none }
def MarksTakeWrongFalsely : Prop := marksTakeRow.holds Try.pinned (OpenSpec.ofChange marksTakeWrong)

/-- 'laminalaw10.MarksChanged': WHATEVER THE INPUT: true; the input reads as it did. -/
def marksChangedSpec : ChangeSpec := { name := "marksChanged", fn := fun _ => fun
  | [d1, d2] => { results := [.lit (.bool true)], args := [d1, d2] }
  | _ => none }
def marksChangedRow : OpenClaim := { program := "ytdfkecfmmcdgiaa", sum := "2ed54fb3f0c3c849c7142a761ffcd23d1c434c10b5709b762424069d71bd5138", func := "lamina/laminalaw10.MarksChanged", spec := "marksChanged", unfollowed := true, recurses := true, apart := false }
def MarksChangedSaid : Prop := marksChangedRow.holds Try.pinned (OpenSpec.ofChange marksChangedSpec)

/-- ITS FALSE NEIGHBOUR: 'it returns false'. Refute it at one input. -/
def marksChangedWrong : ChangeSpec := { name := "marksChanged", fn := fun _ => fun
  | [d1, d2] => { results := [.lit (.bool false)], args := [d1, d2] }
  | _ => none }
def MarksChangedWrongFalsely : Prop := marksChangedRow.holds Try.pinned (OpenSpec.ofChange marksChangedWrong)

/-- 'laminalaw10.MarksSince': WHATEVER THE INPUT: true; the input reads as it did. -/
def marksSinceSpec : ChangeSpec := { name := "marksSince", fn := fun _ => fun
  | [d1, d2] => { results := [.lit (.bool true)], args := [d1, d2] }
  | _ => none }
def marksSinceRow : OpenClaim := { program := "ytdfkecfmmcdgiaa", sum := "2ed54fb3f0c3c849c7142a761ffcd23d1c434c10b5709b762424069d71bd5138", func := "lamina/laminalaw10.MarksSince", spec := "marksSince", unfollowed := true, recurses := true, apart := false }
def MarksSinceSaid : Prop := marksSinceRow.holds Try.pinned (OpenSpec.ofChange marksSinceSpec)

/-- ITS FALSE NEIGHBOUR: 'it returns false'. Refute it at one input. -/
def marksSinceWrong : ChangeSpec := { name := "marksSince", fn := fun _ => fun
  | [d1, d2] => { results := [.lit (.bool false)], args := [d1, d2] }
  | _ => none }
def MarksSinceWrongFalsely : Prop := marksSinceRow.holds Try.pinned (OpenSpec.ofChange marksSinceWrong)

/- THE SECOND FORM. 'bulk': how many values and letters a reading holds, each counted each time it is reached (what is shared counts as often as it is met; a slice's spare places count too). A statement '..UptoSaid' is the law's where the arguments, and the package variables that the reading takes, are together of bulk at most 1048576: NARROWER than '..Said'. Prove '..Said' where nothing that the law and all that it calls make is longer than what came in: it says more and counts as full. Else prove '..UptoSaid'. A law counts once. -/
mutual
def uptoBulk {H : Type} : DataW H → Nat
  | .lit (.string bytes) => bytes.length + 1
  | .lit _ => 1
  | .nil => 1
  | .ptr d => uptoBulk d + 1
  | .slice elems spare => uptoBulkAll elems + uptoBulkAll spare + 1
  | .agg parts => uptoBulkAll parts + 1
  | .iface _ d => uptoBulk d + 1
  | .map entries => uptoBulkEntries entries + 1
  | .held _ => 1
def uptoBulkAll {H : Type} : List (DataW H) → Nat
  | [] => 0
  | d :: r => uptoBulk d + uptoBulkAll r
def uptoBulkEntries {H : Type} : List (Lit × DataW H) → Nat
  | [] => 0
  | x :: r => uptoBulkEntry x + uptoBulkEntries r
def uptoBulkEntry {H : Type} : Lit × DataW H → Nat
  | (.string bytes, d) => bytes.length + uptoBulk d + 1
  | (_, d) => uptoBulk d + 1
 end
def uptoSmall : (H : Type) → List (DataW H) → Bool := fun _ ds => decide (uptoBulkAll ds ≤ 1048576)
def OpenSpec.upto (s : _root_.Go.ChangeSpec) : _root_.Go.OpenSpec := { _root_.Go.OpenSpec.ofChange s with cond := some uptoSmall }

/-- 'laminalaw10.MarksSet', WHERE WHAT IT READS IS OF BULK AT MOST 1048576: true; the input reads as it did. -/
def marksSetUptoRow : OpenClaim := { program := "ytdfkecfmmcdgiaa", sum := "2ed54fb3f0c3c849c7142a761ffcd23d1c434c10b5709b762424069d71bd5138", func := "lamina/laminalaw10.MarksSet", spec := "marksSet", unfollowed := true, recurses := true, apart := false, narrowed := true }
def MarksSetUptoSaid : Prop := marksSetUptoRow.holds Try.pinned (OpenSpec.upto marksSetSpec)

/-- 'laminalaw10.MarksScan', WHERE WHAT IT READS IS OF BULK AT MOST 1048576: true; the input reads as it did. -/
def marksScanUptoRow : OpenClaim := { program := "ytdfkecfmmcdgiaa", sum := "2ed54fb3f0c3c849c7142a761ffcd23d1c434c10b5709b762424069d71bd5138", func := "lamina/laminalaw10.MarksScan", spec := "marksScan", unfollowed := true, recurses := true, apart := false, narrowed := true }
def MarksScanUptoSaid : Prop := marksScanUptoRow.holds Try.pinned (OpenSpec.upto marksScanSpec)

/-- 'laminalaw10.MarksPut', WHERE WHAT IT READS IS OF BULK AT MOST 1048576: true; the input reads as it did. -/
def marksPutUptoRow : OpenClaim := { program := "ytdfkecfmmcdgiaa", sum := "2ed54fb3f0c3c849c7142a761ffcd23d1c434c10b5709b762424069d71bd5138", func := "lamina/laminalaw10.MarksPut", spec := "marksPut", unfollowed := true, recurses := true, apart := false, narrowed := true }
def MarksPutUptoSaid : Prop := marksPutUptoRow.holds Try.pinned (OpenSpec.upto marksPutSpec)

/-- 'laminalaw10.MarksTake', WHERE WHAT IT READS IS OF BULK AT MOST 1048576: true; the input reads as it did. -/
def marksTakeUptoRow : OpenClaim := { program := "ytdfkecfmmcdgiaa", sum := "2ed54fb3f0c3c849c7142a761ffcd23d1c434c10b5709b762424069d71bd5138", func := "lamina/laminalaw10.MarksTake", spec := "marksTake", unfollowed := true, recurses := true, apart := false, narrowed := true }
def MarksTakeUptoSaid : Prop := marksTakeUptoRow.holds Try.pinned (OpenSpec.upto marksTakeSpec)

/-- 'laminalaw10.MarksChanged', WHERE WHAT IT READS IS OF BULK AT MOST 1048576: true; the input reads as it did. -/
def marksChangedUptoRow : OpenClaim := { program := "ytdfkecfmmcdgiaa", sum := "2ed54fb3f0c3c849c7142a761ffcd23d1c434c10b5709b762424069d71bd5138", func := "lamina/laminalaw10.MarksChanged", spec := "marksChanged", unfollowed := true, recurses := true, apart := false, narrowed := true }
def MarksChangedUptoSaid : Prop := marksChangedUptoRow.holds Try.pinned (OpenSpec.upto marksChangedSpec)

/-- 'laminalaw10.MarksSince', WHERE WHAT IT READS IS OF BULK AT MOST 1048576: true; the input reads as it did. -/
def marksSinceUptoRow : OpenClaim := { program := "ytdfkecfmmcdgiaa", sum := "2ed54fb3f0c3c849c7142a761ffcd23d1c434c10b5709b762424069d71bd5138", func := "lamina/laminalaw10.MarksSince", spec := "marksSince", unfollowed := true, recurses := true, apart := false, narrowed := true }
def MarksSinceUptoSaid : Prop := marksSinceUptoRow.holds Try.pinned (OpenSpec.upto marksSinceSpec)

end Rows
end Go.Proofs.Ytdfkecfmmcdgiaa
