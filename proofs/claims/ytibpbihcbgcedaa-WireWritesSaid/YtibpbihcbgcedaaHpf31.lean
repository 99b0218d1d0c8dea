/- Contracts of functions of the given program, and what they lean on: written by this session's own program hprint.py, which lays hand texts into the kit's printer. -/
import Derived.Test.YtibpbihcbgcedaaHp0
import Derived.Test.YtibpbihcbgcedaaHpf35
import Derived.Test.YtibpbihcbgcedaaHpf47
import Derived.Test.YtibpbihcbgcedaaHpf49
namespace Go.Proofs.Ytibpbihcbgcedaa.Hp
open Go.RowKit Go.Proofs.YtibpbihcbgcedaaW.PrintWords Go.Proofs.YtibpbihcbgcedaaW.PrintLast Go.Proofs.YtibpbihcbgcedaaW.PrintMore
attribute [local go_sem] max2_int min2_int max_two min_two max_three min_three max_four min_four   -- for this text's walks alone
set_option linter.unusedVariables false
set_option linter.unusedSimpArgs false

/-! ### wire_Writer_Text: function 31 -/
theorem wire_Writer_Text.calls (S : Nat → Prop) (z : Bool) (h : Value) (l : List Int) (s : ByteArray) (w : World) (hw : Wr w S z h l) (hl : l.length + 8 + s.size ≤ 140737488355328) :
    Calls Try.prog 31 #[h, .string s] w fun e w' => e = .returned (.tuple #[]) ∧ WrTo w w' S z h (app z l (numL s.size ++ bytesOf s)) := by
  have HW := Aside0.mk hw
  clear hw
  go_enter Try.func31, Try.ntmps31
  go_wp2_with fail
  refine (wire_sized_string.calls S z h l s _ HW.out hl).mono ?_
  rintro e w1 ⟨rfl, hx⟩
  go_wp2
  go_end0
  exact ⟨rfl, hx⟩

end Go.Proofs.Ytibpbihcbgcedaa.Hp
