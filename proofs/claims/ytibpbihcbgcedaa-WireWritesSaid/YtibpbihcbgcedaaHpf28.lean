/- Contracts of functions of the given program, and what they lean on: written by this session's own program hprint.py, which lays hand texts into the kit's printer. -/
import Derived.Test.YtibpbihcbgcedaaHp0
import Derived.Test.YtibpbihcbgcedaaHpaC
import Derived.Test.YtibpbihcbgcedaaHpf35
import Derived.Test.YtibpbihcbgcedaaHpf47
namespace Go.Proofs.Ytibpbihcbgcedaa.Hp
open Go.RowKit Go.Proofs.YtibpbihcbgcedaaW.PrintWords Go.Proofs.YtibpbihcbgcedaaW.PrintLast Go.Proofs.YtibpbihcbgcedaaW.PrintMore
attribute [local go_sem] max2_int min2_int max_two min_two max_three min_three max_four min_four   -- for this text's walks alone
set_option linter.unusedVariables false
set_option linter.unusedSimpArgs false

/-! ### wire_Writer_Byte: function 28 -/
theorem wire_Writer_Byte.calls (S : Nat → Prop) (z : Bool) (h : Value) (l : List Int) (b : Int) (w : World) (hw : Wr w S z h l) (hl : l.length + 1 ≤ 140737488355328) :
    Calls Try.prog 28 #[h, .int .u8 b] w fun e w' => e = .returned (.tuple #[]) ∧ WrTo w w' S z h (app z l ([b])) := by
  have HW := Aside0.mk hw
  clear hw
  go_enter Try.func28, Try.ntmps28
  go_wp2_with fail
  have hc := C_lit w [b] (by simp) (0, 0)
  refine (wire_Writer_add.calls S z h l (some ⟨w.heap.size, 0, none⟩) 1 [b] _ (HW.out.below (below_alloc (Below.refl _ _) _)) hc (by simpa using hl)).mono ?_
  rintro e w1 ⟨rfl, hx⟩
  go_wp2
  go_end0
  exact ⟨rfl, hx.late (below_alloc (Below.refl _ _) _)⟩

end Go.Proofs.Ytibpbihcbgcedaa.Hp
