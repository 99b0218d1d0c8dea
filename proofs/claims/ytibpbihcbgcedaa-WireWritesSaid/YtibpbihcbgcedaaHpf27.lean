/- Contracts of functions of the given program, and what they lean on: written by this session's own program hprint.py, which lays hand texts into the kit's printer. -/
import Derived.Test.YtibpbihcbgcedaaHp0
import Derived.Test.YtibpbihcbgcedaaHpaC
import Derived.Test.YtibpbihcbgcedaaHpf35
import Derived.Test.YtibpbihcbgcedaaHpf47
namespace Go.Proofs.Ytibpbihcbgcedaa.Hp
open Go.RowKit Go.Proofs.YtibpbihcbgcedaaW.PrintWords Go.Proofs.YtibpbihcbgcedaaW.PrintLast Go.Proofs.YtibpbihcbgcedaaW.PrintMore
attribute [local go_sem] max2_int min2_int max_two min_two max_three min_three max_four min_four   -- for this text's walks alone
set_option linter.unusedVariables false
set_option linter.unusedSimpArgs false

/-! ### wire_Writer_Flag: function 27 -/
theorem wire_Writer_Flag.calls (S : Nat → Prop) (z : Bool) (h : Value) (l : List Int) (b : Bool) (w : World) (hw : Wr w S z h l) (hl : l.length + 1 ≤ 140737488355328) :
    Calls Try.prog 27 #[h, .bool b] w fun e w' => e = .returned (.tuple #[]) ∧ WrTo w w' S z h (app z l ([if b = true then 1 else 0])) := by
  have HW := Aside0.mk hw
  clear hw
  cases b
  all_goals
    go_enter Try.func27, Try.ntmps27
    go_wp2_with fail
  · have hc := C_lit w [0] (by simp) (0, 0)
    refine (wire_Writer_add.calls S z h l (some ⟨w.heap.size, 0, none⟩) 1 [0] _ (HW.out.below (below_alloc (Below.refl _ _) _)) hc (by simpa using hl)).mono ?_
    rintro e w1 ⟨rfl, hx⟩
    go_wp2
    go_end0
    exact ⟨rfl, hx.late (below_alloc (Below.refl _ _) _)⟩
  · have hc := C_lit w [1] (by simp) (0, 0)
    refine (wire_Writer_add.calls S z h l (some ⟨w.heap.size, 0, none⟩) 1 [1] _ (HW.out.below (below_alloc (Below.refl _ _) _)) hc (by simpa using hl)).mono ?_
    rintro e w1 ⟨rfl, hx⟩
    go_wp2
    go_end0
    exact ⟨rfl, hx.late (below_alloc (Below.refl _ _) _)⟩

end Go.Proofs.Ytibpbihcbgcedaa.Hp
