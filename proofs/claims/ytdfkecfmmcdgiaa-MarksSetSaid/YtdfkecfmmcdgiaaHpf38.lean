/- Contracts of functions of the given program, and what they lean on: written by this session's own program hprint.py, which lays hand texts into the kit's printer. -/
import Derived.Test.YtdfkecfmmcdgiaaHp0
import Derived.Test.YtdfkecfmmcdgiaaHpf40
namespace Go.Proofs.Ytdfkecfmmcdgiaa.Hp
open Go.RowKit Go.Proofs.YtdfkecfmmcdgiaaW.PrintWords Go.Proofs.YtdfkecfmmcdgiaaW.PrintLast Go.Proofs.YtdfkecfmmcdgiaaW.PrintMore
attribute [local go_sem] max2_int min2_int max_two min_two max_three min_three max_four min_four   -- for this text's walks alone
set_option linter.unusedVariables false
set_option linter.unusedSimpArgs false

/-! ### marks_Marks_byte_38: function 38 -/
theorem marks_Marks_byte_38.calls (A0 : Option Addr) (c0 : Nat) (l0 : List Int) (w : World) (hr0 : Kd.C (Kd.int .u8) w A0 l0.length l0) :
    Calls Try.prog 38 #[.slice A0 l0.length c0, .func (.func 33) #[] #[]] w fun e w' => e = .returned (.bool (l0.any (fun x => decide (x > 3)))) ∧ Drawn0 w w' := by
  have HC := fun W (h : Kd.C (Kd.int .u8) W A0 l0.length l0) => marks_Marks_byte_40.calls A0 c0 l0 W h
  have HR := Aside0.mk hr0
  clear hr0
  go_enter Try.func38, Try.ntmps38
  go_wp2_with fail
  refine (HC _ HR.out).mono ?_
  rintro e w1 ⟨n, rfl, hn, ⟨n2, rfl⟩⟩
  go_wp2
  go_ret
  exact ⟨by rw [← hn]; rfl, ⟨_, rfl⟩⟩

end Go.Proofs.Ytdfkecfmmcdgiaa.Hp
