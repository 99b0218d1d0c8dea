/- Contracts of functions of the given program, and what they lean on: written by this session's own program hprint.py, which lays hand texts into the kit's printer. -/
import Derived.Test.YtgoipblpoopemaaHp0
import Derived.Test.YtgoipblpoopemaaHpaC
import Derived.Test.YtgoipblpoopemaaHpf11
namespace Go.Proofs.Ytgoipblpoopemaa.Hp
open Go.RowKit Go.Proofs.YtgoipblpoopemaaW.PrintWords Go.Proofs.YtgoipblpoopemaaW.PrintLast Go.Proofs.YtgoipblpoopemaaW.PrintMore
attribute [local go_sem] max2_int min2_int max_two min_two max_three min_three max_four min_four   -- for this text's walks alone
set_option linter.unusedVariables false
set_option linter.unusedSimpArgs false

/-! ### laminalaw01_alive: function 8 -/
theorem alive_sum : crc_Sum.f [[49, 50, 51, 52], [53, 54, 55, 56, 57]] = some 3808858755 := by decide
theorem laminalaw01_alive.calls (w : World) : Calls Try.prog 8 #[] w fun e w' => e = .returned (.bool true) ∧ Below w.heap.size w w' := by
  have kc := const_bytes
  have kc2 := const_bytes2
  go_enter Try.func8, Try.ntmps8
  go_wp2_with fail
  refine (crc_Sum.calls _ _ [[49, 50, 51, 52], [53, 54, 55, 56, 57]] 3808858755 _ ?hC (by decide) alive_sum).mono ?_
  case hC =>
    have h := C_row2 (c1 := 4) (c2 := 5) (l1 := [49, 50, 51, 52]) (l2 := [53, 54, 55, 56, 57]) (Kd.C_alloc (C_lit w [49, 50, 51, 52] (by decide) (4, 5)) _) (by decide) (C_lit (w.alloc (.cells #[.int .u8 49, .int .u8 50, .int .u8 51, .int .u8 52] 5 (4, 5))) [53, 54, 55, 56, 57] (by decide) (5, 6)) (by decide)
    simpa using h
  rintro e w1 ⟨rfl, hb⟩
  have HB := Aside0.mk (below_step (below_alloc (below_alloc (below_alloc (Below.refl _ w) _) _) _) hb)
  clear hb
  go_wp2
  go_ret
  exact ⟨rfl, HB.out⟩

end Go.Proofs.Ytgoipblpoopemaa.Hp
