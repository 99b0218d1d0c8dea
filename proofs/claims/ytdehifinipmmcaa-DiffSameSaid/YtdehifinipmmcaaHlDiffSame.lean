/- Contracts of functions of the given program, and what they lean on: written by this session's own program, out of hand texts laid into the kit's printer. -/
import Derived.Test.YtdehifinipmmcaaHp0
import Derived.Test.YtdehifinipmmcaaHg1
import Derived.Test.YtdehifinipmmcaaHg2
import Derived.Test.YtdehifinipmmcaaHg3
import Derived.Test.YtdehifinipmmcaaHg4
import Derived.Test.YtdehifinipmmcaaHg5
namespace Go.Proofs.Ytdehifinipmmcaa.Hp
open Go.RowKit Go.Proofs.YtdehifinipmmcaaW.PrintWords Go.Proofs.YtdehifinipmmcaaW.PrintLast Go.Proofs.YtdehifinipmmcaaW.PrintMore
attribute [local go_sem] max2_int min2_int max_two min_two max_three min_three max_four min_four   -- for this text's walks alone
set_option linter.unusedVariables false
set_option linter.unusedSimpArgs false

/-! ### laminalaw17_DiffSame: function 5 -/
set_option maxRecDepth 100000 in
theorem laminalaw17_DiffSame.law (cs0 : Array Value) (x0 : S53) (w : World) (hk0 : k53.K w x0 cs0.toList)
    (hg0 : (x0.f0.length * 1 ≤ 140737488351232 ∧ ∀ m ∈ x0.f0, (Lit.int .u8 m).wf = true) ∧ (x0.f1.length * 1 ≤ 140737488351232 ∧ ∀ m ∈ x0.f1, (Lit.int .u8 m).wf = true) ∧ (Lit.int .i64 x0.f2).wf = true ∧ (Lit.int .i64 x0.f3).wf = true) :
    Calls Try.prog 5 #[.agg cs0] w fun e w' => e = .returned (.bool true) ∧ Below w.heap.size w w' := by
  obtain ⟨A0, c0, A1, c1, hcs, l0, g0, l1, g1⟩ := k53_open hk0
  obtain rfl : cs0 = #[.slice A0 x0.f0.length c0, .slice A1 x0.f1.length c1, .int .i64 x0.f2, .int .i64 x0.f3] := by
    apply Array.toList_inj.1
    rw [hcs]
  obtain ⟨L, M, o, p⟩ := x0
  simp only at l0 g0 l1 g1 hg0 ⊢
  have HG0 := Aside0.mk g0
  have HG1 := Aside0.mk g1
  have h1 := hg0.1.1
  have h2 := hg0.2.1.1
  clear hg0 g0 g1 hk0 hcs
  go_enter Try.func5, Try.ntmps5
  go_wp2_with fail
  refine (laminalaw17_nothing.calls A0 c0 L A1 c1 M o p _ (Kd.C_alloc HG0.out _) l0 (Kd.C_alloc HG1.out _) l1 (by omega) (by omega)).mono ?_
  rintro e w1 ⟨rfl, hb⟩
  have HB := Aside0.mk (below_step (below_alloc (Below.refl w.heap.size w) _) hb)
  clear hb
  go_wp2
  go_ret
  exact ⟨rfl, HB.out⟩

end Go.Proofs.Ytdehifinipmmcaa.Hp
