/- Proved here: for every input the law BoxIs of the given program answers true and leaves its arguments as they were; there are no conditions. -/
import Derived.Test.YtgnpmephgdghhaaHlBoxIs
import Derived.Test.YtgnpmephgdghhaaRows
import Derived.Test.YtgnpmephgdghhaaOpens
import Derived.WalkKit
import Derived.ProofKit
import Derived.OpenShut
import Derived.ShutString
import Derived.ChangeOld
import Derived.Below
import Derived.SizedLaws
namespace Go.Proofs.Ytgnpmephgdghhaa.boxIs
open Go.ChangeShapes Go.WideShapes Go.ChangeAt Go.RowKit
open Go.ChangeMaps (open_string shut_string)
set_option linter.unusedVariables false
theorem own : ownKnob Try.prog.godebug = none := by kernel_rfl
theorem laidOut : laidOutB Try.prog = true := by kernel_rfl
set_option maxRecDepth 100000 in
theorem lifted (os : Os) (started : os.Started) (H : Type) (enc : TypeId × Value → H) :
    ReturnsInHanded {} Try.checked os 4 .any (Rows.boxIsSpec.pre6 enc Try.prog Try.f4 Rows.boxIsRow.domain false) (Rows.boxIsSpec.post enc Try.prog Try.f4 false true false false) := by
  refine returnsInHanded_of_change_sized (C := Try.checked) own started (by kernel_rfl) Try.func4
    (ChangeSpec.witness6 (enc := enc) (C := Try.checked) false ⟨#[], #[(.agg ((List.replicate 128 (Value.int .u8 0) ++ [Value.int .i64 0, Value.int .i64 0, Value.int .i64 0]).toArray))], []⟩ 8 (by kernel_rfl) (by kernel_rfl) (by kernel_rfl) (by kernel_rfl)) ?_
  intro W base args ds gs before hval0 hW hcnd hsz0 _
  have hsz : (DataW.weightsEach Try.prog (Try.f4.params.toList ++ Rows.boxIsSpec.plain.varTypes Try.prog) (ds ++ gs)).all (· ≤ reachBytes) = true := hsz0
  have hval : ∀ (j : Nat) t v, Try.f4.params[j]? = some t → args[j]? = some v → Value.okWide Try.prog W .any base t v := hval0
  have hW' := hW
  obtain ⟨p, q, hA0, hV, rfl, hfz, hnd⟩ := hW
  have hA : DataW.TrodAll enc Try.prog W 0 (fun _ => true) true Try.f4.params.toList args.toList ds p := hA0
  rw [Try.params4] at hA hval hsz
  obtain ⟨v0, vs0, d0, ds0, p0, q0, hargs, rfl, rfl, h0, r0⟩ := trodAll_cons hA
  obtain ⟨rfl, rfl, rfl⟩ := trodAll_nil r0
  obtain rfl : args = #[v0] := by cases args; simp_all
  obtain ⟨rfl, rfl⟩ := trodVars_none hV
  have k0 := h0
  have lt0 : ∀ x ∈ p0, x.block < W.heap.size := by obtain ⟨m, hm⟩ := k0; exact DataW.trod_lt m _ _ _ hm
  have sz0 : ∀ n ∈ d0.weights Try.prog 46, n ≤ 140737488351232 := fun n hn => by
    have := List.all_eq_true.1 hsz _ (DataW.weights_mem_each (j := 0) (t := 46) (d := d0) rfl rfl n hn)
    exact of_decide_eq_true this
  obtain ⟨cs0, rfl, hcn0, _⟩ : ∃ cs, v0 = .agg cs ∧ cs.size = Try.prog.cellsOf 46 ∧ Row.okWide Try.prog W .any base 46 cs := by
    have z := (hval 0 46 v0 rfl rfl)
    simp only [Value.okWide, Try.underlying46] at z
    exact z
  obtain ⟨fuel0, hf0⟩ := h0
  obtain ⟨s0, b1, b2, b3, hcs, hsl, hsb⟩ := Hp.opens_asked hf0
  obtain rfl : cs0 = Hp.askA s0 b1 b2 b3 := by
    apply Array.toList_inj.1
    exact Eq.trans (show cs0.toList = _ from hcs) rfl
  clear hA0 hval0 hsz0 hsz
  refine (Hp.laminalaw04_BoxIs.law s0 b1 b2 b3 W hsl hsb).mono fun e W' ⟨he, bel⟩ => ?_
  subst he
  exact ⟨_, rfl, _, _, _, [], _, [], hW', trodAll_mk1 (shut_bool Try.underlying4 _), (trodAll_cons_mk (Below.trod laidOut (by kernel_rfl) (of_decide_eq_true (by kernel_rfl)) k0 bel lt0) trodAll_mk0), rfl, bel.frame _, fun h => by cases h⟩
theorem over : Rows.boxIsRow.holds Try.pinned (OpenSpec.ofChange Rows.boxIsSpec) :=
  OpenClaim.holds_of_wide 4 Try.f4 rfl rfl rfl rfl rfl rfl rfl ⟨rfl, rfl, rfl, rfl, rfl⟩ rfl rfl rfl rfl rfl (by kernel_rfl) Try.func4 (by kernel_rfl)
    (of_decide_eq_true (by kernel_rfl)) (by unfold Func.isWrapper; first | (rw [if_pos (by decide +kernel)]; kernel_rfl) | (rw [if_neg (by decide +kernel)]; exact ⟨rfl, rfl⟩))
    (fun os started H enc _ => lifted os started H enc)
end Go.Proofs.Ytgnpmephgdghhaa.boxIs
namespace Go.Proofs.Ytgnpmephgdghhaa
/-- The row, under a short name, for the claim. -/
theorem boxIs_holds : Rows.BoxIsSaid := boxIs.over
#print axioms boxIs_holds
end Go.Proofs.Ytgnpmephgdghhaa
