/- Contracts of functions of the given program, and what they lean on: written by this session's own program hprint.py, which lays hand texts into the kit's printer. -/
import Derived.Test.YtdfkecfmmcdgiaaHp0
import Derived.Test.YtdfkecfmmcdgiaaHpf33
namespace Go.Proofs.Ytdfkecfmmcdgiaa.Hp
open Go.RowKit Go.Proofs.YtdfkecfmmcdgiaaW.PrintWords Go.Proofs.YtdfkecfmmcdgiaaW.PrintLast Go.Proofs.YtdfkecfmmcdgiaaW.PrintMore
attribute [local go_sem] max2_int min2_int max_two min_two max_three min_three max_four min_four   -- for this text's walks alone
set_option linter.unusedVariables false
set_option linter.unusedSimpArgs false

/-! ### marks_Marks_byte_40: function 40 -/
theorem marks_Marks_byte_40.calls (A0 : Option Addr) (c0 : Nat) (l0 : List Int) (w : World) (hr0 : Kd.C (Kd.int .u8) w A0 l0.length l0) :
    Calls Try.prog 40 #[.slice A0 l0.length c0, .func (.func 33) #[] #[]] w fun e w' => ∃ n : Int, e = .returned (.int .i64 n) ∧ decide (0 ≤ n) = l0.any (fun x => decide (x > 3)) ∧ Drawn0 w w' := by
  have hn := hr0.2.1
  have HR := Aside0.mk hr0
  clear hr0
  go_enter Try.func40, Try.ntmps40
  go_wp2
  go_loopw [8] (fun v8 wr => ∃ k : Nat, k ≤ l0.length ∧ v8 = .int .i64 k ∧ Aside0 (∀ (j : Nat) (x : Int), j < k → l0[j]? = some x → ¬ x > 3) ∧ Aside0 (Drawn0 w wr)) (fun v8 _ => l0.length - (intOf v8).toNat)
  case atStart => exact ⟨0, by omega, rfl, ⟨fun j x hj => absurd hj (by omega)⟩, ⟨Drawn0.refl _⟩⟩
  case round =>
    obtain ⟨k, hk, rfl, HA, ⟨⟨nd, rfl⟩⟩⟩ := hrel
    by_cases hlt : k < l0.length
    · obtain ⟨ad, e, hx⟩ := Kd.at_int HR.out k (by omega) (by omega)
      subst e
      simp only [Int.toNat_natCast] at hx
      by_cases h3 : rd l0 k > 3
      · have HO := fun W => marks_odd.calls (rd l0 k) true W (by simp [marks_odd.f, h3])
        go_wp2_with fail
        refine (HO _).mono ?_
        rintro e w1 ⟨rfl, ⟨n2, rfl⟩⟩
        go_wp2
        go_ret
        refine ⟨_, rfl, ?_, ⟨_, rfl⟩⟩
        have : (l0.any fun x => decide (x > 3)) = true := List.any_eq_true.2 ⟨rd l0 k, by simp [rd, hlt], decide_eq_true h3⟩
        rw [this]
        exact decide_eq_true (by omega)
      · have HO := fun W => marks_odd.calls (rd l0 k) false W (by simp [marks_odd.f]; omega)
        go_wp2_with fail
        refine (HO _).mono ?_
        rintro e w1 ⟨rfl, ⟨n2, rfl⟩⟩
        go_wp2
        refine ⟨⟨k + 1, by omega, by go_num, ⟨?_⟩, ⟨?_⟩⟩, by simp [intOf]; omega⟩
        · intro j x hj hx'
          by_cases hjk : j < k
          · have := HA.out j x hjk hx'; omega
          · obtain rfl : j = k := by omega
            have : rd l0 (j : Int) = x := by simp [rd, hx']
            omega
        · first | exact ⟨_, rfl⟩ | exact Drawn0.step (Drawn0.refl _)
    · have hkk : k = l0.length := by omega
      go_wp2
      go_ret
      refine ⟨_, rfl, ?_, ⟨_, rfl⟩⟩
      have : (l0.any fun x => decide (x > 3)) = false := by
        rw [List.any_eq_false]
        intro x hx
        obtain ⟨j, hj, e⟩ := List.getElem_of_mem hx
        have := HA.out j x (by omega) (by rw [List.getElem?_eq_getElem hj, e])
        simpa using this
      rw [this]
      exact decide_eq_false (by omega)

end Go.Proofs.Ytdfkecfmmcdgiaa.Hp
