/- Contracts of functions of the given program, and what they lean on: written by this session's own program hprint.py, which lays hand texts into the kit's printer. -/
import Derived.Test.YtibpbihcbgcedaaHp0
import Derived.Test.YtibpbihcbgcedaaHpf35
import Derived.Test.YtibpbihcbgcedaaHpf47
namespace Go.Proofs.Ytibpbihcbgcedaa.Hp
open Go.RowKit Go.Proofs.YtibpbihcbgcedaaW.PrintWords Go.Proofs.YtibpbihcbgcedaaW.PrintLast Go.Proofs.YtibpbihcbgcedaaW.PrintMore
attribute [local go_sem] max2_int min2_int max_two min_two max_three min_three max_four min_four   -- for this text's walks alone
set_option linter.unusedVariables false
set_option linter.unusedSimpArgs false

/-! ### wire_Writer_Num: function 26 -/
theorem wire_Writer_Num.calls (S : Nat → Prop) (z : Bool) (h : Value) (l : List Int) (n : Int) (w : World) (hw : Wr w S z h l) (hl : l.length + 8 ≤ 140737488355328) (h1 : -9223372036854775808 ≤ n) (h2 : n ≤ 9223372036854775807) :
    Calls Try.prog 26 #[h, .int .i64 n] w fun e w' => e = .returned (.tuple #[]) ∧ WrTo w w' S z h (app z l (numL n)) := by
  have HW := Aside0.mk hw
  clear hw
  go_enter Try.func26, Try.ntmps26
  go_wp2
  go_loopw [5, 6] (fun _ v6 wr => ∃ k : Nat, k ≤ 8 ∧ v6 = .int .i64 k ∧ wr = w.alloc (.cells (numA n k) 70)) (fun _ v6 _ => 8 - (intOf v6).toNat)
  case atStart => exact ⟨0, by omega, rfl, rfl⟩
  case round =>
    obtain ⟨k, hk, rfl, rfl⟩ := hrel
    by_cases hlt : k < 8
    · have hat := numA_at n k hlt
      go_wp2
      exact ⟨⟨k + 1, by omega, by go_num, by rw [numA_set n k hlt _ (by first | rfl | (congr 1; done) | skip)]⟩, by simp [intOf]; omega⟩
    · obtain rfl : k = 8 := by omega
      go_wp2_with fail
      have hc := numA_C n w
      refine (wire_Writer_add.calls S z h l (some ⟨w.heap.size, 0, none⟩) 8 (numL n) _ (HW.out.below (below_alloc (Below.refl _ _) _)) hc (by rw [numL_len]; exact hl)).mono ?_
      rintro e w1 ⟨rfl, hx⟩
      go_wp2
      go_end0
      exact ⟨rfl, hx.late (below_alloc (Below.refl _ _) _)⟩

end Go.Proofs.Ytibpbihcbgcedaa.Hp
