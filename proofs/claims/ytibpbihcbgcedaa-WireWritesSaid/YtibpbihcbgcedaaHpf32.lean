/- Contracts of functions of the given program, and what they lean on: written by this session's own program hprint.py, which lays hand texts into the kit's printer. -/
import Derived.Test.YtibpbihcbgcedaaHp0
import Derived.Test.YtibpbihcbgcedaaHpaM
import Derived.Test.YtibpbihcbgcedaaHpf35
import Derived.Test.YtibpbihcbgcedaaHpf47
import Derived.Test.YtibpbihcbgcedaaHpf26
import Derived.Test.YtibpbihcbgcedaaHpf49
namespace Go.Proofs.Ytibpbihcbgcedaa.Hp
open Go.RowKit Go.Proofs.YtibpbihcbgcedaaW.PrintWords Go.Proofs.YtibpbihcbgcedaaW.PrintLast Go.Proofs.YtibpbihcbgcedaaW.PrintMore
attribute [local go_sem] max2_int min2_int max_two min_two max_three min_three max_four min_four   -- for this text's walks alone
set_option linter.unusedVariables false
set_option linter.unusedSimpArgs false

/-! ### wire_Writer_Nums: function 32 -/
theorem wire_Writer_Nums.calls (S : Nat → Prop) (z : Bool) (h : Value) (l : List Int) (T : Nat → Prop) (A : Option Addr) (c : Nat) (ns : List Int) (w : World) (hw : Wr w S z h l) (hr : Rk .i64 w T A ns) (hd : ∀ i, T i → ¬ S i) (hb : ∀ x ∈ ns, -9223372036854775808 ≤ x ∧ x ≤ 9223372036854775807) (hl : l.length + 8 + 8 * ns.length ≤ 140737488355328) :
    Calls Try.prog 32 #[h, .slice A ns.length c] w fun e w' => e = .returned (.tuple #[]) ∧ WrTo w w' S z h (app z l (numL ns.length ++ numsL ns)) := by
  have HW := Aside0.mk hw
  have HR := Aside0.mk hr
  have hm := hr.row.2.1
  have HBD := Aside0.mk hb
  clear hw hr hb
  go_enter Try.func32, Try.ntmps32
  go_wp2_with fail
  refine (wire_Writer_Num.calls S z h l ns.length _ HW.out (by omega) (by omega) (by omega)).mono ?_
  rintro e w1 ⟨rfl, hx⟩
  have HX := Aside0.mk hx
  clear hx
  go_wp2
  go_loopw [5, 12] (fun _ v12 wr => ∃ k : Nat, k ≤ ns.length ∧ v12 = .int .i64 k ∧ Aside0 (WrTo w wr S z h (app z l (numL ns.length ++ numsL (ns.take k))))) (fun _ v12 _ => ns.length - (intOf v12).toNat)
  case atStart => exact ⟨0, by omega, rfl, ⟨by have := HX.out; simpa [numsL] using this⟩⟩
  case round =>
    obtain ⟨k, hk, rfl, HK⟩ := hrel
    by_cases hlt : k < ns.length
    · obtain ⟨ad, e, hx⟩ := C_cells (HR.out.only HK.out.only hd).row (by omega)
      subst e
      replace hx := hx k hlt
      have hbd := HBD.out (rd ns k) (by simp [rd, hlt])
      have hal := app_len z l (numL ns.length ++ numsL (ns.take k))
      rw [List.length_append, numL_len, numsL_len, List.length_take] at hal
      have HAL := Aside0.mk hal
      obtain ⟨hb1, hb2⟩ := hbd
      clear hal
      go_wp2_with fail
      refine (wire_Writer_Num.calls _ z h _ (rd ns k) _ HK.out.wr (by have := HAL.out; omega) hb1 hb2).mono ?_
      rintro e w2 ⟨rfl, hy⟩
      have HY := Aside0.mk hy
      clear hy hx
      go_wp2
      refine ⟨⟨k + 1, by omega, by go_num, ⟨?_⟩⟩, by simp [intOf]; omega⟩
      have := HK.out.then_ HY.out
      rw [app_app, List.append_assoc, ← numsL_snoc ns k hlt] at this
      exact this
    · obtain rfl : k = ns.length := by omega
      go_wp2
      go_end0
      have := HK.out
      rw [List.take_length] at this
      exact ⟨rfl, this⟩

end Go.Proofs.Ytibpbihcbgcedaa.Hp
