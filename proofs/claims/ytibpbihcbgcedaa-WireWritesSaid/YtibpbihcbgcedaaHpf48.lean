/- Contracts of functions of the given program, and what they lean on: written by this session's own program hprint.py, which lays hand texts into the kit's printer. -/
import Derived.Test.YtibpbihcbgcedaaHp0
import Derived.Test.YtibpbihcbgcedaaHpaM
import Derived.Test.YtibpbihcbgcedaaHpf35
import Derived.Test.YtibpbihcbgcedaaHpf47
import Derived.Test.YtibpbihcbgcedaaHpf26
namespace Go.Proofs.Ytibpbihcbgcedaa.Hp
open Go.RowKit Go.Proofs.YtibpbihcbgcedaaW.PrintWords Go.Proofs.YtibpbihcbgcedaaW.PrintLast Go.Proofs.YtibpbihcbgcedaaW.PrintMore
attribute [local go_sem] max2_int min2_int max_two min_two max_three min_three max_four min_four   -- for this text's walks alone
set_option linter.unusedVariables false
set_option linter.unusedSimpArgs false

/-! ### wire_sized_byte: function 48 -/
theorem wire_sized_byte.calls (S : Nat → Prop) (z : Bool) (h : Value) (l : List Int) (T : Nat → Prop) (A : Option Addr) (c : Nat) (bs : List Int) (w : World) (hw : Wr w S z h l) (hr : Rb w T A bs) (hd : ∀ i, T i → ¬ S i) (hl : l.length + 8 + bs.length ≤ 140737488355328) :
    Calls Try.prog 48 #[h, .slice A bs.length c] w fun e w' => e = .returned (.tuple #[]) ∧ WrTo w w' S z h (app z l (numL bs.length ++ bs)) := by
  have HW := Aside0.mk hw
  have HR := Aside0.mk hr
  have hm := hr.row.2.1
  have hal := app_len z l (numL bs.length)
  rw [numL_len] at hal
  have HAL := Aside0.mk hal
  clear hw hr hal
  go_enter Try.func48, Try.ntmps48
  go_wp2_with fail
  refine (wire_Writer_Num.calls S z h l bs.length _ HW.out (by omega) (by omega) (by omega)).mono ?_
  rintro e w1 ⟨rfl, hx⟩
  have HX := Aside0.mk hx
  clear hx
  go_wp2_with fail
  refine (wire_Writer_add.calls _ z h _ A c bs _ HX.out.wr (HR.out.only HX.out.only hd).row (by have := HAL.out; omega)).mono ?_
  rintro e w2 ⟨rfl, hy⟩
  go_wp2
  go_end0
  rw [app_app] at hy
  exact ⟨rfl, HX.out.then_ hy⟩

end Go.Proofs.Ytibpbihcbgcedaa.Hp
