/- Contracts of functions of the given program, and what they lean on: written by this session's own program hprint.py, which lays hand texts into the kit's printer. -/
import Derived.Test.YtibpbihcbgcedaaHp0
import Derived.Test.YtibpbihcbgcedaaHpaM
import Derived.Test.YtibpbihcbgcedaaHpf35
import Derived.Test.YtibpbihcbgcedaaHpf47
import Derived.Test.YtibpbihcbgcedaaHpf48
namespace Go.Proofs.Ytibpbihcbgcedaa.Hp
open Go.RowKit Go.Proofs.YtibpbihcbgcedaaW.PrintWords Go.Proofs.YtibpbihcbgcedaaW.PrintLast Go.Proofs.YtibpbihcbgcedaaW.PrintMore
attribute [local go_sem] max2_int min2_int max_two min_two max_three min_three max_four min_four   -- for this text's walks alone
set_option linter.unusedVariables false
set_option linter.unusedSimpArgs false

/-! ### wire_Writer_Bytes: function 29 -/
theorem wire_Writer_Bytes.calls (S : Nat → Prop) (z : Bool) (h : Value) (l : List Int) (T : Nat → Prop) (A : Option Addr) (c : Nat) (bs : List Int) (w : World) (hw : Wr w S z h l) (hr : Rb w T A bs) (hd : ∀ i, T i → ¬ S i) (hl : l.length + 8 + bs.length ≤ 140737488355328) :
    Calls Try.prog 29 #[h, .slice A bs.length c] w fun e w' => e = .returned (.tuple #[]) ∧ WrTo w w' S z h (app z l (numL bs.length ++ bs)) := by
  have HW := Aside0.mk hw
  have HR := Aside0.mk hr
  clear hw hr
  go_enter Try.func29, Try.ntmps29
  go_wp2_with fail
  refine (wire_sized_byte.calls S z h l T A c bs _ HW.out HR.out hd hl).mono ?_
  rintro e w1 ⟨rfl, hx⟩
  go_wp2
  go_end0
  exact ⟨rfl, hx⟩

end Go.Proofs.Ytibpbihcbgcedaa.Hp
