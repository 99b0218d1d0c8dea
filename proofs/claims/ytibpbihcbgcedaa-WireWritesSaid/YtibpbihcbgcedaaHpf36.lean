/- Contracts of functions of the given program, and what they lean on: written by this session's own program hprint.py, which lays hand texts into the kit's printer. -/
import Derived.Test.YtibpbihcbgcedaaHp0
import Derived.Test.YtibpbihcbgcedaaHpaM
import Derived.Test.YtibpbihcbgcedaaHpf15
import Derived.Test.YtibpbihcbgcedaaHpf45
namespace Go.Proofs.Ytibpbihcbgcedaa.Hp
open Go.RowKit Go.Proofs.YtibpbihcbgcedaaW.PrintWords Go.Proofs.YtibpbihcbgcedaaW.PrintLast Go.Proofs.YtibpbihcbgcedaaW.PrintMore
attribute [local go_sem] max2_int min2_int max_two min_two max_three min_three max_four min_four   -- for this text's walks alone
set_option linter.unusedVariables false
set_option linter.unusedSimpArgs false

/-! ### wire_Reader_Byte: function 36 -/
theorem wire_Reader_Byte.calls (S : Nat → Prop) (h : Value) (l : List Int) (bad : Bool) (w : World) (hr : Rd w S h l bad) :
    Calls Try.prog 36 #[h] w fun e w' => e = .returned (.int .u8 (byteS l bad).1) ∧ RdTo w w' S h (byteS l bad).2.1 (byteS l bad).2.2 := by
  rcases htk : tkS 1 l bad with _ | ⟨b, r⟩
  · have hb : byteS l bad = (0, [], true) := by unfold byteS; rw [htk]
    have HT := Aside0.mk (fun W (q : Rd W S h l bad) => wire_Reader_take.no S h l bad 1 W q htk)
    rw [hb]
    have HR := Aside0.mk hr
    clear htk hb hr
    go_enter Try.func36, Try.ntmps36
    go_wp2_with fail
    refine (HT.out _ HR.out).mono ?_
    rintro e w1 ⟨rfl, hx⟩
    go_wp2
    go_ret
    exact ⟨rfl, hx⟩
  · have hb : byteS l bad = (rd b 0, r, false) := by unfold byteS; rw [htk]
    have HT := Aside0.mk (fun W (q : Rd W S h l bad) => take_yes S h l bad 1 b r W q htk)
    have hbl : b.length = 1 := by
      obtain ⟨_, q1, q2, rfl, rfl⟩ := tkS_some htk
      rw [List.length_take]; omega
    rw [hb]
    have HBL := Aside0.mk hbl
    have HR := Aside0.mk hr
    have hb0 : 0 < b.length := by omega
    clear htk hb hr hbl
    go_enter Try.func36, Try.ntmps36
    go_wp2_with fail
    refine (HT.out _ HR.out).mono ?_
    rintro e w1 ⟨A, rfl, hx⟩
    have HX := Aside0.mk hx
    obtain ⟨ad, e, hc⟩ := C_cells hx.row.row hb0
    subst e
    have hc0 : w1.cell? ad = some (.int .u8 (rd b 0)) := by have := hc 0 hb0; rw [add_zero_] at this; exact this
    clear hc hx
    go_wp2
    go_ret
    exact ⟨rfl, HX.out.rdto⟩

end Go.Proofs.Ytibpbihcbgcedaa.Hp
