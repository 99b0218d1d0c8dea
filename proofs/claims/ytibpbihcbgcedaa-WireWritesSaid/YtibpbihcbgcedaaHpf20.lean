/- Contracts of functions of the given program, and what they lean on: written by this session's own program hprint.py, which lays hand texts into the kit's printer. -/
import Derived.Test.YtibpbihcbgcedaaHp0
import Derived.Test.YtibpbihcbgcedaaHpaM
import Derived.Test.YtibpbihcbgcedaaHpf15
namespace Go.Proofs.Ytibpbihcbgcedaa.Hp
open Go.RowKit Go.Proofs.YtibpbihcbgcedaaW.PrintWords Go.Proofs.YtibpbihcbgcedaaW.PrintLast Go.Proofs.YtibpbihcbgcedaaW.PrintMore
attribute [local go_sem] max2_int min2_int max_two min_two max_three min_three max_four min_four   -- for this text's walks alone
set_option linter.unusedVariables false
set_option linter.unusedSimpArgs false

/-! ### wire_Reader_End: function 20 -/
def endE (l : List Int) (bad : Bool) : Option Int := if bad = true ∨ 0 < l.length then some 2 else none
theorem wire_Reader_End.calls (S : Nat → Prop) (h : Value) (l : List Int) (bad : Bool) (w : World) (hr : Rd w S h l bad) :
    Calls Try.prog 20 #[h] w fun e w' => e = .returned (errW (endE l bad)) ∧ w = w' := by
  rcases hr with ⟨rfl, rfl, rfl⟩ | ⟨p, A, c, rfl, x, y⟩
  · have he : errW (endE [] true) = errW (some 2) := rfl
    rw [he, errW_some]
    go_enter Try.func20, Try.ntmps20
    go_wp2
    go_ret
    exact ⟨rfl, rfl⟩
  · have h0 : w.cell? ⟨p, 0, none⟩ = some (.slice A l.length c) := by rw [cell_of x.str]; rfl
    have h1 : w.cell? ⟨p, 1, none⟩ = some (.bool bad) := by rw [cell_of x.str]; rfl
    have hm := x.row.row.2.1
    clear x y
    rcases bad with _ | _
    · by_cases hl : 0 < l.length
      · have he : errW (endE l false) = errW (some 2) := by unfold endE; rw [if_pos (.inr hl)]
        have hl2 : (0 : Int) < l.length := by omega
        rw [he, errW_some]
        clear he
        go_enter Try.func20, Try.ntmps20
        go_wp2
        go_ret
        exact ⟨rfl, rfl⟩
      · have he : errW (endE l false) = errW none := by unfold endE; rw [if_neg (by rintro (q | q); cases q; exact hl q)]
        have hl2 : ¬ (0 : Int) < l.length := by omega
        rw [he, errW_none]
        clear he
        go_enter Try.func20, Try.ntmps20
        go_wp2
        go_ret
        exact ⟨rfl, rfl⟩
    · have he : errW (endE l true) = errW (some 2) := by unfold endE; rw [if_pos (.inl rfl)]
      rw [he, errW_some]
      clear he
      go_enter Try.func20, Try.ntmps20
      go_wp2
      go_ret
      exact ⟨rfl, rfl⟩

end Go.Proofs.Ytibpbihcbgcedaa.Hp
