/- Contracts of functions of the given program, and what they lean on: written by this session's own program hprint.py, which lays hand texts into the kit's printer. -/
import Derived.Test.YtibpbihcbgcedaaHp0
import Derived.Test.YtibpbihcbgcedaaHpf15
import Derived.Test.YtibpbihcbgcedaaHpf46
import Derived.Test.YtibpbihcbgcedaaHpf36
namespace Go.Proofs.Ytibpbihcbgcedaa.Hp
open Go.RowKit Go.Proofs.YtibpbihcbgcedaaW.PrintWords Go.Proofs.YtibpbihcbgcedaaW.PrintLast Go.Proofs.YtibpbihcbgcedaaW.PrintMore
attribute [local go_sem] max2_int min2_int max_two min_two max_three min_three max_four min_four   -- for this text's walks alone
set_option linter.unusedVariables false
set_option linter.unusedSimpArgs false

/-! ### wire_Reader_Flag: function 23 -/
theorem wire_Reader_Flag.calls (S : Nat → Prop) (h : Value) (l : List Int) (bad : Bool) (w : World) (hr : Rd w S h l bad) :
    Calls Try.prog 23 #[h] w fun e w' => e = .returned (.bool (flagS l bad).1) ∧ RdTo w w' S h (flagS l bad).2.1 (flagS l bad).2.2 := by
  have HB := Aside0.mk (fun W (q : Rd W S h l bad) => wire_Reader_Byte.calls S h l bad W q)
  have hf : flagS l bad = if (byteS l bad).1 > 1 then (false, [], true) else (decide ((byteS l bad).1 = 1), (byteS l bad).2.1, (byteS l bad).2.2) := rfl
  have hz : (byteS l bad).1 > 1 → ∀ W, ¬ Rd W S (.pointer none) l bad := by
    intro hg W q
    rcases q with ⟨_, rfl, rfl⟩ | ⟨p, A, c, e, _⟩
    · exact absurd hg (by decide)
    · cases e
  have HR := Aside0.mk hr
  have HZ := Aside0.mk hz
  generalize byteS l bad = y at *
  obtain ⟨x, r, bd⟩ := y
  rw [hf]
  clear hf hr hz
  by_cases hg : x > 1
  · rw [if_pos hg]
    go_enter Try.func23, Try.ntmps23
    go_wp2_with fail
    refine (HB.out _ HR.out).mono ?_
    rintro e w1 ⟨rfl, hx⟩
    have HX := Aside0.mk hx
    rcases hx.rd with ⟨hp, _⟩ | ⟨p, A, c, hp, q1, q2⟩
    · subst hp
      exact absurd HR.out (HZ.out hg _)
    · have Q := Aside0.mk q1
      subst hp
      clear hx q1 q2
      go_wp2_with fail
      refine (wire_Reader_fail.calls S p A c _ _ _ Q.out).mono ?_
      rintro e w2 ⟨rfl, hy⟩
      have HY := Aside0.mk (HX.out.then_ hy)
      clear hy
      go_wp2
      go_ret
      exact ⟨rfl, HY.out⟩
  · rw [if_neg hg]
    by_cases h1 : x = 1
    · subst h1
      go_enter Try.func23, Try.ntmps23
      go_wp2_with fail
      refine (HB.out _ HR.out).mono ?_
      rintro e w1 ⟨rfl, hx⟩
      have HX := Aside0.mk hx
      clear hx
      go_wp2
      go_ret
      exact ⟨rfl, HX.out⟩
    · have h2 : decide (x = 1) = false := decide_eq_false h1
      have h3 : (x == 1) = false := by simpa using h1
      rw [h2]
      go_enter Try.func23, Try.ntmps23
      go_wp2_with fail
      refine (HB.out _ HR.out).mono ?_
      rintro e w1 ⟨rfl, hx⟩
      have HX := Aside0.mk hx
      clear hx
      go_wp2
      go_ret
      exact ⟨rfl, HX.out⟩

end Go.Proofs.Ytibpbihcbgcedaa.Hp
