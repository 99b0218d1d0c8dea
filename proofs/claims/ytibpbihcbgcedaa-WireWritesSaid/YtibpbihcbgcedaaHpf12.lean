/- Contracts of functions of the given program, and what they lean on: written by this session's own program hprint.py, which lays hand texts into the kit's printer. -/
import Derived.Test.YtibpbihcbgcedaaHp0
namespace Go.Proofs.Ytibpbihcbgcedaa.Hp
open Go.RowKit Go.Proofs.YtibpbihcbgcedaaW.PrintWords Go.Proofs.YtibpbihcbgcedaaW.PrintLast Go.Proofs.YtibpbihcbgcedaaW.PrintMore
attribute [local go_sem] max2_int min2_int max_two min_two max_three min_three max_four min_four   -- for this text's walks alone
set_option linter.unusedVariables false
set_option linter.unusedSimpArgs false

/-! ### laminanum_Kept: function 12 -/
/-- The bytes are read out of a copy with marks. -/
theorem Kp_C {w : World} {base g cap : Nat} {ok : Nat → Prop} {l : List Int} (h : Kd.R (Kd.int .u8) 5 w base ok (.slice (some ⟨g, 0, none⟩) (l ++ [165, 90]).length cap) (l ++ [165, 90])) :
    Kd.C (Kd.int .u8) w (some ⟨g, 0, none⟩) l.length l ∧ l.length + 2 ≤ cap := by
  obtain ⟨h0, h1, h2⟩ := Kd.R_reads' h
  refine ⟨?_, by simpa using h1⟩
  have := Kd.C_take (m := l.length) h2 (by simp)
  simpa using this
theorem laminanum_Kept.calls (g cap base : Nat) (ok : Nat → Prop) (A1 : Option Addr) (c1 : Nat) (l : List Int) (w : World)
    (hR : Kd.R (Kd.int .u8) 5 w base ok (.slice (some ⟨g, 0, none⟩) (l ++ [165, 90]).length cap) (l ++ [165, 90])) (hr1 : Kd.C (Kd.int .u8) w A1 l.length l) (hn : l.length ≤ 900000) :
    Calls Try.prog 12 #[.slice (some ⟨g, 0, none⟩) l.length cap, .slice A1 l.length c1] w fun e w' => e = .returned (.bool true) ∧ Drawn0 w w' := by
  obtain ⟨hC, hcap⟩ := Kp_C hR
  have hcv3 := fun c => Kd.C_string (P := Try.prog) (A := some ⟨g, 0, none⟩) (c := c) Try.underlying26 Try.underlying5 Try.underlying9 hC
  have hcv4 := Kd.C_string (P := Try.prog) (A := A1) (c := c1) Try.underlying26 Try.underlying5 Try.underlying9 hr1
  have e0 := (Kd.R_celln (enc := Value.int .u8) (h1 := fun _ => rfl) 0 hR (l.length : Int) (by omega) (by first | (simp; done) | (simp; omega))).1
  have e1 := (Kd.R_celln (enc := Value.int .u8) (h1 := fun _ => rfl) 0 hR ((l.length : Int) + 1) (by omega) (by first | (simp; done) | (simp; omega))).1
  have f0 : rdOf 0 (l ++ [165, 90]) (l.length : Int) = 165 := by simp [rdOf]
  have f1 : rdOf 0 (l ++ [165, 90]) ((l.length : Int) + 1) = 90 := by
    have : ((l.length : Int) + 1).toNat = l.length + 1 := by omega
    simp [rdOf, this]
  rw [f0, Int.toNat_natCast] at e0
  rw [f1, show ((l.length : Int) + 1).toNat = l.length + 1 by omega] at e1
  clear f0 f1
  have HR := Aside0.mk hR
  have HC := Aside0.mk hC
  have HD := Aside0.mk hr1
  clear hR hC hr1
  go_enter Try.func12, Try.ntmps12
  go_wp2
  go_ret
  exact ⟨rfl, Drawn0.refl _⟩

end Go.Proofs.Ytibpbihcbgcedaa.Hp
