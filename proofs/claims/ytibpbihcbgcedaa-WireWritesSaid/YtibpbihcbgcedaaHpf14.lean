/- Contracts of functions of the given program, and what they lean on: written by this session's own program hprint.py, which lays hand texts into the kit's printer. -/
import Derived.Test.YtibpbihcbgcedaaHp0
import Derived.Test.YtibpbihcbgcedaaHpaM
import Derived.Test.YtibpbihcbgcedaaHpf15
import Derived.Test.YtibpbihcbgcedaaHpf17
import Derived.Test.YtibpbihcbgcedaaHpf46
namespace Go.Proofs.Ytibpbihcbgcedaa.Hp
open Go.RowKit Go.Proofs.YtibpbihcbgcedaaW.PrintWords Go.Proofs.YtibpbihcbgcedaaW.PrintLast Go.Proofs.YtibpbihcbgcedaaW.PrintMore
attribute [local go_sem] max2_int min2_int max_two min_two max_three min_three max_four min_four   -- for this text's walks alone
set_option linter.unusedVariables false
set_option linter.unusedSimpArgs false

/-! ### laminanum_Over: function 14 -/
theorem laminanum_Over.seg (S : Nat → Prop) (A : Option Addr) (c : Nat) (l : List Int) (w : World) (hr : Rb w S A l) (hn : Nf w A l) :
    Calls Try.prog 14 #[.slice A l.length c] w fun e w' => e = .returned (.tuple #[]) ∧ Seg w w' A l.length := by
  have hm := hr.row.2.1
  have HR := Aside0.mk hr
  have HN := Aside0.mk hn
  clear hr hn
  go_enter Try.func14, Try.ntmps14
  go_wp2
  go_loopw [2, 5] (fun _ v5 wr => ∃ k : Nat, k ≤ l.length ∧ v5 = .int .i64 k ∧ Aside0 (Seg w wr A l.length) ∧ Aside0 (∀ ad, A = some ad → ∀ j, k ≤ j → j < l.length → wr.cell? (ad.add j) = w.cell? (ad.add j))) (fun _ v5 _ => l.length - (intOf v5).toNat)
  case atStart => exact ⟨0, by omega, rfl, ⟨Seg.refl _ _ _⟩, ⟨fun _ _ _ _ _ => rfl⟩⟩
  case round =>
    obtain ⟨k, hk, rfl, HS, HC⟩ := hrel
    by_cases hlt : k < l.length
    · obtain ⟨ad, e, hx⟩ := C_cells HR.out.row (by omega)
      subst e
      obtain ⟨hs, cs, hb⟩ := HN.out (by omega) ad rfl
      obtain ⟨cs', hb'⟩ := HS.out.kind ad rfl cs _ hb
      have hc := (HC.out ad rfl k (Nat.le_refl _) hlt).trans (hx k hlt)
      have hf : wr.frozen? (ad.add k) = false := by rw [add_at ad hs]; exact frozen_of hb' _
      have HB := Aside0.mk hb
      have HB' := Aside0.mk hb'
      have HSP := Aside0.mk hs
      clear hb hb' hx hs
      go_wp2
      refine ⟨⟨k + 1, by omega, by go_num, ⟨HS.out.set HSP.out hlt HB.out _⟩, ⟨fun a ha j h1 h2 => ?_⟩⟩, by simp [intOf]; omega⟩
      cases ha
      rw [add_at ad HSP.out k, setCell_cell_ne HB'.out _ (by rw [← add_at ad HSP.out k]; intro h; have := add_inj ad HSP.out _ _ h; omega)]
      exact HC.out ad rfl j (by omega) h2
    · obtain rfl : k = l.length := by omega
      go_wp2
      go_end0
      exact ⟨rfl, HS.out⟩

end Go.Proofs.Ytibpbihcbgcedaa.Hp
