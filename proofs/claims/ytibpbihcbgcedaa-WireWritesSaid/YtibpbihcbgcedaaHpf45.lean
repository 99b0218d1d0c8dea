/- Contracts of functions of the given program, and what they lean on: written by this session's own program hprint.py, which lays hand texts into the kit's printer. -/
import Derived.Test.YtibpbihcbgcedaaHp0
import Derived.Test.YtibpbihcbgcedaaHpaM
import Derived.Test.YtibpbihcbgcedaaHpf15
import Derived.Test.YtibpbihcbgcedaaHpf46
namespace Go.Proofs.Ytibpbihcbgcedaa.Hp
open Go.RowKit Go.Proofs.YtibpbihcbgcedaaW.PrintWords Go.Proofs.YtibpbihcbgcedaaW.PrintLast Go.Proofs.YtibpbihcbgcedaaW.PrintMore
attribute [local go_sem] max2_int min2_int max_two min_two max_three min_three max_four min_four   -- for this text's walks alone
set_option linter.unusedVariables false
set_option linter.unusedSimpArgs false

/-! ### wire_Reader_take: function 45 -/
theorem wire_Reader_take.no (S : Nat → Prop) (h : Value) (l : List Int) (bad : Bool) (n : Int) (w : World) (hr : Rd w S h l bad) (hn : tkS n l bad = none) :
    Calls Try.prog 45 #[h, .int .i64 n] w fun e w' => e = .returned (.tuple #[.slice none 0 0, .bool false]) ∧ RdTo w w' S h [] true := by
  have hc := tkS_none hn
  clear hn
  rcases hr with ⟨rfl, rfl, rfl⟩ | ⟨p, A, c, rfl, x, y⟩
  · clear hc
    go_enter Try.func45, Try.ntmps45
    go_wp2
    go_ret2
    exact ⟨rfl, RdTo.refl (.inl ⟨rfl, rfl, rfl⟩)⟩
  · have hb := x.str
    have h0 : w.cell? ⟨p, 0, none⟩ = some (.slice A l.length c) := by rw [cell_of hb]; rfl
    have h1 : w.cell? ⟨p, 1, none⟩ = some (.bool bad) := by rw [cell_of hb]; rfl
    have hm := x.row.row.2.1
    have X := Aside0.mk x
    have Y := Aside0.mk y
    clear hb
    rcases bad with _ | _
    · rcases hc with hc | hc
      · cases hc
      · clear x y
        by_cases hneg : n < 0
        · clear hc
          go_enter Try.func45, Try.ntmps45
          go_wp2_with fail
          refine (wire_Reader_fail.calls S p A c l false _ X.out).mono ?_
          rintro e w1 ⟨rfl, hx⟩
          go_wp2
          go_ret2
          exact ⟨rfl, hx⟩
        · have hgt : n > (l.length : Int) := by omega
          clear hc
          go_enter Try.func45, Try.ntmps45
          go_wp2_with fail
          refine (wire_Reader_fail.calls S p A c l false _ X.out).mono ?_
          rintro e w1 ⟨rfl, hx⟩
          go_wp2
          go_ret2
          exact ⟨rfl, hx⟩
    · have hl := x.z rfl
      subst hl
      clear hc x y
      go_enter Try.func45, Try.ntmps45
      go_wp2
      go_ret2
      exact ⟨rfl, RdTo.refl (.inr ⟨p, A, c, rfl, X.out, Y.out⟩)⟩

-- AUX takeyes
theorem take_yes (S : Nat → Prop) (h : Value) (l : List Int) (bad : Bool) (n : Int) (b r : List Int) (w : World) (hr : Rd w S h l bad) (hn : tkS n l bad = some (b, r)) :
    Calls Try.prog 45 #[h, .int .i64 n] w fun e w' => ∃ A', e = .returned (.tuple #[.slice A' b.length b.length, .bool true]) ∧ TookTo w w' S h A' b r := by
  obtain ⟨rfl, h0, h1, rfl, rfl⟩ := tkS_some hn
  clear hn
  obtain ⟨m, rfl⟩ := Int.eq_ofNat_of_zero_le h0
  rw [Int.toNat_natCast]
  have hm : m ≤ l.length := by omega
  rw [show (l.take m).length = m by rw [List.length_take]; omega]
  rcases hr with ⟨rfl, rfl, h⟩ | ⟨p, A, c, rfl, x, y⟩
  · cases h
  · have hb := x.str
    have h0 : w.cell? ⟨p, 0, none⟩ = some (.slice A l.length c) := by rw [cell_of hb]; rfl
    have h1 : w.cell? ⟨p, 1, none⟩ = some (.bool false) := by rw [cell_of hb]; rfl
    have f0 := frozen_of hb 0
    have hmx := x.row.row.2.1
    have hlc := x.len
    have HT := Aside0.mk (fun A2 hA2 => took_of (m := m) (A2 := A2) x y hm hA2)
    clear hb x y
    by_cases hcm : c = m
    · have HT2 := HT.out A (by rw [if_pos hcm])
      subst hcm
      rw [Nat.sub_self, show l.length - c = 0 by omega] at HT2
      have HT3 := Aside0.mk HT2
      clear HT HT2
      go_enter Try.func45, Try.ntmps45
      go_wp2
      go_ret2
      exact ⟨A, rfl, HT3.out⟩
    · have HT2 := HT.out _ (by rw [if_neg hcm])
      have HT3 := Aside0.mk HT2
      have hlt : m < c := by omega
      clear HT HT2
      go_enter Try.func45, Try.ntmps45
      go_wp2
      go_ret2
      exact ⟨A, rfl, HT3.out⟩

end Go.Proofs.Ytibpbihcbgcedaa.Hp
