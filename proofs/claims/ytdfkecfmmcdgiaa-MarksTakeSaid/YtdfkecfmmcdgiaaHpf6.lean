/- Contracts of functions of the given program, and what they lean on: written by this session's own program hprint.py, which lays hand texts into the kit's printer. -/
import Derived.Test.YtdfkecfmmcdgiaaHp0
import Derived.Test.YtdfkecfmmcdgiaaHpaC
import Derived.Test.YtdfkecfmmcdgiaaHpatakew
import Derived.Test.YtdfkecfmmcdgiaaHpf9
import Derived.Test.YtdfkecfmmcdgiaaHpaalive10
import Derived.Test.YtdfkecfmmcdgiaaHpf10
import Derived.Test.YtdfkecfmmcdgiaaHpf14
import Derived.Test.YtdfkecfmmcdgiaaHpf15
import Derived.Test.YtdfkecfmmcdgiaaHpf16
import Derived.Test.YtdfkecfmmcdgiaaHpacovers10
import Derived.Test.YtdfkecfmmcdgiaaHpf25
import Derived.Test.YtdfkecfmmcdgiaaHpartakew
import Derived.Test.YtdfkecfmmcdgiaaHpapack10
import Derived.Test.YtdfkecfmmcdgiaaHpf27
namespace Go.Proofs.Ytdfkecfmmcdgiaa.Hp
open Go.RowKit Go.Proofs.YtdfkecfmmcdgiaaW.PrintWords Go.Proofs.YtdfkecfmmcdgiaaW.PrintLast Go.Proofs.YtdfkecfmmcdgiaaW.PrintMore
attribute [local go_sem] max2_int min2_int max_two min_two max_three min_three max_four min_four   -- for this text's walks alone
set_option linter.unusedVariables false
set_option linter.unusedSimpArgs false

/-! ### laminalaw10_MarksTake: function 6 -/
theorem tk_ok (l : List Int) (hb : ∀ x ∈ l, 0 ≤ x ∧ x < 256) : marks_Take.ok l ↔ laminaref10_Take.ok l := by
  have b0 := rd_bytes hb 0
  have b1 := rd_bytes hb 1
  have hn0 : 0 ≤ cntI l := by unfold cntI; simp only [Int.natCast_zero, Int.natCast_one] at b0 b1; omega
  have hlen : (tkL l).length = (cntI l).toNat := by unfold tkL; rw [List.length_map, List.length_range]
  unfold marks_Take.ok laminaref10_Take.ok
  constructor
  · rintro ⟨h1, h2, h3, h4⟩
    refine ⟨h1, fun j hj => by omega, h2, ?_⟩
    rw [o_pack (tkL l) ⟨by omega, tk_marks l⟩] at h4
    exact h4
  · rintro ⟨h1, h2, h3, h4⟩
    have hl := congrArg List.length h4
    rw [pack_len, hlen] at hl
    refine ⟨h1, h3, by omega, ?_⟩
    rw [o_pack (tkL l) ⟨by omega, tk_marks l⟩]
    exact h4
theorem laminalaw10_MarksTake.law (A0 : Option Addr) (c0 : Nat) (l0 : List Int) (w : World) (hr0 : Kd.C (Kd.int .u8) w A0 l0.length l0) (hc0 : l0.length ≤ c0) (_hy0 : l0.length * 1 ≤ 140737488351232) (hw0 : ∀ n ∈ l0, (Lit.int .u8 n).wf = true) :
    Calls Try.prog 6 #[.slice A0 l0.length c0] w fun e w' => e = .returned (.bool true) ∧ Below w.heap.size w w' := by
  have hu27 := Try.underlying27
  have hu33 := Try.underlying33
  have hm := hr0.2.1
  have HR0 := Aside0.mk hr0
  have HW := Aside0.mk (wfs_u8 hw0)
  have HAL := fun W => laminalaw10_alive.calls true W alive10
  clear hr0 hw0
  by_cases hbig : l0.length > 2000
  · have h1 : (l0.length : Int) > 2000 := by omega
    clear hbig
    go_enter Try.func6, Try.ntmps6
    go_wp2_with fail
    refine (HAL _).mono ?_
    rintro e w1 ⟨rfl, hb⟩
    go_wp2
    go_ret
    exact ⟨rfl, hb⟩
  have h1 : ¬ (l0.length : Int) > 2000 := by omega
  have h2 : l0.length ≤ 2000 := by omega
  clear hbig
  have HTK : ∃ r1 r2 b, marks_Take.f l0 = some (r1, r2) ∧ laminaref10_Take.f l0 = some (r1, b) ∧ ((r2 = none ∧ b = true) ∨ (r2 = some 2 ∧ b = false)) := by
    unfold marks_Take.f laminaref10_Take.f
    have hp : (∀ x ∈ l0, 0 ≤ x ∧ x < 256) ∧ l0.length ≤ 1000000 := ⟨HW.out, by omega⟩
    rw [if_pos hp, if_pos hp]
    unfold laminaref10_Take.r
    by_cases ho : marks_Take.ok l0
    · rw [if_pos ho, if_pos ((tk_ok l0 HW.out).1 ho)]
      exact ⟨_, _, _, rfl, rfl, .inl ⟨rfl, rfl⟩⟩
    · rw [if_neg ho, if_neg (fun g => ho ((tk_ok l0 HW.out).2 g))]
      exact ⟨_, _, _, rfl, rfl, .inr ⟨rfl, rfl⟩⟩
  obtain ⟨r1, r2, b, hf1, hf2, hcase⟩ := HTK
  have HF1 := Aside0.mk hf1
  have HF2 := Aside0.mk hf2
  have HCA := Aside0.mk hcase
  clear hf1 hf2 hcase
  go_enter Try.func6, Try.ntmps6
  go_wp2_with fail
  refine (HAL _).mono ?_
  rintro e w1 ⟨rfl, hb1⟩
  have HB1 := Aside0.mk hb1
  clear hb1 HAL
  go_wp2_with fail
  refine (laminanum_Copy.calls A0 c0 l0 _ (Kd.C_below HR0.out HB1.out) (by omega)).mono ?_
  rintro e w2 ⟨g, cap, rfl, hg, hR2, hb2⟩
  have HR2 := Aside0.mk hR2
  have HB2 := Aside0.mk (below_step HB1.out hb2)
  obtain ⟨hC2, hcap⟩ := Kp_C hR2
  have HC2 := Aside0.mk hC2
  clear hR2 hb2 hC2
  go_wp2_with fail
  refine (marks_Take.calls (some ⟨g, 0, none⟩) cap l0 _ _ _ HC2.out (by omega) HF1.out).mono ?_
  rintro e w3 ⟨v3, rfl, ho3, hb3⟩
  have HO3 := Aside0.mk ho3
  have HR3 := Aside0.mk (Kd.R_below HR2.out hb3)
  have HB3 := Aside0.mk (below_step HB2.out hb3)
  clear ho3 hb3
  go_wp2_with fail
  refine (laminaref10_Take.calls A0 c0 l0 _ _ _ (Kd.C_below HR0.out HB3.out) hc0 HF2.out).mono ?_
  rintro e w4 ⟨v4, rfl, ho4, hb4⟩
  obtain ⟨A4, c4, rfl, -⟩ := Kd.R_reads ho4
  obtain ⟨-, hc4, hC4⟩ := Kd.R_reads' ho4
  have ho5 := Kd.R_below HO3.out hb4
  obtain ⟨A3, c3, rfl, -⟩ := Kd.R_reads ho5
  obtain ⟨-, hc3, hC3⟩ := Kd.R_reads' ho5
  have HC4 := Aside0.mk hC4
  have HC3 := Aside0.mk hC3
  have HR4 := Aside0.mk (Kd.R_below HR3.out hb4)
  have HB4 := Aside0.mk (below_step HB3.out hb4)
  have HA4 := Aside0.mk (Kd.C_below HR0.out HB4.out)
  clear ho4 ho5 hC4 hC3 hb4
  have HSAME := fun W (h3 : Kd.C (Kd.int .u8) W A3 r1.length r1) (h4 : Kd.C (Kd.int .u8) W A4 r1.length r1) => laminanum_Same.calls A3 c3 r1 A4 c4 r1 true W h3 hc3 h4 hc4 (same_refl r1)
  rcases HCA.out with ⟨rfl, rfl⟩ | ⟨rfl, rfl⟩
  · rw [errW_none]
    clear HO3 HR3 HB3 HR2 HB2 HC2 HB1 HF1 HF2 HCA
    go_wp2_with fail
    refine (laminanum_Kept.calls g cap _ _ A0 c0 l0 _ HR4.out HA4.out (by omega)).mono ?_
    rintro e w5 ⟨rfl, ⟨n5, rfl⟩⟩
    go_wp2_with fail
    refine (HSAME _ (Kd.C_drewN HC3.out _) (Kd.C_drewN HC4.out _)).mono ?_
    rintro e w6 ⟨rfl, ⟨n6, rfl⟩⟩
    go_wp2
    go_ret
    exact ⟨rfl, pw_below_drewN HB4.out _⟩
  · have HIS := fun W => laminanum_Is.calls (some 2) 2 true W (by rfl)
    rw [errW_some] at HIS ⊢
    clear HO3 HR3 HB3 HR2 HB2 HC2 HB1 HF1 HF2 HCA
    go_wp2_with fail
    refine (laminanum_Kept.calls g cap _ _ A0 c0 l0 _ HR4.out HA4.out (by omega)).mono ?_
    rintro e w5 ⟨rfl, ⟨n5, rfl⟩⟩
    go_wp2_with fail
    refine (HIS _).mono ?_
    rintro e w6 ⟨rfl, ⟨n6, rfl⟩⟩
    go_wp2_with fail
    refine (HSAME _ (Kd.C_drewN HC3.out _) (Kd.C_drewN HC4.out _)).mono ?_
    rintro e w7 ⟨rfl, ⟨n7, rfl⟩⟩
    go_wp2
    go_ret
    exact ⟨rfl, pw_below_drewN HB4.out _⟩

end Go.Proofs.Ytdfkecfmmcdgiaa.Hp
