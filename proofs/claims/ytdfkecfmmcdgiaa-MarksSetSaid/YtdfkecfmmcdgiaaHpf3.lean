/- Contracts of functions of the given program, and what they lean on: written by this session's own program hprint.py, which lays hand texts into the kit's printer. -/
import Derived.Deep.DeepMust
import Derived.Test.YtdfkecfmmcdgiaaHp0
import Derived.Test.YtdfkecfmmcdgiaaHpaC
import Derived.Test.YtdfkecfmmcdgiaaHpf33
import Derived.Test.YtdfkecfmmcdgiaaHpf9
import Derived.Test.YtdfkecfmmcdgiaaHpf10
import Derived.Test.YtdfkecfmmcdgiaaHpf34
import Derived.Test.YtdfkecfmmcdgiaaHpf11
import Derived.Test.YtdfkecfmmcdgiaaHpf12
import Derived.Test.YtdfkecfmmcdgiaaHpf13
import Derived.Test.YtdfkecfmmcdgiaaHpf14
import Derived.Test.YtdfkecfmmcdgiaaHpf15
import Derived.Test.YtdfkecfmmcdgiaaHpf16
import Derived.Test.YtdfkecfmmcdgiaaHpf17
import Derived.Test.YtdfkecfmmcdgiaaHpf18
namespace Go.Proofs.Ytdfkecfmmcdgiaa.Hp
open Go.RowKit Go.Proofs.YtdfkecfmmcdgiaaW.PrintWords Go.Proofs.YtdfkecfmmcdgiaaW.PrintLast Go.Proofs.YtdfkecfmmcdgiaaW.PrintMore
attribute [local go_sem] max2_int min2_int max_two min_two max_three min_three max_four min_four   -- for this text's walks alone
set_option linter.unusedVariables false
set_option linter.unusedSimpArgs false

/-! ### laminalaw10_MarksSet: function 3 -/
theorem odd_f (x : Int) : marks_odd.f x = some (decide (x > 3)) := rfl
theorem set_bad (l : List Int) (a b : Int) (h : a < 0 ∨ a ≥ (l.length : Int) ∨ b > 3) : marks_Marks_Set.f l a b = some ([], some 1) := by
  unfold marks_Marks_Set.f
  by_cases h0 : a < 0
  · rw [if_pos h0]
  rw [if_neg h0]
  by_cases h1 : a ≥ (l.length : Int)
  · rw [if_pos h1]
  rw [if_neg h1, odd_f, Option.bind_some, decide_eq_true (by omega), if_pos rfl]
theorem set_good (l : List Int) (a : Nat) (b : Int) (ha : a < l.length) (hb : ¬ b > 3) (hl : l.length < 1000000) : marks_Marks_Set.f l a b = some (l.set a b, none) := by
  unfold marks_Marks_Set.f
  have hc : marks_Marks_byte_34.f l = some l := by unfold marks_Marks_byte_34.f; rw [if_pos (by omega)]
  rw [if_neg (by omega), if_neg (by omega), odd_f, Option.bind_some, decide_eq_false hb, if_neg (by simp), hc, Option.bind_some, if_pos (by omega), if_pos (by omega), Int.toNat_natCast]
set_option maxHeartbeats 4000000 in
theorem laminalaw10_MarksSet.law (A0 : Option Addr) (c0 : Nat) (l0 : List Int) (a1 a2 : Int) (w : World) (hr0 : Kd.C (Kd.int .u8) w A0 l0.length l0) (hc0 : l0.length ≤ c0) (_hy0 : l0.length * 1 ≤ 140737488351232) (hw0 : ∀ n ∈ l0, (Lit.int .u8 n).wf = true) (hw1 : (Lit.int .i64 a1).wf = true) (hw2 : (Lit.int .u8 a2).wf = true) :
    Calls Try.prog 3 #[.slice A0 l0.length c0, .int .i64 a1, .int .u8 a2] w fun e w' => e = .returned (.bool true) ∧ Below w.heap.size w w' := by
  have hu27 := Try.underlying27
  have hu33 := Try.underlying33
  have hm := hr0.2.1
  have HR0 := Aside0.mk hr0
  have HAL := fun W => laminalaw10_alive.calls true W alive10
  clear hr0 hw0 hw1 hw2
  by_cases hbig : l0.length > 2000
  · have h1 : (l0.length : Int) > 2000 := by omega
    clear hbig
    go_enter Try.func3, Try.ntmps3
    go_wp2_with fail
    refine (HAL _).mono ?_
    rintro e w1 ⟨rfl, hb⟩
    go_wp2
    go_ret
    exact ⟨rfl, hb⟩
  have h1 : ¬ (l0.length : Int) > 2000 := by omega
  have h2 : l0.length ≤ 2000 := by omega
  clear hbig
  obtain ⟨X, e1, HSE, HCS⟩ : ∃ X e1, Aside0 (marks_Marks_Set.f l0 a1 a2 = some (X, e1)) ∧ Aside0 (((a1 < 0 ∨ a1 ≥ (l0.length : Int) ∨ a2 > 3) ∧ X = [] ∧ e1 = some 1) ∨ (¬ (a1 < 0 ∨ a1 ≥ (l0.length : Int) ∨ a2 > 3) ∧ X = l0.set a1.toNat a2 ∧ e1 = none)) := by
    by_cases hb : a1 < 0 ∨ a1 ≥ (l0.length : Int) ∨ a2 > 3
    · exact ⟨_, _, ⟨set_bad l0 a1 a2 hb⟩, ⟨.inl ⟨hb, rfl, rfl⟩⟩⟩
    · obtain ⟨n, rfl⟩ := Int.eq_ofNat_of_zero_le (show 0 ≤ a1 by omega)
      exact ⟨_, _, ⟨set_good l0 n a2 (by omega) (by omega) (by omega)⟩, ⟨.inr ⟨hb, rfl, rfl⟩⟩⟩
  obtain ⟨Y, Z, e2, HSZ, HSN, HCZ⟩ : ∃ Y Z e2, Aside0 (marks_Marks_Sized.f l0 a1 = some (Y, e2)) ∧ Aside0 (marks_New.f a1 = some (Z, e2)) ∧ Aside0 (((0 ≤ a1 ∧ a1 ≤ 256) ∧ Y = szL l0 a1.toNat ∧ Z = List.replicate a1.toNat 0 ∧ e2 = none) ∨ (¬ (0 ≤ a1 ∧ a1 ≤ 256) ∧ Y = [] ∧ Z = [] ∧ e2 = some 1)) := by
    unfold marks_New.f marks_Marks_Sized.f
    by_cases hb : 0 ≤ a1 ∧ a1 ≤ 256
    · rw [if_pos hb, if_pos hb]
      exact ⟨_, _, _, ⟨rfl⟩, ⟨rfl⟩, ⟨.inl ⟨hb, rfl, szL_nil _, rfl⟩⟩⟩
    · rw [if_neg hb, if_neg hb]
      exact ⟨_, _, _, ⟨rfl⟩, ⟨rfl⟩, ⟨.inr ⟨hb, rfl, rfl, rfl⟩⟩⟩
  go_enter Try.func3, Try.ntmps3
  go_wp2_with fail
  refine (HAL _).mono ?_
  rintro e w1 ⟨rfl, hb1⟩
  have HB1 := Aside0.mk hb1
  clear hb1 HAL
  go_wp2_with fail
  refine (laminanum_Copy.calls A0 c0 l0 _ (Kd.C_below HR0.out HB1.out) (by omega)).mono ?_
  rintro e w2 ⟨g, cap, rfl, hg, hR2, hb2⟩
  have HG := Aside0.mk (show g < w2.heap.size from Kd.R_lt hR2 g rfl)
  have HR2 := Aside0.mk (Kd.R_lower hR2 HB1.out.size)
  have HB2 := Aside0.mk (below_step HB1.out hb2)
  obtain ⟨hC2, hcap⟩ := Kp_C hR2
  have HC2 := Aside0.mk hC2
  clear hR2 hb2 hC2 hg
  go_wp2_with fail
  refine (marks_Marks_Set.calls (some ⟨g, 0, none⟩) cap l0 a1 a2 _ _ _ HC2.out (by omega) HSE.out).mono ?_
  rintro e w3 ⟨v3, rfl, ho3, hb3⟩
  obtain ⟨A3, c3, rfl, -⟩ := Kd.R_reads ho3
  have HX3 := Aside0.mk (fun k (hk : (Value.slice A3 X.length c3).ownBlock = some k) => And.intro (Kd.R_base ho3 k hk) (Kd.R_lt ho3 k hk))
  have HSZ3 := Aside0.mk hb3.size
  have HO3 := Aside0.mk (Kd.R_lower ho3 HB2.out.size)
  have HR3 := Aside0.mk (Kd.R_below HR2.out hb3)
  have HC3 := Aside0.mk (Kd.C_below HC2.out hb3)
  have HB3 := Aside0.mk (below_step HB2.out hb3)
  clear ho3 hb3
  go_wp2_with fail
  refine (marks_Marks_Sized.calls (some ⟨g, 0, none⟩) cap l0 a1 _ _ _ HC3.out (by omega) HSZ.out).mono ?_
  rintro e w4 ⟨v4, rfl, ho4, hb4⟩
  obtain ⟨A4, c4, rfl, -⟩ := Kd.R_reads ho4
  have HX4 := Aside0.mk (fun k (hk : (Value.slice A4 Y.length c4).ownBlock = some k) => And.intro (Kd.R_base ho4 k hk) (Kd.R_lt ho4 k hk))
  have HSZ4 := Aside0.mk hb4.size
  have HO4 := Aside0.mk (Kd.R_lower ho4 HB3.out.size)
  have HO34 := Aside0.mk (Kd.R_below HO3.out hb4)
  have HR4 := Aside0.mk (Kd.R_below HR3.out hb4)
  have HB4 := Aside0.mk (below_step HB3.out hb4)
  clear ho4 hb4
  go_wp2_with fail
  refine (marks_New.calls a1 _ _ _ HSN.out).mono ?_
  rintro e w5 ⟨v5, rfl, ho5, hb5⟩
  obtain ⟨A5, c5, rfl, -⟩ := Kd.R_reads ho5
  have HX5 := Aside0.mk (fun k (hk : (Value.slice A5 Z.length c5).ownBlock = some k) => (Kd.R_base ho5 k hk))
  have HO5 := Aside0.mk (Kd.R_lower ho5 HB4.out.size)
  have HO35 := Aside0.mk (Kd.R_below HO34.out hb5)
  have HO45 := Aside0.mk (Kd.R_below HO4.out hb5)
  have HR5 := Aside0.mk (Kd.R_below HR4.out hb5)
  have HB5 := Aside0.mk (below_step HB4.out hb5)
  clear ho5 hb5 HR2 HR3 HR4 HC2 HC3 HO3 HO34 HO4 HB1 HB2 HB3 HB4 HSE HSZ HSN
  go_wp2_with fail
  refine (laminanum_Kept.calls g cap _ _ A0 c0 l0 _ HR5.out (Kd.C_below HR0.out HB5.out) (by omega)).mono ?_
  rintro e w6 ⟨rfl, ⟨n6, rfl⟩⟩
  rcases HCS.out with ⟨hb, rfl, rfl⟩ | ⟨hgd, hXE, rfl⟩
  · have HIS := fun W => laminanum_Is.calls (some 1) 1 true W (by rfl)
    rw [errW_some] at HIS ⊢
    clear HCS
    by_cases q0 : a1 < 0
    · clear hb
      go_wp2_with fail
      refine (HIS _).mono ?_
      rintro e w7 ⟨rfl, ⟨n7, rfl⟩⟩
      clear HIS
      rcases HCZ.out with ⟨hin, -⟩ | ⟨-, rfl, rfl, rfl⟩
      · exact absurd hin (by omega)
      have HIZ := fun W => laminanum_Is.calls (some 1) 1 true W (by rfl)
      rw [errW_some] at HIZ
      simp only [errW_some, List.length_nil] at *
      clear HCZ
      go_wp2_with fail
      refine (HIZ _).mono ?_
      rintro e wa ⟨rfl, ⟨na, rfl⟩⟩
      go_wp2_with fail
      refine (HIZ _).mono ?_
      rintro e wb ⟨rfl, ⟨nb, rfl⟩⟩
      go_wp2
      go_ret
      exact ⟨rfl, pw_below_drewN HB5.out _⟩
    by_cases q13 : a1 ≥ (l0.length : Int) ∧ a1 > 256
    · obtain ⟨q1, q3⟩ := q13
      clear hb
      go_wp2_with fail
      refine (HIS _).mono ?_
      rintro e w7 ⟨rfl, ⟨n7, rfl⟩⟩
      clear HIS
      rcases HCZ.out with ⟨hin, -⟩ | ⟨-, rfl, rfl, rfl⟩
      · exact absurd hin (by omega)
      have HIZ := fun W => laminanum_Is.calls (some 1) 1 true W (by rfl)
      rw [errW_some] at HIZ
      simp only [errW_some, List.length_nil] at *
      clear HCZ
      go_wp2_with fail
      refine (HIZ _).mono ?_
      rintro e wa ⟨rfl, ⟨na, rfl⟩⟩
      go_wp2_with fail
      refine (HIZ _).mono ?_
      rintro e wb ⟨rfl, ⟨nb, rfl⟩⟩
      go_wp2
      go_ret
      exact ⟨rfl, pw_below_drewN HB5.out _⟩
    by_cases q1 : a1 ≥ (l0.length : Int)
    · have q3 : ¬ a1 > 256 := by omega
      clear q13
      clear hb
      go_wp2_with fail
      refine (HIS _).mono ?_
      rintro e w7 ⟨rfl, ⟨n7, rfl⟩⟩
      clear HIS
      rcases HCZ.out with ⟨hin, rfl, rfl, rfl⟩ | ⟨hout, -⟩
      case inr => exact absurd (show 0 ≤ a1 ∧ a1 ≤ 256 by omega) hout
      obtain ⟨n, rfl⟩ := Int.eq_ofNat_of_zero_le hin.1
      rw [errW_none]
      simp only [Int.toNat_natCast] at *
      clear HCZ
      have hn : n ≤ 256 := by omega
      have HRS := Aside0.mk (rsz_f l0 n (by omega) 3000 (by omega))
      generalize hYY : szL l0 n = Y at *
      have HYL : Aside0 (Y.length = n) := ⟨by rw [← hYY, szL_eq]; simp⟩
      clear hYY
      go_wp2_with fail
      refine (laminaref10_Sized.calls 3000 A0 c0 l0 n _ _ (Kd.C_below HR0.out (pw_below_drewN HB5.out _)) hc0 HRS.out).mono ?_
      rintro e wa ⟨va, rfl, hoa, hba⟩
      obtain ⟨Aa, ca, rfl, -⟩ := Kd.R_reads hoa
      obtain ⟨-, hca, hCa⟩ := Kd.R_reads' hoa
      have PX := Aside0.mk (Kd.R_below (Kd.R_drewN HO35.out _) hba)
      have PY := Aside0.mk (Kd.R_below (Kd.R_drewN HO45.out _) hba)
      have PZ := Aside0.mk (Kd.R_below (Kd.R_drewN HO5.out _) hba)
      have PC := Aside0.mk (Kd.R_below (Kd.R_drewN HR5.out _) hba)
      have PB := Aside0.mk (below_step (pw_below_drewN HB5.out _) hba)
      have hcy := (Kd.R_reads' PY.out).2.1
      have HCY := Aside0.mk (Kd.R_reads' PY.out).2.2
      have HCA := Aside0.mk hCa
      clear hoa hba hCa HRS
      go_wp2_with fail
      refine (laminanum_Same.calls A4 c4 Y Aa ca Y true _ HCY.out hcy HCA.out hca (same_refl Y)).mono ?_
      rintro e wb ⟨rfl, ⟨nb, rfl⟩⟩
      go_wp2_with (first | ((with_reducible refine gate_dst (N := 117) rfl ?_); (try (refine gate_guard (by rfl) ?_; dsimp only)); refine Kd.R_make (Kd.int .u8) _ 5 rfl (N := 117) rfl 22 _ _ rfl (n : Int) rfl rfl Try.underlying22 (.int .u8 0) 1 info5 rfl (by decide) (by omega) 0 (ok := fun _ => True) (okp := fun _ => True) rfl (fun _ hk => hk) trivial (by omega) (by omega) (Below.refl _ _) (Nat.le_refl _) ?_; intro vm wm hom hbm hgm hnew; clear hgm hnew; rw [Int.toNat_natCast] at hom; have HOM := Aside0.mk hom; have HBM := Aside0.mk hbm; clear hom hbm))
      obtain ⟨Am, cm, hvm, -⟩ := Kd.R_reads HOM.out
      subst hvm
      have QX := Aside0.mk (Kd.R_below (Kd.R_drewN PX.out _) HBM.out)
      have QY := Aside0.mk (Kd.R_below (Kd.R_drewN PY.out _) HBM.out)
      have QZ := Aside0.mk (Kd.R_below (Kd.R_drewN PZ.out _) HBM.out)
      have QC := Aside0.mk (Kd.R_below (Kd.R_drewN PC.out _) HBM.out)
      have QB := Aside0.mk (below_step (pw_below_drewN PB.out _) HBM.out)
      have HSM := laminanum_Same.calls A5 c5 (List.replicate n 0) Am cm (List.replicate n 0) true wm (Kd.R_reads' QZ.out).2.2 (Kd.R_reads' QZ.out).2.1 (Kd.R_reads' HOM.out).2.2 (Kd.R_reads' HOM.out).2.1 (same_refl _)
      simp only [List.length_replicate] at HSM
      simp only [List.length_replicate]
      clear PX PY PZ PC PB HCY HCA hcy hca
      refine HSM.mono ?_
      rintro e wc ⟨rfl, ⟨nc, rfl⟩⟩
      clear HSM
      have HAP : ∀ m : Nat, Calls Try.prog 18 #[.slice (some ⟨wm.heap.size, 0, none⟩) 4 4] ((wm.drewN m).alloc (.cells #[.slice (some ⟨g, 0, none⟩) l0.length cap, .slice A3 0 c3, .slice A4 Y.length c4, .slice A5 n c5] 22)) fun e w' => e = .returned (.bool true) ∧ Below w.heap.size ((wm.drewN m).alloc (.cells #[.slice (some ⟨g, 0, none⟩) l0.length cap, .slice A3 0 c3, .slice A4 Y.length c4, .slice A5 n c5] 22)) w' := by
        intro m
        have hyl := HYL.out
        have hc : Ow wm w.heap.size (.slice (some ⟨g, 0, none⟩) l0.length cap) l0 := by
          have := Ow_take (R_Ow QC.out) l0.length (by simp)
          rw [List.take_left] at this
          exact this
        have hx : Ow wm w.heap.size (.slice A3 0 c3) ([] : List Int) := by simpa using R_Ow QX.out
        have hy : Ow wm w.heap.size (.slice A4 Y.length c4) Y := R_Ow QY.out
        have hz : Ow wm w.heap.size (.slice A5 n c5) (List.replicate n 0) := by simpa using R_Ow QZ.out
        refine laminanum_Apart.calls [.slice (some ⟨g, 0, none⟩) l0.length cap, .slice A3 0 c3, .slice A4 Y.length c4, .slice A5 n c5] (fun i => if i = 0 then l0 else if i = 1 then ([] : List Int) else if i = 2 then Y else List.replicate n 0) wm.heap.size 4 w.heap.size _ (heap_alloc_new (wm.drewN m) _) (by simp) (fun i => ?_) (fun i v hi => ?_) (pw_hd ?_) (Nat.le_trans QB.out.size (by simp))
        · show (if i = 0 then l0 else if i = 1 then ([] : List Int) else if i = 2 then Y else List.replicate n 0).length ≤ 100000
          (repeat' split) <;> first | omega | (simp; done) | (simp; omega)
        · rcases i with _ | _ | _ | _ | i
          · simp at hi; subst hi; exact World.ownsRow.alloc (w := wm.drewN m) hc _
          · simp at hi; subst hi; exact World.ownsRow.alloc (w := wm.drewN m) hx _
          · simp at hi; subst hi; exact World.ownsRow.alloc (w := wm.drewN m) hy _
          · simp at hi; subst hi; exact World.ownsRow.alloc (w := wm.drewN m) hz _
          · simp at hi
        · have h3 := HX3.out
          have h4 := HX4.out
          have h5 := HX5.out
          simp only [List.length_replicate] at h5
          have hg := HG.out
          have s3 := HSZ3.out
          have s4 := HSZ4.out
          simp only [List.pairwise_cons, List.mem_cons, List.not_mem_nil, or_false, forall_eq_or_imp, forall_eq, List.Pairwise.nil, and_true, false_implies, implies_true]
          refine ⟨⟨fun k hk hk2 => ?_, fun k hk hk2 => ?_, fun k hk hk2 => ?_⟩, ⟨fun k hk hk2 => ?_, fun k hk hk2 => ?_⟩, fun k hk hk2 => ?_⟩
          · have hgk : g = k := by simpa [Value.ownBlock] using hk
            have := h3 k hk2
            omega
          · have hgk : g = k := by simpa [Value.ownBlock] using hk
            have := h4 k hk2
            omega
          · have hgk : g = k := by simpa [Value.ownBlock] using hk
            have := h5 k hk2
            omega
          · have := h3 k hk
            have := h4 k hk2
            omega
          · have := h3 k hk
            have := h5 k hk2
            omega
          · have := h4 k hk
            have := h5 k hk2
            omega
      go_wp2_with fail
      refine (HAP _).mono ?_
      rintro e wd ⟨rfl, hbd⟩
      go_wp2
      go_ret
      exact ⟨rfl, ((pw_below_drewN QB.out _).alloc QB.out.size _).trans hbd⟩
    have q2 : a2 > 3 := by omega
    clear q13
    by_cases q3 : a1 > 256
    · skip
      clear hb
      go_wp2_with fail
      refine (HIS _).mono ?_
      rintro e w7 ⟨rfl, ⟨n7, rfl⟩⟩
      clear HIS
      rcases HCZ.out with ⟨hin, -⟩ | ⟨-, rfl, rfl, rfl⟩
      · exact absurd hin (by omega)
      have HIZ := fun W => laminanum_Is.calls (some 1) 1 true W (by rfl)
      rw [errW_some] at HIZ
      simp only [errW_some, List.length_nil] at *
      clear HCZ
      go_wp2_with fail
      refine (HIZ _).mono ?_
      rintro e wa ⟨rfl, ⟨na, rfl⟩⟩
      go_wp2_with fail
      refine (HIZ _).mono ?_
      rintro e wb ⟨rfl, ⟨nb, rfl⟩⟩
      go_wp2
      go_ret
      exact ⟨rfl, pw_below_drewN HB5.out _⟩
    · skip
      clear hb
      go_wp2_with fail
      refine (HIS _).mono ?_
      rintro e w7 ⟨rfl, ⟨n7, rfl⟩⟩
      clear HIS
      rcases HCZ.out with ⟨hin, rfl, rfl, rfl⟩ | ⟨hout, -⟩
      case inr => exact absurd (show 0 ≤ a1 ∧ a1 ≤ 256 by omega) hout
      obtain ⟨n, rfl⟩ := Int.eq_ofNat_of_zero_le hin.1
      rw [errW_none]
      simp only [Int.toNat_natCast] at *
      clear HCZ
      have hn : n ≤ 256 := by omega
      have HRS := Aside0.mk (rsz_f l0 n (by omega) 3000 (by omega))
      generalize hYY : szL l0 n = Y at *
      have HYL : Aside0 (Y.length = n) := ⟨by rw [← hYY, szL_eq]; simp⟩
      clear hYY
      go_wp2_with fail
      refine (laminaref10_Sized.calls 3000 A0 c0 l0 n _ _ (Kd.C_below HR0.out (pw_below_drewN HB5.out _)) hc0 HRS.out).mono ?_
      rintro e wa ⟨va, rfl, hoa, hba⟩
      obtain ⟨Aa, ca, rfl, -⟩ := Kd.R_reads hoa
      obtain ⟨-, hca, hCa⟩ := Kd.R_reads' hoa
      have PX := Aside0.mk (Kd.R_below (Kd.R_drewN HO35.out _) hba)
      have PY := Aside0.mk (Kd.R_below (Kd.R_drewN HO45.out _) hba)
      have PZ := Aside0.mk (Kd.R_below (Kd.R_drewN HO5.out _) hba)
      have PC := Aside0.mk (Kd.R_below (Kd.R_drewN HR5.out _) hba)
      have PB := Aside0.mk (below_step (pw_below_drewN HB5.out _) hba)
      have hcy := (Kd.R_reads' PY.out).2.1
      have HCY := Aside0.mk (Kd.R_reads' PY.out).2.2
      have HCA := Aside0.mk hCa
      clear hoa hba hCa HRS
      go_wp2_with fail
      refine (laminanum_Same.calls A4 c4 Y Aa ca Y true _ HCY.out hcy HCA.out hca (same_refl Y)).mono ?_
      rintro e wb ⟨rfl, ⟨nb, rfl⟩⟩
      go_wp2_with (first | ((with_reducible refine gate_dst (N := 117) rfl ?_); (try (refine gate_guard (by rfl) ?_; dsimp only)); refine Kd.R_make (Kd.int .u8) _ 5 rfl (N := 117) rfl 22 _ _ rfl (n : Int) rfl rfl Try.underlying22 (.int .u8 0) 1 info5 rfl (by decide) (by omega) 0 (ok := fun _ => True) (okp := fun _ => True) rfl (fun _ hk => hk) trivial (by omega) (by omega) (Below.refl _ _) (Nat.le_refl _) ?_; intro vm wm hom hbm hgm hnew; clear hgm hnew; rw [Int.toNat_natCast] at hom; have HOM := Aside0.mk hom; have HBM := Aside0.mk hbm; clear hom hbm))
      obtain ⟨Am, cm, hvm, -⟩ := Kd.R_reads HOM.out
      subst hvm
      have QX := Aside0.mk (Kd.R_below (Kd.R_drewN PX.out _) HBM.out)
      have QY := Aside0.mk (Kd.R_below (Kd.R_drewN PY.out _) HBM.out)
      have QZ := Aside0.mk (Kd.R_below (Kd.R_drewN PZ.out _) HBM.out)
      have QC := Aside0.mk (Kd.R_below (Kd.R_drewN PC.out _) HBM.out)
      have QB := Aside0.mk (below_step (pw_below_drewN PB.out _) HBM.out)
      have HSM := laminanum_Same.calls A5 c5 (List.replicate n 0) Am cm (List.replicate n 0) true wm (Kd.R_reads' QZ.out).2.2 (Kd.R_reads' QZ.out).2.1 (Kd.R_reads' HOM.out).2.2 (Kd.R_reads' HOM.out).2.1 (same_refl _)
      simp only [List.length_replicate] at HSM
      simp only [List.length_replicate]
      clear PX PY PZ PC PB HCY HCA hcy hca
      refine HSM.mono ?_
      rintro e wc ⟨rfl, ⟨nc, rfl⟩⟩
      clear HSM
      have HAP : ∀ m : Nat, Calls Try.prog 18 #[.slice (some ⟨wm.heap.size, 0, none⟩) 4 4] ((wm.drewN m).alloc (.cells #[.slice (some ⟨g, 0, none⟩) l0.length cap, .slice A3 0 c3, .slice A4 Y.length c4, .slice A5 n c5] 22)) fun e w' => e = .returned (.bool true) ∧ Below w.heap.size ((wm.drewN m).alloc (.cells #[.slice (some ⟨g, 0, none⟩) l0.length cap, .slice A3 0 c3, .slice A4 Y.length c4, .slice A5 n c5] 22)) w' := by
        intro m
        have hyl := HYL.out
        have hc : Ow wm w.heap.size (.slice (some ⟨g, 0, none⟩) l0.length cap) l0 := by
          have := Ow_take (R_Ow QC.out) l0.length (by simp)
          rw [List.take_left] at this
          exact this
        have hx : Ow wm w.heap.size (.slice A3 0 c3) ([] : List Int) := by simpa using R_Ow QX.out
        have hy : Ow wm w.heap.size (.slice A4 Y.length c4) Y := R_Ow QY.out
        have hz : Ow wm w.heap.size (.slice A5 n c5) (List.replicate n 0) := by simpa using R_Ow QZ.out
        refine laminanum_Apart.calls [.slice (some ⟨g, 0, none⟩) l0.length cap, .slice A3 0 c3, .slice A4 Y.length c4, .slice A5 n c5] (fun i => if i = 0 then l0 else if i = 1 then ([] : List Int) else if i = 2 then Y else List.replicate n 0) wm.heap.size 4 w.heap.size _ (heap_alloc_new (wm.drewN m) _) (by simp) (fun i => ?_) (fun i v hi => ?_) (pw_hd ?_) (Nat.le_trans QB.out.size (by simp))
        · show (if i = 0 then l0 else if i = 1 then ([] : List Int) else if i = 2 then Y else List.replicate n 0).length ≤ 100000
          (repeat' split) <;> first | omega | (simp; done) | (simp; omega)
        · rcases i with _ | _ | _ | _ | i
          · simp at hi; subst hi; exact World.ownsRow.alloc (w := wm.drewN m) hc _
          · simp at hi; subst hi; exact World.ownsRow.alloc (w := wm.drewN m) hx _
          · simp at hi; subst hi; exact World.ownsRow.alloc (w := wm.drewN m) hy _
          · simp at hi; subst hi; exact World.ownsRow.alloc (w := wm.drewN m) hz _
          · simp at hi
        · have h3 := HX3.out
          have h4 := HX4.out
          have h5 := HX5.out
          simp only [List.length_replicate] at h5
          have hg := HG.out
          have s3 := HSZ3.out
          have s4 := HSZ4.out
          simp only [List.pairwise_cons, List.mem_cons, List.not_mem_nil, or_false, forall_eq_or_imp, forall_eq, List.Pairwise.nil, and_true, false_implies, implies_true]
          refine ⟨⟨fun k hk hk2 => ?_, fun k hk hk2 => ?_, fun k hk hk2 => ?_⟩, ⟨fun k hk hk2 => ?_, fun k hk hk2 => ?_⟩, fun k hk hk2 => ?_⟩
          · have hgk : g = k := by simpa [Value.ownBlock] using hk
            have := h3 k hk2
            omega
          · have hgk : g = k := by simpa [Value.ownBlock] using hk
            have := h4 k hk2
            omega
          · have hgk : g = k := by simpa [Value.ownBlock] using hk
            have := h5 k hk2
            omega
          · have := h3 k hk
            have := h4 k hk2
            omega
          · have := h3 k hk
            have := h5 k hk2
            omega
          · have := h4 k hk
            have := h5 k hk2
            omega
      go_wp2_with fail
      refine (HAP _).mono ?_
      rintro e wd ⟨rfl, hbd⟩
      go_wp2
      go_ret
      exact ⟨rfl, ((pw_below_drewN QB.out _).alloc QB.out.size _).trans hbd⟩
  · have q0 : ¬ a1 < 0 := by omega
    have q1 : ¬ a1 ≥ (l0.length : Int) := by omega
    have q2 : ¬ a2 > 3 := by omega
    have hXL : X.length = l0.length := by rw [hXE]; simp
    have HXE := Aside0.mk hXE
    have HXL := Aside0.mk hXL
    have q8 : a1 < (X.length : Int) := by rw [hXL]; omega
    clear HCS hgd hXE hXL
    rw [errW_none]
    go_wp2_with (((with_reducible refine gate_builtin (b := .append) (xs := #[.tmp 64, .tmp 65]) rfl ?_); at_builtin); go_must (refine Kd.R_append_rows (Kd.int .u8) (w0 := w5.drewN n6) w5.heap.size rfl (.tmp 64) (.tmp 65) 22 5 (.int .u8 0) 1 rfl Try.underlying22 info5 rfl (by decide) (by omega) _ [] l0 _ _ _ (fun _ => True) (fun _ => False) rfl rfl ?aO ?aR (fun _ _ h => h) (fun _ h => h.elim) (fun _ _ => trivial) ?aB ?aS ?aL ?_; (case aO => exact R_empty (w5.drewN n6) w5.heap.size (Nat.le_refl _)); (case aR => exact Kd.C_alloc (Kd.C_drewN (Kd.C_below HR0.out HB5.out) _) _); (case aB => exact below_alloc (w := w5.drewN n6) (Below.refl _ _) _); (case aS => simp); (case aL => (simp; omega)); intro v8 w8 ho8 hb8 hg8 hat8; clear hg8 hat8; have HO8 := Aside0.mk ho8; have HB8 := Aside0.mk hb8; clear ho8 hb8; obtain ⟨g8, c8, e8, gb8, gl8, cl8, hg8⟩ := Kd.R_form HO8.out (show 0 < ([] ++ l0).length by rw [List.nil_append]; omega); have E8 := Aside0.mk e8; have GB8 := Aside0.mk gb8; have HO8X : Aside0 (Kd.R (Kd.int .u8) 5 w8 w5.heap.size (fun _ => True) (.slice (some ⟨g8, 0, none⟩) l0.length c8) l0) := ⟨by have := HO8.out; rw [E8.out] at this; simpa using this⟩; rw [List.nil_append, ← HXL.out] at e8; subst e8; clear gb8 gl8 cl8 hg8 HO8 E8; obtain ⟨hx8, hf8⟩ := Kd.R_celln 0 HO8X.out a1 (by omega) (by omega); have HP8 := Aside0.mk (Kd.R_putg HO8X.out a1 a2)))
    generalize w8.setCell ⟨g8, a1.toNat, none⟩ (.int .u8 a2) = w9 at *
    have hb9 : Below w5.heap.size (w5.drewN n6) w9 := pw_below_grown HB8.out (some g8) HB8.out.size HP8.out.2 (fun k hk => by cases hk; exact GB8.out)
    have H9 : Aside0 (Kd.R (Kd.int .u8) 5 w9 w5.heap.size (fun _ => True) (.slice (some ⟨g8, 0, none⟩) X.length c8) X) := ⟨by have := HP8.out.1; rw [← HXE.out, ← HXL.out] at this; exact this⟩
    have HB9 := Aside0.mk (below_step (pw_below_drewN HB5.out n6) hb9)
    have HO39 := Aside0.mk (Kd.R_below (Kd.R_drewN HO35.out n6) hb9)
    have HO49 := Aside0.mk (Kd.R_below (Kd.R_drewN HO45.out n6) hb9)
    have HO59 := Aside0.mk (Kd.R_below (Kd.R_drewN HO5.out n6) hb9)
    have HR9 := Aside0.mk (Kd.R_below (Kd.R_drewN HR5.out n6) hb9)
    have hXle : X.length ≤ 2000 := by rw [HXL.out]; omega
    clear hb9 HP8 HB8 GB8 HO8X hx8 hf8 HXE HO35 HO45 HO5 HR5 HB5
    have hcx := (Kd.R_reads' HO39.out).2.1
    have HCX := Aside0.mk (Kd.R_reads' HO39.out).2.2
    have hcy' := (Kd.R_reads' H9.out).2.1
    have HCY' := Aside0.mk (Kd.R_reads' H9.out).2.2
    refine (laminanum_Same.calls A3 c3 X (some ⟨g8, 0, none⟩) c8 X true _ HCX.out hcx HCY'.out hcy' (same_refl X)).mono ?_
    rintro e wq ⟨rfl, ⟨nq, rfl⟩⟩
    clear HCX hcx HCY' hcy' H9 HXL
    by_cases q3 : a1 > 256
    · skip
      rcases HCZ.out with ⟨hin, -⟩ | ⟨-, rfl, rfl, rfl⟩
      · exact absurd hin (by omega)
      have HIZ := fun W => laminanum_Is.calls (some 1) 1 true W (by rfl)
      rw [errW_some] at HIZ
      simp only [errW_some, List.length_nil] at *
      clear HCZ
      go_wp2_with fail
      refine (HIZ _).mono ?_
      rintro e wa ⟨rfl, ⟨na, rfl⟩⟩
      go_wp2_with fail
      refine (HIZ _).mono ?_
      rintro e wb ⟨rfl, ⟨nb, rfl⟩⟩
      go_wp2
      go_ret
      exact ⟨rfl, pw_below_drewN HB9.out _⟩
    · skip
      rcases HCZ.out with ⟨hin, rfl, rfl, rfl⟩ | ⟨hout, -⟩
      case inr => exact absurd (show 0 ≤ a1 ∧ a1 ≤ 256 by omega) hout
      obtain ⟨n, rfl⟩ := Int.eq_ofNat_of_zero_le hin.1
      rw [errW_none]
      simp only [Int.toNat_natCast] at *
      clear HCZ
      have hn : n ≤ 256 := by omega
      have HRS := Aside0.mk (rsz_f l0 n (by omega) 3000 (by omega))
      generalize hYY : szL l0 n = Y at *
      have HYL : Aside0 (Y.length = n) := ⟨by rw [← hYY, szL_eq]; simp⟩
      clear hYY
      go_wp2_with fail
      refine (laminaref10_Sized.calls 3000 A0 c0 l0 n _ _ (Kd.C_below HR0.out (pw_below_drewN HB9.out _)) hc0 HRS.out).mono ?_
      rintro e wa ⟨va, rfl, hoa, hba⟩
      obtain ⟨Aa, ca, rfl, -⟩ := Kd.R_reads hoa
      obtain ⟨-, hca, hCa⟩ := Kd.R_reads' hoa
      have PX := Aside0.mk (Kd.R_below (Kd.R_drewN HO39.out _) hba)
      have PY := Aside0.mk (Kd.R_below (Kd.R_drewN HO49.out _) hba)
      have PZ := Aside0.mk (Kd.R_below (Kd.R_drewN HO59.out _) hba)
      have PC := Aside0.mk (Kd.R_below (Kd.R_drewN HR9.out _) hba)
      have PB := Aside0.mk (below_step (pw_below_drewN HB9.out _) hba)
      have hcy := (Kd.R_reads' PY.out).2.1
      have HCY := Aside0.mk (Kd.R_reads' PY.out).2.2
      have HCA := Aside0.mk hCa
      clear hoa hba hCa HRS
      go_wp2_with fail
      refine (laminanum_Same.calls A4 c4 Y Aa ca Y true _ HCY.out hcy HCA.out hca (same_refl Y)).mono ?_
      rintro e wb ⟨rfl, ⟨nb, rfl⟩⟩
      go_wp2_with (first | ((with_reducible refine gate_dst (N := 117) rfl ?_); (try (refine gate_guard (by rfl) ?_; dsimp only)); refine Kd.R_make (Kd.int .u8) _ 5 rfl (N := 117) rfl 22 _ _ rfl (n : Int) rfl rfl Try.underlying22 (.int .u8 0) 1 info5 rfl (by decide) (by omega) 0 (ok := fun _ => True) (okp := fun _ => True) rfl (fun _ hk => hk) trivial (by omega) (by omega) (Below.refl _ _) (Nat.le_refl _) ?_; intro vm wm hom hbm hgm hnew; clear hgm hnew; rw [Int.toNat_natCast] at hom; have HOM := Aside0.mk hom; have HBM := Aside0.mk hbm; clear hom hbm))
      obtain ⟨Am, cm, hvm, -⟩ := Kd.R_reads HOM.out
      subst hvm
      have QX := Aside0.mk (Kd.R_below (Kd.R_drewN PX.out _) HBM.out)
      have QY := Aside0.mk (Kd.R_below (Kd.R_drewN PY.out _) HBM.out)
      have QZ := Aside0.mk (Kd.R_below (Kd.R_drewN PZ.out _) HBM.out)
      have QC := Aside0.mk (Kd.R_below (Kd.R_drewN PC.out _) HBM.out)
      have QB := Aside0.mk (below_step (pw_below_drewN PB.out _) HBM.out)
      have HSM := laminanum_Same.calls A5 c5 (List.replicate n 0) Am cm (List.replicate n 0) true wm (Kd.R_reads' QZ.out).2.2 (Kd.R_reads' QZ.out).2.1 (Kd.R_reads' HOM.out).2.2 (Kd.R_reads' HOM.out).2.1 (same_refl _)
      simp only [List.length_replicate] at HSM
      simp only [List.length_replicate]
      clear PX PY PZ PC PB HCY HCA hcy hca
      refine HSM.mono ?_
      rintro e wc ⟨rfl, ⟨nc, rfl⟩⟩
      clear HSM
      have HAP : ∀ m : Nat, Calls Try.prog 18 #[.slice (some ⟨wm.heap.size, 0, none⟩) 4 4] ((wm.drewN m).alloc (.cells #[.slice (some ⟨g, 0, none⟩) l0.length cap, .slice A3 X.length c3, .slice A4 Y.length c4, .slice A5 n c5] 22)) fun e w' => e = .returned (.bool true) ∧ Below w.heap.size ((wm.drewN m).alloc (.cells #[.slice (some ⟨g, 0, none⟩) l0.length cap, .slice A3 X.length c3, .slice A4 Y.length c4, .slice A5 n c5] 22)) w' := by
        intro m
        have hyl := HYL.out
        have hc : Ow wm w.heap.size (.slice (some ⟨g, 0, none⟩) l0.length cap) l0 := by
          have := Ow_take (R_Ow QC.out) l0.length (by simp)
          rw [List.take_left] at this
          exact this
        have hx : Ow wm w.heap.size (.slice A3 X.length c3) X := by simpa using R_Ow QX.out
        have hy : Ow wm w.heap.size (.slice A4 Y.length c4) Y := R_Ow QY.out
        have hz : Ow wm w.heap.size (.slice A5 n c5) (List.replicate n 0) := by simpa using R_Ow QZ.out
        refine laminanum_Apart.calls [.slice (some ⟨g, 0, none⟩) l0.length cap, .slice A3 X.length c3, .slice A4 Y.length c4, .slice A5 n c5] (fun i => if i = 0 then l0 else if i = 1 then X else if i = 2 then Y else List.replicate n 0) wm.heap.size 4 w.heap.size _ (heap_alloc_new (wm.drewN m) _) (by simp) (fun i => ?_) (fun i v hi => ?_) (pw_hd ?_) (Nat.le_trans QB.out.size (by simp))
        · show (if i = 0 then l0 else if i = 1 then X else if i = 2 then Y else List.replicate n 0).length ≤ 100000
          (repeat' split) <;> first | omega | (simp; done) | (simp; omega)
        · rcases i with _ | _ | _ | _ | i
          · simp at hi; subst hi; exact World.ownsRow.alloc (w := wm.drewN m) hc _
          · simp at hi; subst hi; exact World.ownsRow.alloc (w := wm.drewN m) hx _
          · simp at hi; subst hi; exact World.ownsRow.alloc (w := wm.drewN m) hy _
          · simp at hi; subst hi; exact World.ownsRow.alloc (w := wm.drewN m) hz _
          · simp at hi
        · have h3 := HX3.out
          have h4 := HX4.out
          have h5 := HX5.out
          simp only [List.length_replicate] at h5
          have hg := HG.out
          have s3 := HSZ3.out
          have s4 := HSZ4.out
          simp only [List.pairwise_cons, List.mem_cons, List.not_mem_nil, or_false, forall_eq_or_imp, forall_eq, List.Pairwise.nil, and_true, false_implies, implies_true]
          refine ⟨⟨fun k hk hk2 => ?_, fun k hk hk2 => ?_, fun k hk hk2 => ?_⟩, ⟨fun k hk hk2 => ?_, fun k hk hk2 => ?_⟩, fun k hk hk2 => ?_⟩
          · have hgk : g = k := by simpa [Value.ownBlock] using hk
            have := h3 k hk2
            omega
          · have hgk : g = k := by simpa [Value.ownBlock] using hk
            have := h4 k hk2
            omega
          · have hgk : g = k := by simpa [Value.ownBlock] using hk
            have := h5 k hk2
            omega
          · have := h3 k hk
            have := h4 k hk2
            omega
          · have := h3 k hk
            have := h5 k hk2
            omega
          · have := h4 k hk
            have := h5 k hk2
            omega
      go_wp2_with fail
      refine (HAP _).mono ?_
      rintro e wd ⟨rfl, hbd⟩
      go_wp2
      go_ret
      exact ⟨rfl, ((pw_below_drewN QB.out _).alloc QB.out.size _).trans hbd⟩

end Go.Proofs.Ytdfkecfmmcdgiaa.Hp
