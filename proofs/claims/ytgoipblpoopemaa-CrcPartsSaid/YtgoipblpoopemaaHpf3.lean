/- Contracts of functions of the given program, and what they lean on: written by this session's own program hprint.py, which lays hand texts into the kit's printer. -/
import Derived.Test.YtgoipblpoopemaaHp0
import Derived.Test.YtgoipblpoopemaaHpaC
import Derived.Test.YtgoipblpoopemaaHpf12
import Derived.Test.YtgoipblpoopemaaHpacrcm
import Derived.Test.YtgoipblpoopemaaHpf11
import Derived.Test.YtgoipblpoopemaaHpacrcn
import Derived.Test.YtgoipblpoopemaaHpf8
import Derived.Test.YtgoipblpoopemaaHpf9
import Derived.Test.YtgoipblpoopemaaHpf10
import Derived.Test.YtgoipblpoopemaaHpacrcr
import Derived.Test.YtgoipblpoopemaaHpf13
namespace Go.Proofs.Ytgoipblpoopemaa.Hp
open Go.RowKit Go.Proofs.YtgoipblpoopemaaW.PrintWords Go.Proofs.YtgoipblpoopemaaW.PrintLast Go.Proofs.YtgoipblpoopemaaW.PrintMore
attribute [local go_sem] max2_int min2_int max_two min_two max_three min_three max_four min_four   -- for this text's walks alone
set_option linter.unusedVariables false
set_option linter.unusedSimpArgs false

/-! ### laminalaw01_CrcSums: function 3 -/
theorem goI_goI (a b : List Int) (ha : IsBytes a) (hb : IsBytes b) : goI (sumI [a]) b = sumI [a ++ b] := by
  have hab : IsBytes (a ++ b) := fun x hx => by
    rcases List.mem_append.1 hx with h | h
    · exact ha x h
    · exact hb x h
  rw [sum1_b a ha, goI_b _ b hb, sum1_b _ hab, ← BitVec.xor_assoc, BitVec.xor_self, BitVec.zero_xor]
  rw [show bvs (a ++ b) = bvs a ++ bvs b by simp [bvs], regB_append]
theorem laminalaw01_CrcSums.law (A0 : Option Addr) (c0 : Nat) (l0 : List Int) (A1 : Option Addr) (c1 : Nat) (l1 : List Int) (w : World) (hr0 : Kd.C (Kd.int .u8) w A0 l0.length l0) (hc0 : l0.length ≤ c0) (_hy0 : l0.length * 1 ≤ 140737488351232) (hw0 : ∀ n ∈ l0, (Lit.int .u8 n).wf = true)
    (hr1 : Kd.C (Kd.int .u8) w A1 l1.length l1) (hc1 : l1.length ≤ c1) (_hy1 : l1.length * 1 ≤ 140737488351232) (hw1 : ∀ n ∈ l1, (Lit.int .u8 n).wf = true) :
    Calls Try.prog 3 #[.slice A0 l0.length c0, .slice A1 l1.length c1] w fun e w' => e = .returned (.bool true) ∧ Below w.heap.size w w' := by
  have HR0 := Aside0.mk hr0
  have HR1 := Aside0.mk hr1
  have HW0 := Aside0.mk (wfs_u8 hw0)
  have HW1 := Aside0.mk (wfs_u8 hw1)
  clear hr0 hr1 hw0 hw1
  by_cases h4 : 5000 < l0.length
  · go_enter Try.func3, Try.ntmps3
    go_wp2_with (go_at_call 8; refine (laminalaw01_alive.calls _).mono ?_; rintro e w' ⟨rfl, hb⟩; have HB := Aside0.mk hb; clear hb)
    go_ret
    exact ⟨rfl, HB.out⟩
  by_cases h5 : 5000 < l1.length
  · go_enter Try.func3, Try.ntmps3
    go_wp2_with (go_at_call 8; refine (laminalaw01_alive.calls _).mono ?_; rintro e w' ⟨rfl, hb⟩; have HB := Aside0.mk hb; clear hb)
    go_ret
    exact ⟨rfl, HB.out⟩
  have hab : IsBytes (l0 ++ l1) := fun x hx => by
    rcases List.mem_append.1 hx with h | h
    · exact HW0.out x h
    · exact HW1.out x h
  have HS := Aside0.mk (show crc_Sum.f [l0, l1] = some (sumI [l0 ++ l1]) from by
    rw [← goI_goI l0 l1 HW0.out HW1.out]
    exact if_pos (fun l hl => by
      simp only [List.mem_cons, List.not_mem_nil, or_false] at hl
      rcases hl with rfl | rfl
      · exact HW0.out
      · exact HW1.out))
  have sb := sumI_bd [l0] 0 (by decide) (by decide) (fun l hl => by simp at hl; subst hl; exact HW0.out)
  have HG := Aside0.mk (show crc_Go.f (sumI [l0]) l1 = some (sumI [l0 ++ l1]) from by rw [← goI_goI l0 l1 HW0.out HW1.out]; exact if_pos ⟨sb.1, sb.2, HW1.out⟩)
  have HF1 := Aside0.mk (refsum (l0 ++ l1) hab (by simp; omega))
  have HF0 := Aside0.mk (refsum l0 HW0.out (by omega))
  clear hab sb
  generalize sumI [l0 ++ l1] = s at *
  generalize sumI [l0] = s0 at *
  go_enter Try.func3, Try.ntmps3
  go_wp2_with (first | (go_at_call 8; refine (laminalaw01_alive.calls _).mono ?_; rintro e w1 ⟨rfl, hb⟩; have HB1 := Aside0.mk hb; clear hb))
  refine (laminanum_Copy.calls _ _ l1 _ (Kd.C_below HR1.out HB1.out) (by omega)).mono ?_
  rintro e w2 ⟨g, cap, rfl, hg, hR, hb⟩
  have HB2 := Aside0.mk (below_step HB1.out hb)
  have HK := Aside0.mk hR
  clear hb hR
  go_wp2_with (first | ((with_reducible refine gate_builtin (b := .append) (xs := #[.tmp 19, .tmp 20]) rfl ?_); at_builtin; refine Kd.R_append_rows (Kd.int .u8) (w0 := w2) w2.heap.size rfl (.tmp 19) (.tmp 20) 22 5 (.int .u8 0) 1 rfl Try.underlying22 info5 rfl (by decide) (by omega) _ [] l0 _ _ _ (fun _ => True) (fun _ => False) rfl rfl ?aO ?aR (fun _ _ h => h) (fun _ h => h.elim) (fun _ _ => trivial) ?aB ?aS ?aL ?_; (case aO => exact R_empty w2 w2.heap.size (Nat.le_refl _)); (case aR => exact Kd.C_alloc (Kd.C_below HR0.out HB2.out) _); (case aB => exact below_alloc (Below.refl _ w2) _); (case aS => simp); (case aL => (simp; omega)); intro v3 w3 ho hb hg hat; clear hg hat; have HO3 := Aside0.mk ho; have HB3 := Aside0.mk hb; clear ho hb) | ((with_reducible refine gate_builtin (b := .append) (xs := #[.tmp 21, .tmp 22]) rfl ?_); at_builtin; refine Kd.R_append_rows (Kd.int .u8) (w0 := w2) w2.heap.size rfl (.tmp 21) (.tmp 22) 22 5 (.int .u8 0) 1 rfl Try.underlying22 info5 rfl (by decide) (by omega) _ ([] ++ l0) l1 _ _ _ (fun _ => True) (fun _ => False) rfl rfl ?bO ?bR (fun _ _ h => h) (fun _ h => h.elim) (fun _ _ => trivial) ?bB ?bS ?bL ?_; (case bO => exact HO3.out); (case bR => exact Kd.C_below (Kd.C_below HR1.out HB2.out) HB3.out); (case bB => exact HB3.out); (case bS => exact HB3.out.size); (case bL => (simp; omega)); intro v4 w4 ho hb hg hat; clear hg hat; have HB4 := Aside0.mk hb; have HO4 := Aside0.mk ho; clear ho hb))
  obtain ⟨A4, c4, hv, hc4, hC4⟩ := Kd.R_reads HO4.out
  subst hv
  simp only [List.nil_append] at hC4 hc4 ⊢
  refine (laminaref01_Sum.calls _ _ _ (l0 ++ l1) s _ hC4 hc4 HF1.out).mono ?_
  rintro e w5 ⟨rfl, hd⟩
  have HB5 := Aside0.mk (Below.trans HB4.out (hd.below.mono HB4.out.size))
  clear hd hC4
  have HCg := Aside0.mk (Kp_C (Kd.R_below HK.out HB5.out)).1
  have hcap := (Kp_C HK.out).2
  go_wp2_with fail
  refine (crc_Sum.calls _ _ [l0, l1] s _ (C_row2 (Kd.C_below (Kd.C_below HR0.out HB2.out) HB5.out) hc0 HCg.out (by omega)) (Nat.le_refl _) HS.out).mono ?_
  rintro e w6 ⟨rfl, hb⟩
  have HB6 := Aside0.mk (below_step (below_alloc HB5.out _) hb)
  clear hb
  have e1 : (s == s) = true := beq_self_eq_true s
  go_wp2_with fail
  refine (laminaref01_Sum.calls _ _ _ l0 s0 _ (Kd.C_below (Kd.C_below HR0.out HB2.out) HB6.out) hc0 HF0.out).mono ?_
  rintro e w7 ⟨rfl, hd⟩
  have HB7 := Aside0.mk (Below.trans HB6.out (hd.below.mono HB6.out.size))
  clear hd
  go_wp2_with fail
  refine (crc_Go.calls s0 _ _ l1 s _ (Kp_C (Kd.R_below HK.out HB7.out)).1 (by omega) HG.out).mono ?_
  rintro e w8 ⟨rfl, hb⟩
  have HB8 := Aside0.mk (below_step HB7.out hb)
  clear hb
  go_wp2_with fail
  refine (laminanum_Kept.calls g cap _ _ _ _ l1 _ (Kd.R_below HK.out HB8.out) (Kd.C_below (Kd.C_below HR1.out HB2.out) HB8.out) (by omega)).mono ?_
  rintro e w9 ⟨rfl, hd⟩
  have HB9 := Aside0.mk (below_step HB2.out (Below.trans HB8.out (hd.below.mono HB8.out.size)))
  clear hd
  go_wp2
  go_ret
  exact ⟨rfl, HB9.out⟩

end Go.Proofs.Ytgoipblpoopemaa.Hp
