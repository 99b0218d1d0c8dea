/- Contracts of functions of the given program, and what they lean on: written by this session's own program hprint.py, which lays hand texts into the kit's printer. -/
import Derived.Test.YtgoipblpoopemaaHp0
import Derived.Test.YtgoipblpoopemaaHpaC
import Derived.Test.YtgoipblpoopemaaHpf12
import Derived.Test.YtgoipblpoopemaaHpacrcm
import Derived.Test.YtgoipblpoopemaaHpf11
import Derived.Test.YtgoipblpoopemaaHpacrcn
import Derived.Test.YtgoipblpoopemaaHpf8
import Derived.Test.YtgoipblpoopemaaHpf14
namespace Go.Proofs.Ytgoipblpoopemaa.Hp
open Go.RowKit Go.Proofs.YtgoipblpoopemaaW.PrintWords Go.Proofs.YtgoipblpoopemaaW.PrintLast Go.Proofs.YtgoipblpoopemaaW.PrintMore
attribute [local go_sem] max2_int min2_int max_two min_two max_three min_three max_four min_four   -- for this text's walks alone
set_option linter.unusedVariables false
set_option linter.unusedSimpArgs false

/-! ### laminalaw01_CrcGoes: function 7 -/
theorem regB_zeros (n : Nat) : ∀ x : BitVec 32, regB x (List.replicate n 0#32) = stepsB (8 * n) x := by
  induction n with
  | zero => exact fun x => rfl
  | succ n ih =>
    intro x
    show regB (stepsB 8 (x ^^^ 0#32)) (List.replicate n 0#32) = _
    rw [ih, BitVec.xor_zero, ← stepsB_add]
    congr 1
theorem zip_zeros (l : List (BitVec 32)) : l.zipWith (· ^^^ ·) (List.replicate l.length 0#32) = l := by
  induction l with
  | nil => rfl
  | cons c l ih => simp [List.replicate_succ, ih]
theorem join_pure (s : Int) (h0 : 0 ≤ s) (h1 : s < 4294967296) (a : List Int) (ha : IsBytes a) (hl : a.length ≤ 1000000) : joinI s (sumI [a]) a.length = goI s a := by
  have e := goI_b (BitVec.ofInt 32 s) a ha
  rw [bv_toNat s h0 h1] at e
  rw [e, sum1_b a ha]
  unfold joinI
  rw [xor_b]
  congr 2
  have z := regB_xor (bvs a) (List.replicate (bvs a).length 0#32) ones (BitVec.ofInt 32 s) (by simp)
  rw [zip_zeros, regB_zeros, show (bvs a).length = a.length by simp [bvs]] at z
  rw [z, show (max (a.length : Int) 0).toNat = a.length by omega]
  generalize regB ones (bvs a) = x
  generalize stepsB (8 * a.length) (BitVec.ofInt 32 s) = y
  rw [BitVec.xor_comm y, BitVec.xor_assoc]
theorem goI_app (s : Int) (h0 : 0 ≤ s) (h1 : s < 4294967296) (a b : List Int) (ha : IsBytes a) (hb : IsBytes b) : goI (goI s a) b = goI s (a ++ b) := by
  have hab : IsBytes (a ++ b) := fun x hx => by
    rcases List.mem_append.1 hx with h | h
    · exact ha x h
    · exact hb x h
  have e := goI_b (BitVec.ofInt 32 s) a ha
  have e2 := goI_b (BitVec.ofInt 32 s) (a ++ b) hab
  rw [bv_toNat s h0 h1] at e e2
  rw [e, e2, goI_b _ b hb, ← BitVec.xor_assoc, BitVec.xor_self, BitVec.zero_xor, show bvs (a ++ b) = bvs a ++ bvs b by simp [bvs], regB_append]
theorem laminalaw01_CrcGoes.law (a0 : Int) (A1 : Option Addr) (c1 : Nat) (l1 : List Int) (A2 : Option Addr) (c2 : Nat) (l2 : List Int) (w : World) (hw0 : (Lit.int .u32 a0).wf = true) (hr1 : Kd.C (Kd.int .u8) w A1 l1.length l1) (hc1 : l1.length ≤ c1) (_hy1 : l1.length * 1 ≤ 140737488351232) (hw1 : ∀ n ∈ l1, (Lit.int .u8 n).wf = true)
    (hr2 : Kd.C (Kd.int .u8) w A2 l2.length l2) (hc2 : l2.length ≤ c2) (_hy2 : l2.length * 1 ≤ 140737488351232) (hw2 : ∀ n ∈ l2, (Lit.int .u8 n).wf = true) :
    Calls Try.prog 7 #[.int .u32 a0, .slice A1 l1.length c1, .slice A2 l2.length c2] w fun e w' => e = .returned (.bool true) ∧ Below w.heap.size w w' := by
  have HR1 := Aside0.mk hr1
  have HR2 := Aside0.mk hr2
  have HW1 := Aside0.mk (wfs_u8 hw1)
  have HW2 := Aside0.mk (wfs_u8 hw2)
  obtain ⟨b0, b1⟩ := wf_u32 hw0
  clear hr1 hr2 hw1 hw2 hw0
  by_cases h4 : 3000 < l1.length
  · go_enter Try.func7, Try.ntmps7
    go_wp2_with (go_at_call 8; refine (laminalaw01_alive.calls _).mono ?_; rintro e w' ⟨rfl, hb⟩; have HB := Aside0.mk hb; clear hb)
    go_ret
    exact ⟨rfl, HB.out⟩
  by_cases h5 : 3000 < l2.length
  · go_enter Try.func7, Try.ntmps7
    go_wp2_with (go_at_call 8; refine (laminalaw01_alive.calls _).mono ?_; rintro e w' ⟨rfl, hb⟩; have HB := Aside0.mk hb; clear hb)
    go_ret
    exact ⟨rfl, HB.out⟩
  have hab : IsBytes (l1 ++ l2) := fun x hx => by
    rcases List.mem_append.1 hx with h | h
    · exact HW1.out x h
    · exact HW2.out x h
  have gb := goI_bd a0 l1 b0 b1 HW1.out
  have sb := sumI_bd [l1] 0 (by decide) (by decide) (fun l hl => by simp at hl; subst hl; exact HW1.out)
  have HG1 := Aside0.mk (show crc_Go.f a0 l1 = some (goI a0 l1) from if_pos ⟨b0, b1, HW1.out⟩)
  have HG2 := Aside0.mk (show crc_Go.f (goI a0 l1) l2 = some (goI a0 (l1 ++ l2)) from by rw [← goI_app a0 b0 b1 l1 l2 HW1.out HW2.out]; exact if_pos ⟨gb.1, gb.2, HW2.out⟩)
  have HG3 := Aside0.mk (show crc_Go.f a0 (l1 ++ l2) = some (goI a0 (l1 ++ l2)) from if_pos ⟨b0, b1, hab⟩)
  have HS := Aside0.mk (show crc_Sum.f [l1] = some (sumI [l1]) from if_pos (fun l hl => by simp at hl; subst hl; exact HW1.out))
  have HJ := Aside0.mk (show crc_Join.f a0 (sumI [l1]) l1.length = some (goI a0 l1) from by rw [← join_pure a0 b0 b1 l1 HW1.out (by omega)]; exact if_pos ⟨b0, b1, by omega⟩)
  clear gb sb hab
  generalize goI a0 (l1 ++ l2) = g12 at *
  generalize goI a0 l1 = g1 at *
  generalize sumI [l1] = s1 at *
  have e1 : (g12 == g12) = true := beq_self_eq_true _
  have e2 : (g1 == g1) = true := beq_self_eq_true _
  go_enter Try.func7, Try.ntmps7
  go_wp2_with (first | (go_at_call 8; refine (laminalaw01_alive.calls _).mono ?_; rintro e w1 ⟨rfl, hb⟩; have HB1 := Aside0.mk hb; clear hb) | ((with_reducible refine gate_builtin (b := .append) (xs := #[.tmp 18, .tmp 19]) rfl ?_); at_builtin; refine Kd.R_append_rows (Kd.int .u8) (w0 := w1) w1.heap.size rfl (.tmp 18) (.tmp 19) 22 5 (.int .u8 0) 1 rfl Try.underlying22 info5 rfl (by decide) (by omega) _ [] l1 _ _ _ (fun _ => True) (fun _ => False) rfl rfl ?aO ?aR (fun _ _ h => h) (fun _ h => h.elim) (fun _ _ => trivial) ?aB ?aS ?aL ?_; (case aO => exact R_empty w1 w1.heap.size (Nat.le_refl _)); (case aR => exact Kd.C_alloc (Kd.C_below HR1.out HB1.out) _); (case aB => exact below_alloc (Below.refl _ w1) _); (case aS => simp); (case aL => (simp; omega)); intro v3 w3 ho hb hg hat; clear hg hat; have HO3 := Aside0.mk ho; have HB3 := Aside0.mk hb; clear ho hb) | ((with_reducible refine gate_builtin (b := .append) (xs := #[.tmp 20, .tmp 21]) rfl ?_); at_builtin; refine Kd.R_append_rows (Kd.int .u8) (w0 := w1) w1.heap.size rfl (.tmp 20) (.tmp 21) 22 5 (.int .u8 0) 1 rfl Try.underlying22 info5 rfl (by decide) (by omega) _ ([] ++ l1) l2 _ _ _ (fun _ => True) (fun _ => False) rfl rfl ?bO ?bR (fun _ _ h => h) (fun _ h => h.elim) (fun _ _ => trivial) ?bB ?bS ?bL ?_; (case bO => exact HO3.out); (case bR => exact Kd.C_below (Kd.C_below HR2.out HB1.out) HB3.out); (case bB => exact HB3.out); (case bS => exact HB3.out.size); (case bL => (simp; omega)); intro v4 w4 ho hb hg hat; clear hg hat; have HB4 := Aside0.mk (below_step HB1.out hb); have HO4 := Aside0.mk ho; clear ho hb))
  obtain ⟨A4, c4, hv, hc4, hC4⟩ := Kd.R_reads HO4.out
  subst hv
  simp only [List.nil_append] at hC4 hc4 HO4 ⊢
  generalize l1 ++ l2 = L at *
  have HC4 := Aside0.mk hC4
  clear hC4
  refine (crc_Go.calls a0 _ _ l1 g1 _ (Kd.C_below HR1.out HB4.out) hc1 HG1.out).mono ?_
  rintro e w5 ⟨rfl, hb⟩
  have HB5 := Aside0.mk (below_step HB4.out hb)
  have HC5 := Aside0.mk (Kd.C_below HC4.out hb)
  clear hb
  go_wp2_with fail
  refine (crc_Go.calls g1 _ _ l2 g12 _ (Kd.C_below HR2.out HB5.out) hc2 HG2.out).mono ?_
  rintro e w6 ⟨rfl, hb⟩
  have HB6 := Aside0.mk (below_step HB5.out hb)
  have HC6 := Aside0.mk (Kd.C_below HC5.out hb)
  clear hb
  go_wp2_with fail
  refine (crc_Go.calls a0 _ _ L g12 _ HC6.out hc4 HG3.out).mono ?_
  rintro e w7 ⟨rfl, hb⟩
  have HB7 := Aside0.mk (below_step HB6.out hb)
  clear hb
  go_wp2_with fail
  refine (crc_Sum.calls _ _ [l1] s1 _ (C_row1 (Kd.C_below HR1.out HB7.out) hc1) (Nat.le_refl _) HS.out).mono ?_
  rintro e w8 ⟨rfl, hb⟩
  have HB8 := Aside0.mk (below_step (below_alloc HB7.out _) hb)
  clear hb
  go_wp2_with fail
  refine (crc_Join.calls a0 s1 l1.length g1 _ HJ.out).mono ?_
  rintro e w9 ⟨rfl, hb⟩
  have HB9 := Aside0.mk (below_step HB8.out hb)
  clear hb
  go_wp2_with fail
  refine (crc_Go.calls a0 _ _ l1 g1 _ (Kd.C_below HR1.out HB9.out) hc1 HG1.out).mono ?_
  rintro e w10 ⟨rfl, hb⟩
  have HB10 := Aside0.mk (below_step HB9.out hb)
  clear hb
  go_wp2
  go_ret
  exact ⟨rfl, HB10.out⟩

end Go.Proofs.Ytgoipblpoopemaa.Hp
