/- Contracts of functions of the given program, and what they lean on: written by this session's own program hprint.py, which lays hand texts into the kit's printer. -/
import Derived.Test.YtgoipblpoopemaaHp0
import Derived.Test.YtgoipblpoopemaaHpaC
import Derived.Test.YtgoipblpoopemaaHpf12
import Derived.Test.YtgoipblpoopemaaHpacrcm
import Derived.Test.YtgoipblpoopemaaHpf11
import Derived.Test.YtgoipblpoopemaaHpf8
import Derived.Test.YtgoipblpoopemaaHpf3
import Derived.Test.YtgoipblpoopemaaHpf14
import Derived.Test.YtgoipblpoopemaaHpf7
namespace Go.Proofs.Ytgoipblpoopemaa.Hp
open Go.RowKit Go.Proofs.YtgoipblpoopemaaW.PrintWords Go.Proofs.YtgoipblpoopemaaW.PrintLast Go.Proofs.YtgoipblpoopemaaW.PrintMore
attribute [local go_sem] max2_int min2_int max_two min_two max_three min_three max_four min_four   -- for this text's walks alone
set_option linter.unusedVariables false
set_option linter.unusedSimpArgs false

/-! ### laminalaw01_CrcParts: function 6 -/
theorem goI_nil (s : Int) (h0 : 0 ≤ s) (h1 : s < 4294967296) : goI s [] = s := by
  have e := goI_b (BitVec.ofInt 32 s) [] (fun x hx => by cases hx)
  rw [bv_toNat s h0 h1] at e
  rw [e]
  show (((ones ^^^ (ones ^^^ BitVec.ofInt 32 s)).toNat : Nat) : Int) = s
  rw [← BitVec.xor_assoc, BitVec.xor_self, BitVec.zero_xor, bv_toNat s h0 h1]
theorem bytes_flat (ls : List (List Int)) (h : ∀ l ∈ ls, IsBytes l) : IsBytes ls.flatten := by
  intro x hx
  obtain ⟨l, hl, hxl⟩ := List.mem_flatten.1 hx
  exact h l hl x hxl
theorem parts_pure (ls : List (List Int)) : ∀ (s : Int), 0 ≤ s → s < 4294967296 → (∀ l ∈ ls, IsBytes l) → ls.foldl goI s = goI s ls.flatten := by
  induction ls with
  | nil => exact fun s h0 h1 _ => (goI_nil s h0 h1).symm
  | cons l ls ih =>
    intro s h0 h1 h
    have hl := h l (by simp)
    have hls : ∀ m ∈ ls, IsBytes m := fun m hm => h m (by simp [hm])
    obtain ⟨p, q⟩ := goI_bd s l h0 h1 hl
    show ls.foldl goI (goI s l) = _
    rw [ih _ p q hls, List.flatten_cons, goI_app s h0 h1 l _ hl (bytes_flat ls hls)]
theorem flat_take (ls : List (List Int)) (k : Nat) (h : k < ls.length) : (ls.take (k + 1)).flatten = (ls.take k).flatten ++ ls[k] := by
  rw [List.take_succ_eq_append_getElem h, List.flatten_append]; simp
theorem laminalaw01_CrcParts.law (A0 : Option Addr) (c0 : Nat) (l0 : List (List Int)) (w : World) (hr0 : Kd.C (Kd.slice 5 (Kd.int .u8)) w A0 l0.length l0) (hc0 : l0.length ≤ c0) (_hy0 : l0.length * 24 ≤ 140737488351232) (hw0 : ∀ l ∈ l0, l.length * 1 ≤ 140737488351232 ∧ ∀ n ∈ l, (Lit.int .u8 n).wf = true) :
    Calls Try.prog 6 #[.slice A0 l0.length c0] w fun e w' => e = .returned (.bool true) ∧ Below w.heap.size w w' := by
  have HR0 := Aside0.mk hr0
  have HW0 := Aside0.mk (show ∀ l ∈ l0, IsBytes l from fun l hl => wfs_u8 (hw0 l hl).2)
  have hmax := Kd.C_max hr0
  clear hr0 hw0
  go_enter Try.func6, Try.ntmps6
  go_wp2_with (first | (go_at_call 8; refine (laminalaw01_alive.calls _).mono ?_; rintro e w1 ⟨rfl, hb⟩; have HB1 := Aside0.mk hb; clear hb))
  go_loopw [3, 4, 12] (fun v3 v4 v12 wr => ∃ k : Nat, k ≤ l0.length ∧ k ≤ 51 ∧ v12 = .int .i64 k ∧ v4 = .int .u32 (sumI [(l0.take k).flatten]) ∧ Aside0 (Kd.R (Kd.int .u8) 5 wr w.heap.size (fun _ => True) v3 (l0.take k).flatten) ∧ (l0.take k).flatten.length ≤ 1000 * k ∧ Aside0 (Below w.heap.size w wr)) (fun _ _ v12 _ => l0.length - (intOf v12).toNat)
  case atStart => exact ⟨0, by omega, by omega, rfl, congrArg (Value.int .u32) (show (0 : Int) = sumI [[]] by decide), ⟨R_empty w1 w.heap.size HB1.out.size⟩, by simp, ⟨below_alloc HB1.out _⟩⟩
  case round =>
    obtain ⟨k, hk, hk51, rfl, rfl, HX, hfl, HB⟩ := hrel
    by_cases hlt : k < l0.length
    · obtain ⟨ad, A', c', e, hx, hc', hC⟩ := C_elem HR0.out k hlt
      subst e
      replace hx := pw_cell_below HB.out hx
      have hby := HW0.out l0[k] (List.getElem_mem hlt)
      have hF : IsBytes (l0.take k).flatten := bytes_flat _ (fun l hl => HW0.out l (List.mem_of_mem_take hl))
      have HT := Aside0.mk (flat_take l0 k hlt)
      have sb := sumI_bd [(l0.take k).flatten] 0 (by decide) (by decide) (fun l hl => by simp at hl; subst hl; exact hF)
      generalize l0[k] = p at *
      generalize (l0.take k).flatten = F at *
      by_cases h50 : 50 < k
      · go_wp2
        go_ret
        exact ⟨rfl, HB.out⟩
      by_cases h1000 : 1000 < p.length
      · go_wp2
        go_ret
        exact ⟨rfl, HB.out⟩
      have HS := Aside0.mk (show crc_Sum.f [p] = some (sumI [p]) from if_pos (fun l hl => by simp at hl; subst hl; exact hby))
      have HJ := Aside0.mk (show crc_Join.f (sumI [F]) (sumI [p]) p.length = some (sumI [F ++ p]) from by
        rw [← goI_goI F p hF hby, ← join_pure (sumI [F]) sb.1 sb.2 p hby (by omega)]
        exact if_pos ⟨sb.1, sb.2, by omega⟩)
      have HC := Aside0.mk hC
      clear hC hby hF sb
      generalize hsF : sumI [F] = sF at *
      generalize hsp : sumI [p] = sp at *
      clear hsF hsp
      go_wp2_with (first | ((with_reducible refine gate_builtin (b := .append) (xs := #[.tmp 24, .tmp 25]) rfl ?_); at_builtin; refine Kd.R_append_rows (Kd.int .u8) (w0 := w) w.heap.size rfl (.tmp 24) (.tmp 25) 22 5 (.int .u8 0) 1 rfl Try.underlying22 info5 rfl (by decide) (by omega) _ F p _ _ _ (fun _ => True) (fun _ => False) rfl rfl ?aO ?aR (fun _ _ h => h) (fun _ h => h.elim) (fun _ _ => trivial) ?aB ?aS ?aL ?_; (case aO => exact HX.out); (case aR => exact (Kd.C_below HC.out HB.out)); (case aB => exact HB.out); (case aS => exact HB.out.size); (case aL => (simp; omega)); intro v3 w3 ho hb hg hat; clear hg hat; have HX3 := Aside0.mk ho; have HB3 := Aside0.mk hb; clear ho hb))
      refine (crc_Sum.calls _ _ [p] sp _ (C_row1 (Kd.C_below HC.out HB3.out) hc') (Nat.le_refl _) HS.out).mono ?_
      rintro e w4 ⟨rfl, hb⟩
      have HB4 := Aside0.mk (below_step (below_alloc HB3.out _) hb)
      have HX4 := Aside0.mk (Kd.R_below (Kd.R_alloc HX3.out _) hb)
      clear hb
      go_wp2_with fail
      refine (crc_Join.calls sF sp p.length _ _ HJ.out).mono ?_
      rintro e w5 ⟨rfl, hb⟩
      have HB5 := Aside0.mk (below_step HB4.out hb)
      have HX5 := Aside0.mk (Kd.R_below HX4.out hb)
      clear hb
      go_wp2
      refine ⟨⟨k + 1, by omega, by omega, by go_num, ?_, ⟨?_⟩, ?_, HB5⟩, by simp [intOf]; omega⟩
      · rw [HT.out]
      · rw [HT.out]; exact HX5.out
      · rw [HT.out, List.length_append]; omega
    · obtain rfl : k = l0.length := by omega
      rw [List.take_length] at HX
      have hF : IsBytes l0.flatten := bytes_flat _ HW0.out
      have HS0 := Aside0.mk (show crc_Sum.f l0 = some (sumI [l0.flatten]) from by
        rw [show sumI [l0.flatten] = sumI l0 from (parts_pure l0 0 (by decide) (by decide) HW0.out).symm]
        exact if_pos HW0.out)
      have HS1 := Aside0.mk (show crc_Sum.f [l0.flatten] = some (sumI [l0.flatten]) from if_pos (fun l hl => by simp at hl; subst hl; exact hF))
      simp only [List.take_length]
      clear hF hfl
      generalize l0.flatten = F at *
      generalize sumI [F] = s at *
      have e1 : (s == s) = true := beq_self_eq_true s
      obtain ⟨AF, cF, hv, hcF, hCF⟩ := Kd.R_reads HX.out
      subst hv
      have HCF := Aside0.mk hCF
      clear hCF
      go_wp2_with fail
      refine (crc_Sum.calls _ _ l0 s _ (Kd.C_below HR0.out HB.out) hc0 HS0.out).mono ?_
      rintro e w4 ⟨rfl, hb⟩
      have HB4 := Aside0.mk (below_step HB.out hb)
      have HC4 := Aside0.mk (Kd.C_below HCF.out hb)
      clear hb
      go_wp2_with fail
      refine (crc_Sum.calls _ _ [F] s _ (C_row1 HC4.out hcF) (Nat.le_refl _) HS1.out).mono ?_
      rintro e w5 ⟨rfl, hb⟩
      have HB5 := Aside0.mk (below_step (below_alloc HB4.out _) hb)
      have HC5 := Aside0.mk (Kd.C_below (Kd.C_alloc HC4.out _) hb)
      clear hb
      go_wp2_with fail
      refine (crc_Sum.calls _ _ [F] s _ (C_row1 HC5.out hcF) (Nat.le_refl _) HS1.out).mono ?_
      rintro e w6 ⟨rfl, hb⟩
      have HB6 := Aside0.mk (below_step (below_alloc HB5.out _) hb)
      clear hb
      go_wp2
      go_ret
      exact ⟨rfl, HB6.out⟩

end Go.Proofs.Ytgoipblpoopemaa.Hp
