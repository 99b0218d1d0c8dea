/- Contracts of functions of the given program, and what they lean on: written by this session's own program hprint.py, which lays hand texts into the kit's printer. -/
import Derived.Test.YtgoipblpoopemaaHp0
import Derived.Test.YtgoipblpoopemaaHpaC
import Derived.Test.YtgoipblpoopemaaHpacrcm
import Derived.Test.YtgoipblpoopemaaHpf11
import Derived.Test.YtgoipblpoopemaaHpacrcn
import Derived.Test.YtgoipblpoopemaaHpf8
namespace Go.Proofs.Ytgoipblpoopemaa.Hp
open Go.RowKit Go.Proofs.YtgoipblpoopemaaW.PrintWords Go.Proofs.YtgoipblpoopemaaW.PrintLast Go.Proofs.YtgoipblpoopemaaW.PrintMore
attribute [local go_sem] max2_int min2_int max_two min_two max_three min_three max_four min_four   -- for this text's walks alone
set_option linter.unusedVariables false
set_option linter.unusedSimpArgs false

/-! ### laminalaw01_CrcFinds: function 4 -/
def xorAt (l : List Int) (K b : Int) : Nat → List Int
  | 0 => l
  | m + 1 => (xorAt l K b m).set (K + m).toNat (bits .xor .u8 (rdOf 0 (xorAt l K b m) (K + m)) (b / 2 ^ (8 * m) % 256))
theorem xorAt_length (l : List Int) (K b : Int) (m : Nat) : (xorAt l K b m).length = l.length := by
  induction m with
  | zero => rfl
  | succ m ih => simp [xorAt, ih]
theorem cut4 (l : List Int) (k : Nat) (h : k + 4 ≤ l.length) : l = l.take k ++ ([rd l k, rd l (k + 1 : Nat), rd l (k + 2 : Nat), rd l (k + 3 : Nat)] ++ l.drop (k + 4)) := by
  have e : ∀ j : Nat, j < l.length → rd l j = l[j]! := by
    intro j hj
    simp [rd, hj]
  have d : ∀ j : Nat, j < l.length → l.drop j = rd l j :: l.drop (j + 1) := by
    intro j hj
    rw [List.drop_eq_getElem_cons hj]
    simp [rd, hj]
  conv => lhs; rw [← List.take_append_drop k l, d k (by omega), d (k + 1) (by omega), d (k + 2) (by omega), d (k + 3) (by omega)]
  rfl
theorem rdOf_app (p q : List Int) (m : Nat) : rdOf 0 (p ++ q) ((p.length : Int) + (m : Int)) = q.getD m 0 := by
  unfold rdOf
  rw [show ((p.length : Int) + (m : Int)).toNat = p.length + m by omega]
  simp [List.getD_eq_getElem?_getD, List.getElem?_append_right]
theorem set_app (p q : List Int) (m : Nat) (v : Int) : (p ++ q).set ((p.length : Int) + (m : Int)).toNat v = p ++ q.set m v := by
  rw [show ((p.length : Int) + (m : Int)).toNat = p.length + m by omega, List.set_append_right _ _ (by omega)]
  simp
theorem xorAt_app (p s : List Int) (b x0 x1 x2 x3 : Int) : xorAt (p ++ x0 :: x1 :: x2 :: x3 :: s) (p.length : Int) b 4 =
    p ++ ([bits .xor .u8 x0 (b / 2 ^ (8 * 0) % 256), bits .xor .u8 x1 (b / 2 ^ (8 * 1) % 256), bits .xor .u8 x2 (b / 2 ^ (8 * 2) % 256), bits .xor .u8 x3 (b / 2 ^ (8 * 3) % 256)] ++ s) := by
  simp only [xorAt]
  rw [rdOf_app, set_app, rdOf_app, set_app, rdOf_app, set_app, rdOf_app, set_app]
  rfl
theorem finds_pure (l : List Int) (K b : Int) (hl : IsBytes l) (h0 : 0 ≤ K) (h1 : K < (l.length : Int) - 3) (hb0 : 0 ≤ b) (hb1 : b < 4294967296) (hb : b ≠ 0) :
    IsBytes (xorAt l K b 4) ∧ sumI [xorAt l K b 4] ≠ sumI [l] := by
  obtain ⟨k, rfl⟩ := Int.eq_ofNat_of_zero_le h0
  have hk : k + 4 ≤ l.length := by omega
  have e := cut4 l k hk
  have hp : (l.take k).length = k := by simp; omega
  generalize l.take k = p at e hp
  generalize l.drop (k + 4) = s at e
  generalize rd l (k : Nat) = x0 at e
  generalize rd l (k + 1 : Nat) = x1 at e
  generalize rd l (k + 2 : Nat) = x2 at e
  generalize rd l (k + 3 : Nat) = x3 at e
  subst hp
  have e' : l = p ++ x0 :: x1 :: x2 :: x3 :: s := e
  clear e hk
  subst e'
  have bx0 := hl x0 (by simp)
  have bx1 := hl x1 (by simp)
  have bx2 := hl x2 (by simp)
  have bx3 := hl x3 (by simp)
  have c0 : 0 ≤ b / 2 ^ (8 * 0) % 256 ∧ b / 2 ^ (8 * 0) % 256 < 256 := ⟨Int.emod_nonneg _ (by decide), Int.emod_lt_of_pos _ (by decide)⟩
  have c1 : 0 ≤ b / 2 ^ (8 * 1) % 256 ∧ b / 2 ^ (8 * 1) % 256 < 256 := ⟨Int.emod_nonneg _ (by decide), Int.emod_lt_of_pos _ (by decide)⟩
  have c2 : 0 ≤ b / 2 ^ (8 * 2) % 256 ∧ b / 2 ^ (8 * 2) % 256 < 256 := ⟨Int.emod_nonneg _ (by decide), Int.emod_lt_of_pos _ (by decide)⟩
  have c3 : 0 ≤ b / 2 ^ (8 * 3) % 256 ∧ b / 2 ^ (8 * 3) % 256 < 256 := ⟨Int.emod_nonneg _ (by decide), Int.emod_lt_of_pos _ (by decide)⟩
  have f4 := four_b b hb0 hb1
  rw [xorAt_app]
  generalize b / 2 ^ (8 * 0) % 256 = y0 at *
  generalize b / 2 ^ (8 * 1) % 256 = y1 at *
  generalize b / 2 ^ (8 * 2) % 256 = y2 at *
  generalize b / 2 ^ (8 * 3) % 256 = y3 at *
  have hX : IsBytes (p ++ ([bits .xor .u8 x0 y0, bits .xor .u8 x1 y1, bits .xor .u8 x2 y2, bits .xor .u8 x3 y3] ++ s)) := by
    intro x hx
    simp only [List.mem_append, List.mem_cons, List.not_mem_nil, or_false] at hx
    rcases hx with hx | (rfl | rfl | rfl | rfl) | hx
    · exact hl x (by simp [hx])
    · exact u8_xor_bd _ _ bx0.1 bx0.2 c0.1 c0.2
    · exact u8_xor_bd _ _ bx1.1 bx1.2 c1.1 c1.2
    · exact u8_xor_bd _ _ bx2.1 bx2.2 c2.1 c2.2
    · exact u8_xor_bd _ _ bx3.1 bx3.2 c3.1 c3.2
    · exact hl x (by simp [hx])
  refine ⟨hX, fun hs => ?_⟩
  rw [sum1_b _ hX, sum1_b _ hl] at hs
  have h := xor_cancel _ _ _ (bv_inj _ _ hs)
  simp only [bvs, List.map_append, List.map_cons, List.map_nil] at h
  rw [regB_append, regB_append, regB_append] at h
  have e2 : List.map (BitVec.ofInt 32) p = bvs p := rfl
  rw [u8_xor_bv _ _ bx0.1 bx0.2 c0.1 c0.2, u8_xor_bv _ _ bx1.1 bx1.2 c1.1 c1.2, u8_xor_bv _ _ bx2.1 bx2.2 c2.1 c2.2, u8_xor_bv _ _ bx3.1 bx3.2 c3.1 c3.2] at h
  rw [show (BitVec.ofInt 32 x0 :: BitVec.ofInt 32 x1 :: BitVec.ofInt 32 x2 :: BitVec.ofInt 32 x3 :: List.map (BitVec.ofInt 32) s : List (BitVec 32)) = [BitVec.ofInt 32 x0, BitVec.ofInt 32 x1, BitVec.ofInt 32 x2, BitVec.ofInt 32 x3] ++ List.map (BitVec.ofInt 32) s from rfl, regB_append] at h
  have h := regB_inj _ _ _ h
  generalize regB ones (List.map (BitVec.ofInt 32) p) = r at h
  have hz := regB_xor [BitVec.ofInt 32 x0, BitVec.ofInt 32 x1, BitVec.ofInt 32 x2, BitVec.ofInt 32 x3] [BitVec.ofInt 32 y0, BitVec.ofInt 32 y1, BitVec.ofInt 32 y2, BitVec.ofInt 32 y3] r 0#32 rfl
  rw [BitVec.xor_zero, f4] at hz
  rw [show (List.zipWith (fun x1 x2 => x1 ^^^ x2) [BitVec.ofInt 32 x0, BitVec.ofInt 32 x1, BitVec.ofInt 32 x2, BitVec.ofInt 32 x3] [BitVec.ofInt 32 y0, BitVec.ofInt 32 y1, BitVec.ofInt 32 y2, BitVec.ofInt 32 y3]) = [BitVec.ofInt 32 x0 ^^^ BitVec.ofInt 32 y0, BitVec.ofInt 32 x1 ^^^ BitVec.ofInt 32 y1, BitVec.ofInt 32 x2 ^^^ BitVec.ofInt 32 y2, BitVec.ofInt 32 x3 ^^^ BitVec.ofInt 32 y3] from rfl] at hz
  rw [hz] at h
  have h2 : regB r [BitVec.ofInt 32 x0, BitVec.ofInt 32 x1, BitVec.ofInt 32 x2, BitVec.ofInt 32 x3] ^^^ stepsB 32 (BitVec.ofInt 32 b) = regB r [BitVec.ofInt 32 x0, BitVec.ofInt 32 x1, BitVec.ofInt 32 x2, BitVec.ofInt 32 x3] ^^^ 0#32 := by rw [h, BitVec.xor_zero]
  have h3 := stepsB_eq_zero _ _ (xor_cancel _ _ _ h2)
  have h4 := bv_toNat b hb0 hb1
  rw [h3] at h4
  exact hb h4.symm
theorem index_of (a : Int) (n : Nat) (h : 4 ≤ n) (h1 : n ≤ 5000) : 0 ≤ wrap64 ((IntKind.u64.wrap a).tmod ((n : Int) - 3)) ∧ wrap64 ((IntKind.u64.wrap a).tmod ((n : Int) - 3)) < (n : Int) - 3 := by
  have e : 0 ≤ IntKind.u64.wrap a := by simp [IntKind.wrap, IntKind.bits, IntKind.signed]; omega
  rw [Int.tmod_eq_emod_of_nonneg e]
  have h2 := Int.emod_nonneg (IntKind.u64.wrap a) (b := (n : Int) - 3) (by omega)
  have h3 := Int.emod_lt_of_pos (IntKind.u64.wrap a) (b := (n : Int) - 3) (by omega)
  generalize IntKind.u64.wrap a % ((n : Int) - 3) = z at *
  unfold wrap64
  omega
theorem laminalaw01_CrcFinds.law (A0 : Option Addr) (c0 : Nat) (l0 : List Int) (a1 a2 : Int) (w : World) (hr0 : Kd.C (Kd.int .u8) w A0 l0.length l0) (hc0 : l0.length ≤ c0) (_hy0 : l0.length * 1 ≤ 140737488351232) (hw0 : ∀ n ∈ l0, (Lit.int .u8 n).wf = true) (hw1 : (Lit.int .i64 a1).wf = true) (hw2 : (Lit.int .u32 a2).wf = true) :
    Calls Try.prog 4 #[.slice A0 l0.length c0, .int .i64 a1, .int .u32 a2] w fun e w' => e = .returned (.bool true) ∧ Below w.heap.size w w' := by
  have HR := Aside0.mk hr0
  have HW := Aside0.mk (wfs_u8 hw0)
  obtain ⟨b1, b1'⟩ := wf_i64 hw1
  obtain ⟨b2, b2'⟩ := wf_u32 hw2
  clear hw1 hw2 hr0 hw0
  by_cases h4 : l0.length < 4
  · go_enter Try.func4, Try.ntmps4
    go_wp2_with (go_at_call 8; refine (laminalaw01_alive.calls _).mono ?_; rintro e w' ⟨rfl, hb⟩; have HB := Aside0.mk hb; clear hb)
    go_ret
    exact ⟨rfl, HB.out⟩
  by_cases h5 : 5000 < l0.length
  · go_enter Try.func4, Try.ntmps4
    go_wp2_with (go_at_call 8; refine (laminalaw01_alive.calls _).mono ?_; rintro e w' ⟨rfl, hb⟩; have HB := Aside0.mk hb; clear hb)
    go_ret
    exact ⟨rfl, HB.out⟩
  by_cases h0 : a2 = 0
  · subst h0
    go_enter Try.func4, Try.ntmps4
    go_wp2_with (go_at_call 8; refine (laminalaw01_alive.calls _).mono ?_; rintro e w' ⟨rfl, hb⟩; have HB := Aside0.mk hb; clear hb)
    go_ret
    exact ⟨rfl, HB.out⟩
  have h0' : (a2 == 0) = false := beq_eq_false_iff_ne.2 h0
  have hk := index_of a1 l0.length (by omega) (by omega)
  generalize hK : wrap64 ((IntKind.u64.wrap a1).tmod ((l0.length : Int) - 3)) = K at hk
  obtain ⟨hk0, hk1⟩ := hk
  go_enter Try.func4, Try.ntmps4
  go_wp2_with (first | (go_at_call 8; refine (laminalaw01_alive.calls _).mono ?_; rintro e w1 ⟨rfl, hb⟩; have HB := Aside0.mk hb; clear hb) | ((with_reducible refine gate_builtin (b := .append) (xs := #[.tmp 32, .tmp 33]) rfl ?_); at_builtin; refine Kd.R_append_rows (Kd.int .u8) (w0 := w) w.heap.size rfl (.tmp 32) (.tmp 33) 22 5 (.int .u8 0) 1 rfl Try.underlying22 info5 rfl (by decide) (by omega) _ [] l0 _ _ _ (fun _ => True) (fun _ => False) rfl rfl ?aO ?aR (fun _ _ h => h) (fun _ h => h.elim) (fun _ _ => trivial) ?aB ?aS ?aL ?_; (case aO => exact R_empty w1 w.heap.size HB.out.size); (case aR => exact Kd.C_alloc (Kd.C_below HR.out HB.out) _); (case aB => exact below_alloc HB.out _); (case aS => (have := HB.out.size; simp; omega)); (case aL => (simp; omega)); intro v2 w2 ho hb hg hat; clear hg hat; have HB2 := Aside0.mk hb; clear hb; obtain ⟨g, cap, hv, hgb, hgl, -⟩ := Kd.R_form ho (by simp; omega); subst hv; have HO := Aside0.mk ho; clear ho))
  clear hK
  rw [show ([] ++ l0 : List Int) = l0 from rfl] at HO
  go_loopw [35] (fun v35 wr => ∃ m : Nat, m ≤ 4 ∧ v35 = .int .i64 m ∧ Aside0 (Kd.R (Kd.int .u8) 5 wr w.heap.size (fun _ => True) (.slice (some ⟨g, 0, none⟩) l0.length cap) (xorAt l0 K a2 m)) ∧ Aside0 (Below w.heap.size w wr)) (fun v35 _ => 4 - (intOf v35).toNat)
  case atStart => exact ⟨0, by omega, rfl, HO, HB2⟩
  case round =>
    obtain ⟨m, hm, rfl, HX, HB3⟩ := hrel
    by_cases hlt : m < 4
    · obtain ⟨hx0, hx1⟩ := Kd.R_celln (enc := Value.int .u8) (h1 := fun _ => rfl) 0 HX.out (K + m) (by omega) (by omega)
      go_wp2
      exact ⟨⟨m + 1, by omega, by go_num, ⟨Kd.R_putn HX.out (K + m) _⟩, ⟨HB3.out.setCell hgb _⟩⟩, by simp [intOf]; omega⟩
    · obtain rfl : m = 4 := by omega
      obtain ⟨p1, p2⟩ := finds_pure l0 K a2 HW.out hk0 hk1 b2 b2' h0
      have hC := (Kd.R_reads' HX.out).2.2
      have hcap := (Kd.R_reads' HX.out).2.1
      rw [xorAt_length] at hC
      have HC := Aside0.mk hC
      have HS1 := Aside0.mk (show crc_Sum.f [xorAt l0 K a2 4] = some (sumI [xorAt l0 K a2 4]) from if_pos (fun l hl => by simp at hl; subst hl; exact p1))
      have HS2 := Aside0.mk (show crc_Sum.f [l0] = some (sumI [l0]) from if_pos (fun l hl => by simp at hl; subst hl; exact HW.out))
      clear hC p1
      generalize sumI [xorAt l0 K a2 4] = s1 at *
      generalize sumI [l0] = s2 at *
      have p3 : (s1 != s2) = true := bne_iff_ne.2 p2
      generalize xorAt l0 K a2 4 = X at *
      go_wp2_with fail
      refine (crc_Sum.calls _ _ [X] s1 _ (C_row1 HC.out hcap) (Nat.le_refl _) HS1.out).mono ?_
      rintro e w3 ⟨rfl, hb⟩
      have HB4 := Aside0.mk (below_step (below_alloc HB3.out _) hb)
      clear hb
      go_wp2_with fail
      refine (crc_Sum.calls _ _ [l0] s2 _ (C_row1 (Kd.C_below HR.out HB4.out) hc0) (Nat.le_refl _) HS2.out).mono ?_
      rintro e w4 ⟨rfl, hb⟩
      have HB5 := Aside0.mk (below_step (below_alloc HB4.out _) hb)
      clear hb
      go_wp2
      go_ret
      exact ⟨rfl, HB5.out⟩

end Go.Proofs.Ytgoipblpoopemaa.Hp
