/- Contracts of functions of the given program, and what they lean on: written by this session's own program hprint.py, which lays hand texts into the kit's printer. -/
import Derived.Test.YtgoipblpoopemaaHp0
import Derived.Test.YtgoipblpoopemaaHpaC
import Derived.Test.YtgoipblpoopemaaHpacrcm
import Derived.Test.YtgoipblpoopemaaHpf11
import Derived.Test.YtgoipblpoopemaaHpacrcn
import Derived.Test.YtgoipblpoopemaaHpf8
namespace Go.Proofs.Ytgoipblpoopemaa.Hp
open Go.RowKit Go.Proofs.YtgoipblpoopemaaW.PrintWords Go.Proofs.YtgoipblpoopemaaW.PrintLast Go.Proofs.YtgoipblpoopemaaW.PrintMore
attribute [local go_sem] max2_int min2_int max_two min_two max_three min_three max_four min_four   -- for this text's walks alone
set_option linter.unusedVariables false
set_option linter.unusedSimpArgs false

/-! ### laminalaw01_CrcLinear: function 5 -/
def xor3 (a b c : List Int) : Nat → List Int
  | 0 => []
  | k + 1 => xor3 a b c k ++ [bits .xor .u8 (bits .xor .u8 (rd a k) (rd b k)) (rd c k)]
theorem xor3_length (a b c : List Int) (k : Nat) : (xor3 a b c k).length = k := by
  induction k with
  | zero => rfl
  | succ k ih => simp [xor3, ih]
theorem xor3_get (a b c : List Int) (n i : Nat) (h : i < n) : (xor3 a b c n)[i]? = some (bits .xor .u8 (bits .xor .u8 (rd a i) (rd b i)) (rd c i)) := by
  induction n with
  | zero => omega
  | succ n ih =>
    show (xor3 a b c n ++ [_])[i]? = _
    rcases Nat.lt_or_ge i n with hi | hi
    · rw [List.getElem?_append_left (by rw [xor3_length]; exact hi)]; exact ih hi
    · obtain rfl : i = n := by omega
      rw [List.getElem?_append_right (by rw [xor3_length]; exact Nat.le_refl _), xor3_length]
      simp
theorem rd_mem (l : List Int) (i : Nat) (h : i < l.length) : rd l i ∈ l := by
  have : rd l i = l[i] := by simp [rd, h]
  rw [this]; exact List.getElem_mem h
theorem bvs_get (l : List Int) (i : Nat) (h : i < l.length) : (bvs l)[i]? = some (BitVec.ofInt 32 (rd l i)) := by
  simp [bvs, rd, h]
theorem linear_pure (a b c : List Int) (ha : IsBytes a) (hb : IsBytes b) (hc : IsBytes c) (h1 : a.length ≤ b.length) (h2 : a.length ≤ c.length) :
    IsBytes (xor3 a b c a.length) ∧ sumI [xor3 a b c a.length] = bits .xor .u32 (bits .xor .u32 (sumI [a]) (sumI [b.take a.length])) (sumI [c.take a.length]) := by
  have pb : IsBytes (b.take a.length) := fun x hx => hb x (List.mem_of_mem_take hx)
  have pc : IsBytes (c.take a.length) := fun x hx => hc x (List.mem_of_mem_take hx)
  have hx : ∀ i, i < a.length → (0 ≤ bits .xor .u8 (rd a i) (rd b i) ∧ bits .xor .u8 (rd a i) (rd b i) < 256) ∧ (0 ≤ rd a i ∧ rd a i < 256) ∧ (0 ≤ rd b i ∧ rd b i < 256) ∧ (0 ≤ rd c i ∧ rd c i < 256) := by
    intro i hi
    have p := ha _ (rd_mem a i hi)
    have q := hb _ (rd_mem b i (by omega))
    have r := hc _ (rd_mem c i (by omega))
    exact ⟨u8_xor_bd _ _ p.1 p.2 q.1 q.2, p, q, r⟩
  have pX : IsBytes (xor3 a b c a.length) := by
    intro x hxm
    obtain ⟨i, hi⟩ := List.mem_iff_getElem?.1 hxm
    have hil : i < a.length := by
      have := (List.getElem?_eq_some_iff.1 hi).1
      rwa [xor3_length] at this
    rw [xor3_get a b c _ i hil] at hi
    cases hi
    obtain ⟨s, p, q, r⟩ := hx i hil
    exact u8_xor_bd _ _ s.1 s.2 r.1 r.2
  refine ⟨pX, ?_⟩
  rw [sum1_b _ pX, sum1_b _ ha, sum1_b _ pb, sum1_b _ pc, xor_b, xor_b]
  congr 2
  have e : bvs (xor3 a b c a.length) = List.zipWith (· ^^^ ·) (List.zipWith (· ^^^ ·) (bvs a) (bvs (b.take a.length))) (bvs (c.take a.length)) := by
    apply List.ext_getElem?
    intro i
    rcases Nat.lt_or_ge i a.length with hi | hi
    · rw [bvs_get _ i (by rw [xor3_length]; exact hi), List.getElem?_zipWith, List.getElem?_zipWith, bvs_get a i hi, bvs_get _ i (by rw [List.length_take]; omega), bvs_get _ i (by rw [List.length_take]; omega)]
      have t1 : rd (b.take a.length) i = rd b i := by simp [rd, List.getD_eq_getElem?_getD, hi]
      have t2 : rd (c.take a.length) i = rd c i := by simp [rd, List.getD_eq_getElem?_getD, hi]
      have t3 : rd (xor3 a b c a.length) i = bits .xor .u8 (bits .xor .u8 (rd a i) (rd b i)) (rd c i) := by
        have := xor3_get a b c a.length i hi
        simp [rd, List.getD_eq_getElem?_getD] at this ⊢
        rw [this]; rfl
      obtain ⟨s, p, q, r⟩ := hx i hi
      rw [t1, t2, t3, u8_xor_bv _ _ s.1 s.2 r.1 r.2, u8_xor_bv _ _ p.1 p.2 q.1 q.2]
    · rw [List.getElem?_eq_none (by simp [bvs, xor3_length]; exact hi), List.getElem?_eq_none (by simp [bvs]; omega)]
  rw [e]
  have q1 := regB_xor (bvs a) (bvs (b.take a.length)) ones ones (by simp [bvs]; omega)
  have q2 := regB_xor (List.zipWith (· ^^^ ·) (bvs a) (bvs (b.take a.length))) (bvs (c.take a.length)) (ones ^^^ ones) ones (by simp [bvs]; omega)
  rw [q1, BitVec.xor_self, BitVec.zero_xor] at q2
  rw [q2]
  generalize regB ones (bvs a) = x
  generalize regB ones (bvs (b.take a.length)) = y
  generalize regB ones (bvs (c.take a.length)) = z
  apply BitVec.eq_of_getLsbD_eq
  intro i _
  simp only [BitVec.getLsbD_xor]
  cases ones.getLsbD i <;> cases x.getLsbD i <;> cases y.getLsbD i <;> cases z.getLsbD i <;> rfl
theorem laminalaw01_CrcLinear.law (A0 : Option Addr) (c0 : Nat) (l0 : List Int) (A1 : Option Addr) (c1 : Nat) (l1 : List Int) (A2 : Option Addr) (c2 : Nat) (l2 : List Int) (w : World) (hr0 : Kd.C (Kd.int .u8) w A0 l0.length l0) (hc0 : l0.length ≤ c0) (_hy0 : l0.length * 1 ≤ 140737488351232) (hw0 : ∀ n ∈ l0, (Lit.int .u8 n).wf = true)
    (hr1 : Kd.C (Kd.int .u8) w A1 l1.length l1) (hc1 : l1.length ≤ c1) (hy1 : l1.length * 1 ≤ 140737488351232) (hw1 : ∀ n ∈ l1, (Lit.int .u8 n).wf = true) (hr2 : Kd.C (Kd.int .u8) w A2 l2.length l2) (hc2 : l2.length ≤ c2) (hy2 : l2.length * 1 ≤ 140737488351232) (hw2 : ∀ n ∈ l2, (Lit.int .u8 n).wf = true) :
    Calls Try.prog 5 #[.slice A0 l0.length c0, .slice A1 l1.length c1, .slice A2 l2.length c2] w fun e w' => e = .returned (.bool true) ∧ Below w.heap.size w w' := by
  have HR0 := Aside0.mk hr0
  have HR1 := Aside0.mk hr1
  have HR2 := Aside0.mk hr2
  have HW0 := Aside0.mk (wfs_u8 hw0)
  have HW1 := Aside0.mk (wfs_u8 hw1)
  have HW2 := Aside0.mk (wfs_u8 hw2)
  clear hr0 hr1 hr2 hw0 hw1 hw2
  by_cases h4 : 2000 < l0.length
  · go_enter Try.func5, Try.ntmps5
    go_wp2_with (go_at_call 8; refine (laminalaw01_alive.calls _).mono ?_; rintro e w' ⟨rfl, hb⟩; have HB := Aside0.mk hb; clear hb)
    go_ret
    exact ⟨rfl, HB.out⟩
  by_cases h5 : l1.length < l0.length
  · go_enter Try.func5, Try.ntmps5
    go_wp2_with (go_at_call 8; refine (laminalaw01_alive.calls _).mono ?_; rintro e w' ⟨rfl, hb⟩; have HB := Aside0.mk hb; clear hb)
    go_ret
    exact ⟨rfl, HB.out⟩
  by_cases h6 : l2.length < l0.length
  · go_enter Try.func5, Try.ntmps5
    go_wp2_with (go_at_call 8; refine (laminalaw01_alive.calls _).mono ?_; rintro e w' ⟨rfl, hb⟩; have HB := Aside0.mk hb; clear hb)
    go_ret
    exact ⟨rfl, HB.out⟩
  have k1 : l0.length ≤ c1 := by omega
  have k2 : l0.length ≤ c2 := by omega
  have k1' : (l0.length : Int) ≤ (c1 : Int) := by omega
  have k2' : (l0.length : Int) ≤ (c2 : Int) := by omega
  go_enter Try.func5, Try.ntmps5
  go_wp2_with (first | (go_at_call 8; refine (laminalaw01_alive.calls _).mono ?_; rintro e w1 ⟨rfl, hb⟩; have HB := Aside0.mk hb; clear hb))
  go_quiet (fail)
  have HBq := Aside0.mk (pw_below_drewN HB.out nq)
  go_wp2
  go_loopw [7, 39] (fun v7 v39 wr => ∃ k : Nat, k ≤ l0.length ∧ v39 = .int .i64 k ∧ Aside0 (Kd.R (Kd.int .u8) 5 wr w.heap.size (fun _ => True) v7 (xor3 l0 l1 l2 k)) ∧ Aside0 (Below w.heap.size w wr)) (fun _ v39 _ => l0.length - (intOf v39).toNat)
  case atStart => exact ⟨0, by omega, rfl, ⟨R_empty (w1.drewN nq) w.heap.size HBq.out.size⟩, ⟨below_alloc HBq.out _⟩⟩
  case round =>
    obtain ⟨k, hk, rfl, HX, HB3⟩ := hrel
    by_cases hlt : k < l0.length
    · obtain ⟨ad0, e0, hx0⟩ := Kd.at_int HR0.out k (by omega) (by omega)
      obtain ⟨ad1, e1, hx1⟩ := Kd.at_int HR1.out k (by omega) (by omega)
      obtain ⟨ad2, e2, hx2⟩ := Kd.at_int HR2.out k (by omega) (by omega)
      subst e0
      subst e1
      subst e2
      simp only [Int.toNat_natCast] at hx0 hx1 hx2
      have y0 := pw_cell_below HB3.out hx0
      have y1 := pw_cell_below HB3.out hx1
      have y2 := pw_cell_below HB3.out hx2
      have X0 := Aside0.mk hx0
      have X1 := Aside0.mk hx1
      have X2 := Aside0.mk hx2
      have hkl : (k : Int) < (l0.length : Int) := by omega
      have hlen := xor3_length l0 l1 l2 k
      have HL := Aside0.mk hlen
      clear hx0 hx1 hx2 hlen
      go_wp2
      go_region_held3 (fun w' => w'.cell? (ad0.add k) = some (.int .u8 (rd l0 k)) ∧ w'.cell? (ad1.add k) = some (.int .u8 (rd l1 k)) ∧ w'.cell? (ad2.add k) = some (.int .u8 (rd l2 k)))
        (first | go_keep | exact ⟨pw_cell_below HB5.out X0.out, pw_cell_below HB5.out X1.out, pw_cell_below HB5.out X2.out⟩)
        ((refine Kd.R_append_step (Kd.int .u8) (w0 := w) w.heap.size (by rfl) _ _ 22 5 (.int .u8 0) 1 (by rfl) Try.underlying22 info5 rfl (by decide) (by omega) _ (xor3 l0 l1 l2 k) (bits .xor .u8 (bits .xor .u8 (rd l0 k) (rd l1 k)) (rd l2 k)) [.int .u8 (bits .xor .u8 (bits .xor .u8 (rd l0 k) (rd l1 k)) (rd l2 k))] (fun _ => True) (fun _ => False) (by rfl) (by rfl) (by rfl) (fun _ h => h.elim) (fun _ _ => trivial) (Kd.R_drew HX.out) (below_drew HB3.out) (by have := HB3.out.size; simp; omega) (by have := HL.out; omega) ?_; intro v5 w5 ho hb hg hat; clear hg hat; have HX5 := Aside0.mk ho; have HB5 := Aside0.mk hb; clear ho hb))
      go_wp2
      exact ⟨⟨k + 1, by omega, by go_num, HX5, HB5⟩, by simp [intOf]; omega⟩
    · obtain rfl : k = l0.length := by omega
      obtain ⟨p1, p2⟩ := linear_pure l0 l1 l2 HW0.out HW1.out HW2.out (by omega) (by omega)
      have b1 : IsBytes (l1.take l0.length) := fun x hx => HW1.out x (List.mem_of_mem_take hx)
      have b2 : IsBytes (l2.take l0.length) := fun x hx => HW2.out x (List.mem_of_mem_take hx)
      obtain ⟨AX, cX, hv, hcX, hCX⟩ := Kd.R_reads HX.out
      subst hv
      have hl := xor3_length l0 l1 l2 l0.length
      have HS0 := Aside0.mk (show crc_Sum.f [xor3 l0 l1 l2 l0.length] = some (sumI [xor3 l0 l1 l2 l0.length]) from if_pos (fun l hl => by simp at hl; subst hl; exact p1))
      have HS1 := Aside0.mk (show crc_Sum.f [l0] = some (sumI [l0]) from if_pos (fun l hl => by simp at hl; subst hl; exact HW0.out))
      have HS2 := Aside0.mk (show crc_Sum.f [l1.take l0.length] = some (sumI [l1.take l0.length]) from if_pos (fun l hl => by simp at hl; subst hl; exact b1))
      have HS3 := Aside0.mk (show crc_Sum.f [l2.take l0.length] = some (sumI [l2.take l0.length]) from if_pos (fun l hl => by simp at hl; subst hl; exact b2))
      have HC0 := Aside0.mk hCX
      have HC2 := Aside0.mk (Kd.C_take (m := l0.length) HR1.out (by omega))
      have HC3 := Aside0.mk (Kd.C_take (m := l0.length) HR2.out (by omega))
      have e2 : (l1.take l0.length).length = l0.length := by rw [List.length_take]; omega
      have e3 : (l2.take l0.length).length = l0.length := by rw [List.length_take]; omega
      rw [e2] at HC2
      rw [e3] at HC3
      rw [hl] at hcX HC0
      have p3 := beq_iff_eq.2 p2
      simp only [hl]
      clear p2 p1 b1 b2 hCX e2 e3 hl HX
      generalize xor3 l0 l1 l2 l0.length = X at *
      generalize l1.take l0.length = L1 at *
      generalize l2.take l0.length = L2 at *
      generalize sumI [X] = s0 at *
      generalize sumI [l0] = s1 at *
      generalize sumI [L1] = s2 at *
      generalize sumI [L2] = s3 at *
      go_wp2_with fail
      refine (crc_Sum.calls _ _ [X] s0 _ (C_row1 HC0.out hcX) (Nat.le_refl _) HS0.out).mono ?_
      rintro e w3 ⟨rfl, hb⟩
      have HB4 := Aside0.mk (below_step (below_alloc HB3.out _) hb)
      clear hb
      go_wp2_with fail
      refine (crc_Sum.calls _ _ [l0] s1 _ (C_row1 (Kd.C_below HR0.out HB4.out) hc0) (Nat.le_refl _) HS1.out).mono ?_
      rintro e w4 ⟨rfl, hb⟩
      have HB5 := Aside0.mk (below_step (below_alloc HB4.out _) hb)
      clear hb
      go_wp2_with fail
      refine (crc_Sum.calls _ _ [L1] s2 _ (C_row1 (Kd.C_below HC2.out HB5.out) k1) (Nat.le_refl _) HS2.out).mono ?_
      rintro e w5 ⟨rfl, hb⟩
      have HB6 := Aside0.mk (below_step (below_alloc HB5.out _) hb)
      clear hb
      go_wp2_with fail
      refine (crc_Sum.calls _ _ [L2] s3 _ (C_row1 (Kd.C_below HC3.out HB6.out) k2) (Nat.le_refl _) HS3.out).mono ?_
      rintro e w6 ⟨rfl, hb⟩
      have HB7 := Aside0.mk (below_step (below_alloc HB6.out _) hb)
      clear hb
      go_wp2
      go_ret
      exact ⟨rfl, HB7.out⟩

end Go.Proofs.Ytgoipblpoopemaa.Hp
