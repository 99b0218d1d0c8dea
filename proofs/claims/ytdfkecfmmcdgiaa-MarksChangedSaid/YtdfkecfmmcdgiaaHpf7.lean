/- Contracts of functions of the given program, and what they lean on: written by this session's own program hprint.py, which lays hand texts into the kit's printer. -/
import Derived.Test.YtdfkecfmmcdgiaaHp0
import Derived.Test.YtdfkecfmmcdgiaaHpf9
import Derived.Test.YtdfkecfmmcdgiaaHpf10
import Derived.Test.YtdfkecfmmcdgiaaHpf14
import Derived.Test.YtdfkecfmmcdgiaaHpf16
import Derived.Test.YtdfkecfmmcdgiaaHpf20
import Derived.Test.YtdfkecfmmcdgiaaHpf18
import Derived.Test.YtdfkecfmmcdgiaaHpf28
import Derived.Test.YtdfkecfmmcdgiaaHpf29
import Derived.Test.YtdfkecfmmcdgiaaHpf30
import Derived.Test.YtdfkecfmmcdgiaaHpf31
import Derived.Test.YtdfkecfmmcdgiaaHpf32
namespace Go.Proofs.Ytdfkecfmmcdgiaa.Hp
open Go.RowKit Go.Proofs.YtdfkecfmmcdgiaaW.PrintWords Go.Proofs.YtdfkecfmmcdgiaaW.PrintLast Go.Proofs.YtdfkecfmmcdgiaaW.PrintMore
attribute [local go_sem] max2_int min2_int max_two min_two max_three min_three max_four min_four   -- for this text's walks alone
set_option linter.unusedVariables false
set_option linter.unusedSimpArgs false

/-! ### laminalaw10_MarksChanged: function 7 -/
theorem rfrz_go (m : List Int) (hm : m.length ≤ 2000) : ∀ (r i k : Nat), i + r = m.length → r < k → laminaref10_Frozen.l0 k m ((m.take i).map frz) i = some (m.map frz) := by
  intro r
  induction r with
  | zero =>
    intro i k hi hk
    obtain ⟨k, rfl⟩ : ∃ k', k = k' + 1 := ⟨k - 1, by omega⟩
    rw [laminaref10_Frozen.l0, if_neg (by omega), List.take_of_length_le (by omega)]
  | succ r ih =>
    intro i k hi hk
    obtain ⟨k, rfl⟩ : ∃ k', k = k' + 1 := ⟨k - 1, by omega⟩
    have h := ih (i + 1) k (by omega) (by omega)
    have hil : i < m.length := by omega
    have e : wrap64 ((i : Int) + 1) = ((i + 1 : Nat) : Int) := by unfold wrap64; omega
    have hr : rd m i = m[i] := by simp [rd, hil]
    have hlen : ((m.take i).map frz).length < 140737488355328 := by simp; omega
    rw [List.take_succ_eq_append_getElem hil, List.map_append, List.map_singleton, ← hr] at h
    rw [laminaref10_Frozen.l0, if_pos (by omega), if_pos (by omega), e]
    by_cases h1 : rd m i = 1
    · have : frz (rd m i) = 3 := by unfold frz; rw [if_pos h1]
      rw [this] at h
      rw [if_pos h1, if_pos hlen]
      exact h
    · have : frz (rd m i) = rd m i := by unfold frz; rw [if_neg h1]
      rw [this] at h
      rw [if_neg h1, if_pos hlen]
      exact h
theorem rfrz_f (m : List Int) (hm : m.length ≤ 2000) (k : Nat) (hk : m.length < k) : laminaref10_Frozen.f k m = some (m.map frz) := rfrz_go m hm m.length 0 k (by omega) hk
theorem rchg_go (a b : List Int) (ha : a.length ≤ 2000) (hb : b.length ≤ 2000) : ∀ (r i k : Nat), i + r = max a.length b.length → 2 * r + 2 < k → laminaref10_Changed.l0 k a b (chL a b i) i = some (chL a b (max a.length b.length)) := by
  intro r
  induction r with
  | zero =>
    intro i k hi hk
    obtain ⟨k, rfl⟩ : ∃ k', k = k' + 2 := ⟨k - 2, by omega⟩
    rw [laminaref10_Changed.l0, if_neg (by omega), decide_eq_false (by omega), laminaref10_Changed.j1, if_neg (by simp), show i = max a.length b.length by omega]
  | succ r ih =>
    intro i k hi hk
    obtain ⟨k, rfl⟩ : ∃ k', k = k' + 2 := ⟨k - 2, by omega⟩
    have h := ih (i + 1) k (by omega) (by omega)
    have e : wrap64 ((i : Int) + 1) = ((i + 1 : Nat) : Int) := by unfold wrap64; omega
    have hl := chL_len a b i
    have hlen : (chL a b i).length < 17592186044416 := by omega
    have hj : laminaref10_Changed.j1 (k + 1) a b (chL a b i) i true = some (chL a b (max a.length b.length)) := by
      rw [laminaref10_Changed.j1, if_pos rfl, mark10, mark10, Option.bind_some, Option.bind_some, e]
      have hc : chg a b i = (rd a i == 1 || rd a i == 2 || ((rd a i == 0) != (rd b i == 0))) := rfl
      simp only [if_pos hlen]
      generalize rd a (i : Int) = x at *
      generalize rd b (i : Int) = y at *
      by_cases h1 : x = 1
      · rw [chL_yes a b i (by rw [hc, h1]; rfl)] at h
        rw [if_pos h1]; exact h
      by_cases h2 : x = 2
      · rw [chL_yes a b i (by rw [hc, h2]; rfl)] at h
        rw [if_neg h1, if_pos h2]; exact h
      have h1b : (x == 1) = false := beq_eq_false_iff_ne.2 h1
      have h2b : (x == 2) = false := beq_eq_false_iff_ne.2 h2
      rw [h1b, h2b, Bool.false_or, Bool.false_or] at hc
      rw [if_neg h1, if_neg h2]
      by_cases h3 : x = 0
      · by_cases h4 : y = 0
        · rw [chL_no a b i (by rw [hc, h3, h4]; rfl)] at h
          rw [if_pos h3, if_pos h4]; exact h
        · rw [chL_yes a b i (by rw [hc, h3, beq_eq_false_iff_ne.2 h4]; rfl)] at h
          rw [if_pos h3, if_neg h4]; exact h
      · by_cases h4 : y = 0
        · rw [chL_yes a b i (by rw [hc, h4, beq_eq_false_iff_ne.2 h3]; rfl)] at h
          rw [if_neg h3, if_pos h4]; exact h
        · rw [chL_no a b i (by rw [hc, beq_eq_false_iff_ne.2 h3, beq_eq_false_iff_ne.2 h4]; rfl)] at h
          rw [if_neg h3, if_neg h4]; exact h
    rw [laminaref10_Changed.l0]
    by_cases hq : (i : Int) < a.length
    · rw [if_pos hq]; exact hj
    · rw [if_neg hq, decide_eq_true (by omega)]; exact hj
theorem rchg_f (a b : List Int) (ha : a.length ≤ 2000) (hb : b.length ≤ 2000) (k : Nat) (hk : 5000 < k) : laminaref10_Changed.f k a b = some (chL a b (max a.length b.length)) := rchg_go a b ha hb (max a.length b.length) 0 k (by omega) (by omega)
theorem ints_go2 (a b : List Int) (hl : a.length = b.length) (ha : a.length ≤ 1000000) : ∀ (m i k : Nat), i + m = a.length → m < k → laminanum_Ints.l0 k a b (a.length : Int) i = some (decide (a.drop i = b.drop i)) := by
  intro m
  induction m with
  | zero =>
    intro i k hi hk
    obtain ⟨k, rfl⟩ : ∃ k', k = k' + 1 := ⟨k - 1, by omega⟩
    rw [laminanum_Ints.l0, if_neg (by omega), List.drop_eq_nil_of_le (by omega), List.drop_eq_nil_of_le (by omega)]
    rfl
  | succ m ih =>
    intro i k hi hk
    obtain ⟨k, rfl⟩ : ∃ k', k = k' + 1 := ⟨k - 1, by omega⟩
    have e : wrap64 ((i : Int) + 1) = ((i + 1 : Nat) : Int) := by unfold wrap64; omega
    have r0 : rd a i = a[i] := by simp [rd, show i < a.length by omega]
    have r1 : rd b i = b[i] := by simp [rd, show i < b.length by omega]
    rw [laminanum_Ints.l0, if_pos (by omega), if_pos (by omega), if_pos (by omega), if_pos (by omega), e, ih (i + 1) k (by omega) (by omega), r0, r1]
    rw [List.drop_eq_getElem_cons (show i < a.length by omega), List.drop_eq_getElem_cons (show i < b.length by omega)]
    by_cases h : a[i] = b[i]
    · rw [if_pos h, h]; simp only [List.cons.injEq, true_and]
    · rw [if_neg h]; simp only [List.cons.injEq, h, false_and, decide_false]
theorem ints_refl2 (a : List Int) (ha : a.length ≤ 1000000) (k : Nat) (hk : a.length < k) : laminanum_Ints.f k a a = some true := by
  unfold laminanum_Ints.f
  rw [if_pos rfl, show (0 : Int) = ((0 : Nat) : Int) from rfl, ints_go2 a a rfl ha a.length 0 k (by omega) hk]
  simp
theorem laminalaw10_MarksChanged.law (A0 : Option Addr) (c0 : Nat) (l0 : List Int) (A1 : Option Addr) (c1 : Nat) (l1 : List Int) (w : World) (hr0 : Kd.C (Kd.int .u8) w A0 l0.length l0) (hc0 : l0.length ≤ c0) (_hy0 : l0.length * 1 ≤ 140737488351232) (_hw0 : ∀ n ∈ l0, (Lit.int .u8 n).wf = true)
    (hr1 : Kd.C (Kd.int .u8) w A1 l1.length l1) (hc1 : l1.length ≤ c1) (_hy1 : l1.length * 1 ≤ 140737488351232) (_hw1 : ∀ n ∈ l1, (Lit.int .u8 n).wf = true) :
    Calls Try.prog 7 #[.slice A0 l0.length c0, .slice A1 l1.length c1] w fun e w' => e = .returned (.bool true) ∧ Below w.heap.size w w' := by
  have hm0 := hr0.2.1
  have hm1 := hr1.2.1
  have HR0 := Aside0.mk hr0
  have HR1 := Aside0.mk hr1
  have HAL := fun W => laminalaw10_alive.calls true W alive10
  clear hr0 hr1 _hw0 _hw1
  by_cases hbig0 : (l0.length : Int) > 2000
  · go_enter Try.func7, Try.ntmps7
    go_wp2_with fail
    refine (HAL _).mono ?_
    rintro e w1 ⟨rfl, hb⟩
    go_wp2
    go_ret
    exact ⟨rfl, hb⟩
  by_cases hbig1 : (l1.length : Int) > 2000
  · go_enter Try.func7, Try.ntmps7
    go_wp2_with fail
    refine (HAL _).mono ?_
    rintro e w1 ⟨rfl, hb⟩
    go_wp2
    go_ret
    exact ⟨rfl, hb⟩
  have h0 : l0.length ≤ 2000 := by omega
  have h1 : l1.length ≤ 2000 := by omega
  have HF1 : Aside0 (marks_Marks_Frozen.f l0 = some (l0.map frz)) := ⟨by unfold marks_Marks_Frozen.f; rw [if_pos (by omega)]⟩
  have HF2 : Aside0 (marks_Marks_Changed.f l0 l1 = some (chL l0 l1 (max l0.length l1.length))) := ⟨by unfold marks_Marks_Changed.f; rw [if_pos ⟨by omega, by omega⟩]⟩
  have HF3 := Aside0.mk (rfrz_f l0 h0 5001 (by omega))
  have HF4 := Aside0.mk (rchg_f l0 l1 h0 h1 5001 (by omega))
  have hfl : (l0.map frz).length = l0.length := by simp
  have HFL := Aside0.mk hfl
  have hcl := chL_len l0 l1 (max l0.length l1.length)
  have HIN := Aside0.mk (ints_refl2 (chL l0 l1 (max l0.length l1.length)) (by omega) 5001 (by omega))
  clear hfl hcl
  generalize l0.map frz = F at *
  generalize chL l0 l1 (max l0.length l1.length) = L at *
  go_enter Try.func7, Try.ntmps7
  go_wp2_with fail
  refine (HAL _).mono ?_
  rintro e w1 ⟨rfl, hb1⟩
  have HB1 := Aside0.mk hb1
  clear hb1 HAL
  go_wp2_with fail
  refine (laminanum_Copy.calls A0 c0 l0 _ (Kd.C_below HR0.out HB1.out) (by omega)).mono ?_
  rintro e w2 ⟨g, cap, rfl, hg, hR2, hb2⟩
  have HB2 := Aside0.mk (below_step HB1.out hb2)
  go_wp2_with fail
  refine (laminanum_Copy.calls A1 c1 l1 _ (Kd.C_below HR1.out HB2.out) (by omega)).mono ?_
  rintro e w3 ⟨g', cap', rfl, hg', hR3, hb3⟩
  have HG := Aside0.mk (show g < w3.heap.size from Nat.lt_of_lt_of_le (Kd.R_lt hR2 g rfl) hb3.size)
  have HR2 := Aside0.mk (Kd.R_below (Kd.R_lower hR2 HB1.out.size) hb3)
  have HR3 := Aside0.mk (Kd.R_lower hR3 HB2.out.size)
  have HB3 := Aside0.mk (below_step HB2.out hb3)
  obtain ⟨hC2, hcap⟩ := Kp_C HR2.out
  obtain ⟨hC3, hcap'⟩ := Kp_C HR3.out
  have HC2 := Aside0.mk hC2
  have HC3 := Aside0.mk hC3
  clear hR2 hb2 hC2 hg hR3 hb3 hC3 hg'
  go_wp2_with fail
  refine (marks_Marks_Frozen.calls (some ⟨g, 0, none⟩) cap l0 _ _ HC2.out (by omega) HF1.out).mono ?_
  rintro e w4 ⟨v4, rfl, ho4, hb4⟩
  obtain ⟨A4, c4, rfl, -⟩ := Kd.R_reads ho4
  have HX4 := Aside0.mk (fun k (hk : (Value.slice A4 F.length c4).ownBlock = some k) => (Kd.R_base ho4 k hk : w3.heap.size ≤ k))
  have HO4 := Aside0.mk (Kd.R_lower ho4 HB3.out.size)
  have HR24 := Aside0.mk (Kd.R_below HR2.out hb4)
  have HR34 := Aside0.mk (Kd.R_below HR3.out hb4)
  have HC24 := Aside0.mk (Kd.C_below HC2.out hb4)
  have HC34 := Aside0.mk (Kd.C_below HC3.out hb4)
  have HB4 := Aside0.mk (below_step HB3.out hb4)
  clear ho4 hb4
  go_wp2_with fail
  refine (marks_Marks_Changed.calls (some ⟨g, 0, none⟩) cap l0 (some ⟨g', 0, none⟩) cap' l1 _ _ HC24.out (by omega) HC34.out (by omega) HF2.out).mono ?_
  rintro e w5 ⟨v5, rfl, ho5, hb5⟩
  obtain ⟨A5, c5, rfl, -⟩ := Kd.R_reads ho5
  have HL5 := Aside0.mk ho5
  have HO5 := Aside0.mk (Kd.R_below HO4.out hb5)
  have HR25 := Aside0.mk (Kd.R_below HR24.out hb5)
  have HR35 := Aside0.mk (Kd.R_below HR34.out hb5)
  have HB5 := Aside0.mk (below_step HB4.out hb5)
  clear ho5 hb5 HR2 HR3 HC2 HC3 HO4 HR24 HR34 HC24 HC34 HB1 HB2 HB3 HB4
  go_wp2_with fail
  refine (laminaref10_Frozen.calls 5001 A0 c0 l0 _ _ (Kd.C_below HR0.out HB5.out) hc0 HF3.out).mono ?_
  rintro e w6 ⟨v6, rfl, ho6, hb6⟩
  obtain ⟨A6, c6, rfl, -⟩ := Kd.R_reads ho6
  obtain ⟨-, hc6, hC6⟩ := Kd.R_reads' ho6
  have HC6 := Aside0.mk hC6
  have HL6 := Aside0.mk (Kd.R_below HL5.out hb6)
  have HO6 := Aside0.mk (Kd.R_below HO5.out hb6)
  have HR26 := Aside0.mk (Kd.R_below HR25.out hb6)
  have HR36 := Aside0.mk (Kd.R_below HR35.out hb6)
  have HB6 := Aside0.mk (below_step HB5.out hb6)
  have hco := (Kd.R_reads' HO6.out).2.1
  have HCO := Aside0.mk (Kd.R_reads' HO6.out).2.2
  clear ho6 hb6 hC6 HL5 HO5 HR25 HR35 HB5
  go_wp2_with fail
  refine (laminanum_Same.calls A4 c4 F A6 c6 F true _ HCO.out hco HC6.out hc6 (same_refl F)).mono ?_
  rintro e w7 ⟨rfl, ⟨n7, rfl⟩⟩
  go_wp2_with fail
  refine (laminaref10_Changed.calls 5001 A0 c0 l0 A1 c1 l1 _ _ (Kd.C_drewN (Kd.C_below HR0.out HB6.out) _) hc0 (Kd.C_drewN (Kd.C_below HR1.out HB6.out) _) hc1 HF4.out).mono ?_
  rintro e w8 ⟨v8, rfl, ho8, hb8⟩
  obtain ⟨A8, c8, rfl, -⟩ := Kd.R_reads ho8
  obtain ⟨-, hc8, hC8⟩ := Kd.R_reads' ho8
  have HC8 := Aside0.mk hC8
  have HL8 := Aside0.mk (Kd.R_below (Kd.R_drewN HL6.out n7) hb8)
  have HO8 := Aside0.mk (Kd.R_below (Kd.R_drewN HO6.out n7) hb8)
  have HR28 := Aside0.mk (Kd.R_below (Kd.R_drewN HR26.out n7) hb8)
  have HR38 := Aside0.mk (Kd.R_below (Kd.R_drewN HR36.out n7) hb8)
  have HB8 := Aside0.mk (below_step (pw_below_drewN HB6.out n7) hb8)
  have hcl := (Kd.R_reads' HL8.out).2.1
  have HCL := Aside0.mk (Kd.R_reads' HL8.out).2.2
  clear ho8 hb8 hC8 HL6 HO6 HR26 HR36 HB6 HF1 HF2 HF3 HF4 HC6 HCO hco
  go_wp2_with fail
  refine (laminanum_Ints.calls 5001 A5 c5 L A8 c8 L true _ HCL.out hcl HC8.out hc8 HIN.out).mono ?_
  rintro e w9 ⟨rfl, ⟨n9, rfl⟩⟩
  go_wp2_with fail
  refine (laminanum_Kept.calls g cap _ _ A0 c0 l0 _ (Kd.R_drewN HR28.out _) (Kd.C_drewN (Kd.C_below HR0.out HB8.out) _) (by omega)).mono ?_
  rintro e w10 ⟨rfl, ⟨n10, rfl⟩⟩
  go_wp2_with fail
  refine (laminanum_Kept.calls g' cap' _ _ A1 c1 l1 _ (Kd.R_drewN HR38.out _) (Kd.C_drewN (Kd.C_below HR1.out HB8.out) _) (by omega)).mono ?_
  rintro e w11 ⟨rfl, ⟨n11, rfl⟩⟩
  have HAP : ∀ n : Nat, Calls Try.prog 18 #[.slice (some ⟨w8.heap.size, 0, none⟩) 2 2] ((w8.drewN n).alloc (.cells #[.slice A4 F.length c4, .slice (some ⟨g, 0, none⟩) l0.length cap] 22)) fun e w' => e = .returned (.bool true) ∧ Below w.heap.size ((w8.drewN n).alloc (.cells #[.slice A4 F.length c4, .slice (some ⟨g, 0, none⟩) l0.length cap] 22)) w' := by
    intro n
    have hnf := HFL.out
    have hx : Ow w8 w.heap.size (.slice A4 F.length c4) F := R_Ow HO8.out
    have hc : Ow w8 w.heap.size (.slice (some ⟨g, 0, none⟩) l0.length cap) l0 := by
      have := Ow_take (R_Ow HR28.out) l0.length (by simp)
      rw [List.take_left] at this
      exact this
    refine laminanum_Apart.calls [.slice A4 F.length c4, .slice (some ⟨g, 0, none⟩) l0.length cap] (fun i => if i = 0 then F else l0) w8.heap.size 2 w.heap.size _ (heap_alloc_new (w8.drewN n) _) (by simp) (fun i => ?_) (fun i v hi => ?_) (pw_hd ?_) (Nat.le_trans HB8.out.size (by simp))
    · show (if i = 0 then F else l0).length ≤ 100000
      split <;> omega
    · rcases i with _ | _ | i
      · simp at hi; subst hi; exact World.ownsRow.alloc (w := w8.drewN n) hx _
      · simp at hi; subst hi; exact World.ownsRow.alloc (w := w8.drewN n) hc _
      · simp at hi
    · have h4 := HX4.out
      have hg := HG.out
      simp only [List.pairwise_cons, List.mem_cons, List.not_mem_nil, or_false, forall_eq_or_imp, forall_eq, List.Pairwise.nil, and_true, false_implies, implies_true]
      intro k hk hk2
      have := h4 k hk
      simp [Value.ownBlock] at hk2
      omega
  go_wp2_with fail
  refine (HAP _).mono ?_
  rintro e w12 ⟨rfl, hb12⟩
  go_wp2
  go_ret
  exact ⟨rfl, ((pw_below_drewN HB8.out _).alloc HB8.out.size _).trans hb12⟩

end Go.Proofs.Ytdfkecfmmcdgiaa.Hp
