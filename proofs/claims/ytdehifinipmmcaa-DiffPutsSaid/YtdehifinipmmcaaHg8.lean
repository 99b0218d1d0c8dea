/- Contracts of functions of the given program, and what they lean on: written by this session's own program, out of hand texts laid into the kit's printer. -/
import Derived.Deep.RegionWith
import Derived.Deep.QuietTactic
import Derived.BigQuiet
import Derived.Deep.DeepMust
import Derived.Test.YtdehifinipmmcaaHp0
import Derived.Test.YtdehifinipmmcaaHg1
import Derived.Test.YtdehifinipmmcaaHg2
import Derived.Test.YtdehifinipmmcaaHg3
namespace Go.Proofs.Ytdehifinipmmcaa.Hp
open Go.RowKit Go.Proofs.YtdehifinipmmcaaW.PrintWords Go.Proofs.YtdehifinipmmcaaW.PrintLast Go.Proofs.YtdehifinipmmcaaW.PrintMore
attribute [local go_sem] max2_int min2_int max_two min_two max_three min_three max_four min_four   -- for this text's walks alone
set_option linter.unusedVariables false
set_option linter.unusedSimpArgs false

/-! ### diff_between: function 34 -/
def seg (l : List Int) (a m : Nat) : List Int := (l.take (a + m)).drop a
theorem seg_len (l : List Int) (a m : Nat) (h : a + m ≤ l.length) : (seg l a m).length = m := by simp [seg]; omega
def pcM (n o i : Nat) : Nat := min o (n - i * o)
/-- The records of the first pieces. -/
def btwL (was fresh : List Int) (o : Nat) : Nat → List S61
  | 0 => []
  | i + 1 => btwL was fresh o i ++ (if seg was (i * o) (pcM fresh.length o i) = seg fresh (i * o) (pcM fresh.length o i) then [] else [recOf (i * o : Nat) (seg fresh (i * o) (pcM fresh.length o i))])
theorem btwL_len (was fresh : List Int) (o i : Nat) : (btwL was fresh o i).length ≤ i := by
  induction i with
  | zero => simp [btwL]
  | succ i ih =>
    rw [btwL, List.length_append]
    split <;> simp <;> omega
theorem equal_go (a b : List Int) (hl : a.length = b.length) (ha : a.length ≤ 1000000) : ∀ (m i k : Nat), i + m = a.length → m < k → slices_Equal_byte_byte.l0 k a b (a.length : Int) i = some (decide (a.drop i = b.drop i)) := by
  intro m
  induction m with
  | zero =>
    intro i k hi hk
    obtain ⟨k, rfl⟩ : ∃ k', k = k' + 1 := ⟨k - 1, by omega⟩
    rw [slices_Equal_byte_byte.l0, if_neg (by omega), List.drop_eq_nil_of_le (by omega), List.drop_eq_nil_of_le (by omega)]
    rfl
  | succ m ih =>
    intro i k hi hk
    obtain ⟨k, rfl⟩ : ∃ k', k = k' + 1 := ⟨k - 1, by omega⟩
    have e : wrap64 ((i : Int) + 1) = ((i + 1 : Nat) : Int) := by unfold wrap64; omega
    have r0 : rd a i = a[i] := by simp [rd, show i < a.length by omega]
    have r1 : rd b i = b[i] := by simp [rd, show i < b.length by omega]
    rw [slices_Equal_byte_byte.l0, if_pos (by omega), if_pos (by omega), if_pos (by omega), if_pos (by omega), e, ih (i + 1) k (by omega) (by omega), r0, r1]
    rw [List.drop_eq_getElem_cons (show i < a.length by omega), List.drop_eq_getElem_cons (show i < b.length by omega)]
    by_cases h : a[i] = b[i]
    · rw [if_pos h, h]; simp only [List.cons.injEq, true_and]
    · rw [if_neg h]; simp only [List.cons.injEq, h, false_and, decide_false]
theorem equal_f (a b : List Int) (ha : a.length ≤ 1000000) (k : Nat) (hk : a.length < k) : slices_Equal_byte_byte.f k a b = some (decide (a = b)) := by
  unfold slices_Equal_byte_byte.f
  by_cases h : (a.length : Int) = b.length
  · rw [if_pos h, show (0 : Int) = ((0 : Nat) : Int) from rfl, equal_go a b (by omega) ha a.length 0 k (by omega) hk]
    simp
  · rw [if_neg h, decide_eq_false]
    rintro rfl
    exact h rfl
theorem yes_calls (i : Int) (w : World) : Calls Try.prog 35 #[.int .i64 i] w fun e w' => e = .returned (.bool true) ∧ w' = w := by
  go_enter Try.func35, Try.ntmps35
  go_wp2
  go_ret
  exact ⟨rfl, rfl⟩
theorem sized_f (n : Int) : diff_sized.f n = some (decide (0 ≤ n ∧ n ≤ 4096)) := by
  unfold diff_sized.f
  by_cases h : n ≥ 0
  · rw [if_pos h]; congr 1; simp; omega
  · rw [if_neg h]; congr 1; symm; simp; omega
set_option maxHeartbeats 4000000 in
set_option maxRecDepth 100000 in
theorem diff_between.bad (A0 : Option Addr) (c0 : Nat) (l0 : List Int) (A1 : Option Addr) (c1 : Nat) (l1 : List Int) (o : Int) (w : World) (hl0 : l0.length ≤ 1000000) (hl1 : l1.length ≤ 1000000)
    (h : szB l1.length o = false ∨ (szB l1.length o = true ∧ 4096 < l0.length)) :
    Calls Try.prog 34 #[.slice A0 l0.length c0, .slice A1 l1.length c1, .int .i64 o, .func (.func 35) #[] #[]] w fun e w' => e = .returned (.tuple #[.agg #[.int .i64 0, .int .i64 0, .slice none 0 0], errW (some 1)]) ∧ Below w.heap.size w w' := by
  have hu27 := Try.underlying30
  have hu33 := Try.underlying39
  rcases h with h | ⟨h, h4⟩
  · have HP := fun W => stripe_Pieces.bad l1.length o (by omega) h W
    clear h
    go_enter Try.func34, Try.ntmps34
    go_wp2_with fail
    refine (HP _).mono ?_
    rintro e w1 ⟨rfl, ⟨n2, rfl⟩⟩
    rw [errW_some]
    go_wp2
    refine bodyPost_ret (results_ct rfl _ _ w.heap.size 35 #[.int .i64 0, .int .i64 0, .slice none 0 0] (0, 0) _ rfl (blk_put (blk_put (blk_put (blk_drewN (blk_new w _) _) 0 _ rfl) 1 _ rfl) 2 _ rfl) Try.underlying35 rfl (by kernel_rfl)) rfl ?_
    exact ⟨by simp [errW_some], below_set (below_set (below_set (pw_below_drewN (below_alloc (Below.refl _ _) _) _) (Nat.le_refl _)) (Nat.le_refl _)) (Nat.le_refl _)⟩
  · have hs : 0 ≤ (l1.length : Int) ∧ (l1.length : Int) ≤ 4096 ∧ (o = 16 ∨ o = 32 ∨ o = 64 ∨ o = 128 ∨ o = 256) := by unfold szB at h; simpa using h
    obtain ⟨q, rfl⟩ := Int.eq_ofNat_of_zero_le (show 0 ≤ o by omega)
    have HP := fun W => stripe_Pieces.good l1.length q (by omega) (by omega) W
    have HS := fun W => diff_sized.calls (l0.length : Int) false W (by rw [sized_f, decide_eq_false]; omega)
    clear h hs h4
    go_enter Try.func34, Try.ntmps34
    go_wp2_with fail
    refine (HP _).mono ?_
    rintro e w1 ⟨v1, rfl, -, hb⟩
    rw [errW_none]
    have BK := Aside0.mk (blk_below (blk_new w _) hb)
    have HB := Aside0.mk (below_step (below_alloc (Below.refl w.heap.size w) _) hb)
    clear hb
    have hz0 : w1.cell? ⟨w.heap.size, 0, none⟩ = some (.int .i64 0) := (blk_cell BK.out 0).trans rfl
    have hz1 : w1.cell? ⟨w.heap.size, 1, none⟩ = some (.int .i64 0) := (blk_cell BK.out 1).trans rfl
    have hz2 : w1.cell? ⟨w.heap.size, 2, none⟩ = some (.slice none 0 0) := (blk_cell BK.out 2).trans rfl
    have hf0 : w1.frozen? ⟨w.heap.size, 0, none⟩ = false := blk_frozen BK.out 0
    have hf1 : w1.frozen? ⟨w.heap.size, 1, none⟩ = false := blk_frozen BK.out 1
    have hf2 : w1.frozen? ⟨w.heap.size, 2, none⟩ = false := blk_frozen BK.out 2
    go_wp2_with fail
    refine (HS _).mono ?_
    rintro e w2 ⟨rfl, ⟨n2, rfl⟩⟩
    go_wp2
    refine bodyPost_ret (results_ct rfl _ _ w.heap.size 35 #[.int .i64 0, .int .i64 0, .slice none 0 0] (0, 0) _ rfl (blk_put (blk_put (blk_put (blk_drewN BK.out _) 0 _ rfl) 1 _ rfl) 2 _ rfl) Try.underlying35 rfl (by kernel_rfl)) rfl ?_
    exact ⟨by simp [errW_some], below_set (below_set (below_set (pw_below_drewN HB.out _) (Nat.le_refl _)) (Nat.le_refl _)) (Nat.le_refl _)⟩
attribute [-go_sem] Go.Builtin.append_
set_option maxHeartbeats 8000000 in
set_option maxRecDepth 100000 in
theorem diff_between.good (A0 : Option Addr) (c0 : Nat) (l0 : List Int) (A1 : Option Addr) (c1 : Nat) (l1 : List Int) (o : Nat) (w : World) (hr0 : Kd.C (Kd.int .u8) w A0 l0.length l0) (hc0 : l0.length ≤ c0) (hr1 : Kd.C (Kd.int .u8) w A1 l1.length l1) (hc1 : l1.length ≤ c1) (hl0 : l0.length ≤ 4096) (hl1 : l1.length ≤ 4096) (ho : o = 16 ∨ o = 32 ∨ o = 64 ∨ o = 128 ∨ o = 256) :
    Calls Try.prog 34 #[.slice A0 l0.length c0, .slice A1 l1.length c1, .int .i64 o, .func (.func 35) #[] #[]] w fun e w' => ∃ v : Value, e = .returned (.tuple #[.agg #[.int .i64 l0.length, .int .i64 l1.length, v], errW none]) ∧ Kd.S k61 61 w' w.heap.size (fun _ => True) v (btwL (szL l0 l1.length) l1 o (pcN l1.length o)) ∧ Below w.heap.size w w' := by
  have HPC := fun W => stripe_Pieces.good l1.length o hl1 ho W
  have HS := fun W => diff_sized.calls (l0.length : Int) true W (by rw [sized_f, decide_eq_true]; omega)
  have HR0 := Aside0.mk hr0
  have HR1 := Aside0.mk (Rk.of_C hr1)
  have HO := Aside0.mk ho
  clear hr0 hr1 ho
  go_enter Try.func34, Try.ntmps34
  go_wp2_with fail
  refine (HPC _).mono ?_
  rintro e w1 ⟨v1, rfl, hp, hb⟩
  rw [errW_none]
  have BK8 := Aside0.mk (blk_below (blk_new w _) hb)
  have HB1 := Aside0.mk (below_step (below_alloc (Below.refl w.heap.size w) _) hb)
  have HP := Aside0.mk (Kd.R_lower hp (below_alloc (Below.refl w.heap.size w) (.cells #[.int .i64 0, .int .i64 0, .slice none 0 0] 35)).size)
  obtain ⟨A5, c5, rfl, -⟩ := Kd.R_reads hp
  rw [pcL_len] at HP
  rw [pcL_len]
  clear hp hb HPC
  go_wp2_with fail
  refine (HS _).mono ?_
  rintro e w2 ⟨rfl, hd⟩
  have hb2 : Below w1.heap.size w1 w2 := by obtain ⟨_, rfl⟩ := hd; exact pw_below_drewN (Below.refl _ _) _
  have BK8 := Aside0.mk (blk_below BK8.out hb2)
  have HP := Aside0.mk (Kd.R_step HP.out (fun k _ hk => hb2.block k hk))
  have HB1 := Aside0.mk (below_step HB1.out hb2)
  clear hd hb2
  go_wp2_with fail
  have HK2 := Aside0.mk BK8.out
  have hb12 := blk_new w2 (.cells #[.int .i64 l0.length, .int .i64 l1.length, .slice none 0 0] 35)
  have HBW := below_alloc HB1.out (.cells #[.int .i64 l0.length, .int .i64 l1.length, .slice none 0 0] 35)
  refine (diff_resized.calls A0 c0 l0 l1.length _ (Kd.C_below HR0.out HBW) hc0 (by omega)).mono ?_
  rintro e w3 ⟨v3, rfl, ho3, hb3⟩
  have BK8 := Aside0.mk (blk_below (blk_alloc BK8.out (.cells #[.int .i64 l0.length, .int .i64 l1.length, .slice none 0 0] 35)) hb3)
  have BK12 := Aside0.mk (blk_below hb12 hb3)
  have HP := Aside0.mk (R_only (T := fun _ => False) (Kd.R_alloc (Kd.R_mono (Kd.R_bound HP.out) (ok' := fun j => j < w2.heap.size) (fun _ hk => hk.2.2.1)) (.cells #[.int .i64 l0.length, .int .i64 l1.length, .slice none 0 0] 35)) (Only.of_below hb3 _) (fun _ _ h => h))
  have HB3 := Aside0.mk (below_step HBW hb3)
  have hsz2 := blk_lt hb12
  have HW := Aside0.mk (R_made_in ho3)
  have hsz3 := hb3.size
  obtain ⟨A3, c3, rfl, -⟩ := Kd.R_reads ho3
  rw [szL_len] at HW ⊢
  have hlt8 := blk_lt BK8.out
  have hbase := HB1.out.size
  have hR1 := Aside0.mk (HR1.out.only (Only.of_below HB3.out (fun _ => False)) (fun _ _ h => h))
  have hb0 : w.heap.size < w2.heap.size := blk_lt HK2.out
  have hw23 : w2.heap.size < w3.heap.size := by simp at hsz3; omega
  have HW := Aside0.mk (Kd.R_mono HW.out (ok' := fun j => w2.heap.size < j ∧ j < w3.heap.size) (fun j hj => by simp at hj; omega))
  clear ho3 hb3 hb12 HBW HR1 HR0 HB1 HS hsz2 hsz3 hlt8 HK2
  go_wp2
  go_loopw [48] (fun v48 wr => ∃ (i : Nat) (v : Value), i ≤ pcN l1.length o ∧ v48 = .int .i64 i ∧ Aside0 (Kd.S k61 61 wr w3.heap.size (fun _ => True) v (btwL (szL l0 l1.length) l1 o i)) ∧ Aside0 (Only w3 wr (fun j => j = w2.heap.size)) ∧ Aside0 (wr.heap[w2.heap.size]? = some (.cells #[.int .i64 l0.length, .int .i64 l1.length, v] 35 (0, 0)))) (fun v48 _ => pcN l1.length o - (intOf v48).toNat)
  case atStart => exact ⟨0, _, by omega, rfl, ⟨Kd.S_nil _ _ _ _ _⟩, ⟨Only.refl _ _⟩, BK12⟩
  case round =>
    clear BK12
    obtain ⟨i, v, hi, rfl, HS, HN, BK12⟩ := hrel
    by_cases hlt : i < pcN l1.length o
    · have hm0 := pcN_lt l1.length o i HO.out hlt
      have hP := R_only HP.out HN.out (fun j hj e => by omega)
      obtain ⟨ad5, e5, hx0, hx1, hx2, hx3⟩ := at_T94 (Kd.R_reads' hP).2.2 i (by omega) (by rw [pcL_len]; omega)
      subst e5
      rw [pcL_at _ _ _ hlt] at hx0 hx1 hx2 hx3
      simp only [Int.toNat_natCast, pcAt] at hx0 hx1 hx2 hx3
      have HSTEP := Aside0.mk (show btwL (szL l0 l1.length) l1 o (i + 1) = btwL (szL l0 l1.length) l1 o i ++ (if seg (szL l0 l1.length) (i * o) (min o (l1.length - i * o)) = seg l1 (i * o) (min o (l1.length - i * o)) then [] else [recOf (i * o : Nat) (seg l1 (i * o) (min o (l1.length - i * o)))]) from rfl)
      have HBL := Aside0.mk (btwL_len (szL l0 l1.length) l1 o i)
      have HI := Aside0.mk (show i < 256 by have := pcN_le l1.length o hl1 HO.out; omega)
      have hm1 : 1 ≤ min o (l1.length - i * o) ∧ i * o + min o (l1.length - i * o) ≤ l1.length := by have := HO.out; omega
      generalize i * o = a at *
      generalize min o (l1.length - a) = m at *
      obtain ⟨hm1, hm2⟩ := hm1
      clear hP
      have hWr := R_only HW.out HN.out (fun j hj e => by omega)
      obtain ⟨g3, cap3, eg, -, -, -⟩ := Kd.R_form hWr (by rw [szL_len]; omega)
      injection eg with eA e3 e4
      subst eA e4
      obtain ⟨-, hc3, hC3⟩ := Kd.R_reads' hWr
      have hC1 := (hR1.out.only HN.out (fun j hj e => by omega)).row
      obtain ⟨ad1, e1, -⟩ := C_cells hC1 (by omega)
      subst e1
      have hl3 := seg_len (szL l0 l1.length) a m (by rw [szL_len]; exact hm2)
      have hl1' := seg_len l1 a m hm2
      have hS3 : Kd.C (Kd.int .u8) wr (some ⟨g3, a, none⟩) (seg (szL l0 l1.length) a m).length (seg (szL l0 l1.length) a m) := by
        have := Kd.C_mid (lo := a) (hi := a + m) hC3 (by omega) (by rw [szL_len]; exact hm2) (by rw [szL_len]; exact hc3)
        rw [if_neg (by omega)] at this
        have e : (Addr.add ⟨g3, 0, none⟩ (a * 1)) = ⟨g3, a, none⟩ := by simp [Addr.add]; omega
        rw [Option.map_some] at this
        simp only [Kd.int, Kd.scalar] at this e ⊢
        rw [e] at this
        exact this
      have hS1 : Kd.C (Kd.int .u8) wr (some (ad1.add a)) (seg l1 a m).length (seg l1 a m) := by
        have := Kd.C_mid (lo := a) (hi := a + m) hC1 (by omega) hm2 hc1
        rw [if_neg (by omega), Option.map_some] at this
        simp only [Kd.int, Kd.scalar, Nat.mul_one] at this ⊢
        exact this
      have HEQ := Aside0.mk (fun W (h1 : Kd.C (Kd.int .u8) W (some ⟨g3, a, none⟩) (seg (szL l0 l1.length) a m).length (seg (szL l0 l1.length) a m)) (h2 : Kd.C (Kd.int .u8) W (some (ad1.add a)) (seg l1 a m).length (seg l1 a m)) => by
        have := slices_Equal_byte_byte.calls 10000 (some ⟨g3, a, none⟩) (c3 - a) (seg (szL l0 l1.length) a m) (some (ad1.add a)) (c1 - a) (seg l1 a m) _ W h1 (by omega) h2 (by omega) (equal_f _ _ (by omega) _ (by omega))
        rw [hl3, hl1'] at this
        exact this)
      have HREC := Aside0.mk (fun W (h2 : Kd.C (Kd.int .u8) W (some (ad1.add a)) (seg l1 a m).length (seg l1 a m)) => by
        have := diff_record.calls (a : Int) (some (ad1.add a)) (c1 - a) (seg l1 a m) W h2 (by omega) (by omega)
        rw [hl1'] at this
        exact this)
      have HRO := Aside0.mk (show recOf (a : Int) (seg l1 a m) = ⟨a, m, zeroB (seg l1 a m), (recOf (a : Int) (seg l1 a m)).f3⟩ by unfold recOf; rw [hl1'])
      have HS3 := Aside0.mk hS3
      have HS1 := Aside0.mk hS1
      have q1 : (a : Int) ≤ (a : Int) + m := by omega
      have q2 : (a : Int) + m ≤ c3 := by omega
      have q3 : (a : Int) + m ≤ c1 := by omega
      have q4 : IntKind.i64.wrap ((a : Int) + m) = ((a + m : Nat) : Int) := by rw [IntWalk.i64_in _ (by omega)]; omega
      have q5 : ¬ c3 = a := by omega
      have q7 : a + m - a = m := by omega
      have q6 : ¬ c1 = a := by omega
      have hz2 : wr.cell? ⟨w2.heap.size, 2, none⟩ = some v := (blk_cell BK12.out 2).trans rfl
      have hz2f : wr.frozen? ⟨w2.heap.size, 2, none⟩ = false := blk_frozen BK12.out 2
      have hBK12 := BK12
      clear hWr hC1 hC3 hS3 hS1 hl3 hl1' e3
      go_wp2_with fail
      go_quiet (fail)
      go_wp2_with fail
      refine (yes_calls _ _).mono ?_
      rintro e w4 ⟨rfl, rfl⟩
      go_wp2_with fail
      refine (HEQ.out _ (Kd.C_drewN (Kd.C_alloc HS3.out _) _) (Kd.C_drewN (Kd.C_alloc HS1.out _) _)).mono ?_
      rintro e w4 ⟨rfl, ⟨nd, rfl⟩⟩
      by_cases hE : seg (szL l0 l1.length) a m = seg l1 a m
      · have HX := Aside0.mk hE
        rw [decide_eq_true hE]
        clear hE
        have hi2 := HI.out
        go_wp2
        exact ⟨⟨i + 1, v, by omega, by go_num, ⟨by rw [HSTEP.out, if_pos HX.out, List.append_nil]; exact Kd.S_drewN (Kd.S_alloc HS.out _) _⟩, ⟨(HN.out.alloc _).drewN _⟩, ⟨blk_drewN (blk_alloc BK12.out _) _⟩⟩, by simp [intOf]; omega⟩
      · have HX := Aside0.mk hE
        rw [decide_eq_false hE]
        clear hE
        go_wp2_with fail
        have hBW : Below wr.heap.size wr ((wr.alloc (.cells #[.int .i64 i, .int .i64 0, .int .i64 m, .int .i64 a] 94)).drewN (nq + nd)) := pw_below_drewN (below_alloc (Below.refl wr.heap.size wr) _) _
        have hB15 : ((wr.alloc (.cells #[.int .i64 i, .int .i64 0, .int .i64 m, .int .i64 a] 94)).drewN (nq + nd)).heap[wr.heap.size]? = some (.cells #[.int .i64 i, .int .i64 0, .int .i64 m, .int .i64 a] 94 (0, 0)) := blk_drewN (blk_new wr _) _
        generalize ((wr.alloc (.cells #[.int .i64 i, .int .i64 0, .int .i64 m, .int .i64 a] 94)).drewN (nq + nd)) = W at *
        have BW := Aside0.mk hBW
        have BKW := Aside0.mk (blk_below BK12.out hBW)
        have HSW := Aside0.mk (Kd.S_below HS.out hBW)
        have HSB := Aside0.mk (Kd.S_below (Kd.S_mono (Kd.S_bound HS.out) (ok' := fun k => k < wr.heap.size) (fun _ hk => hk.2.2.1)) hBW)
        have hu3 : W.cell? ⟨wr.heap.size, 3, none⟩ = some (.int .i64 a) := (blk_cell hB15 3).trans rfl
        have hu2 : W.cell? ⟨w2.heap.size, 2, none⟩ = some v := (blk_cell BKW.out 2).trans rfl
        have hws := hBW.size
        have hwr := HN.out.size
        have HCW := Aside0.mk (Kd.C_below HS1.out hBW)
        have HNW := Aside0.mk (HN.out.below_ hBW)
        have HVL := Aside0.mk (Kd.S_lt HS.out)
        clear hBW hB15 hz2 hz2f hx0 hx1 hx2 hx3 q1 q2 q3 q4 q5 q6 q7
        go_region_with ((go_at_call 59; refine (HREC.out _ (Kd.C_drew HCW.out)).mono ?_; rintro e w6 ⟨v6, rfl, ho6, hb6⟩; have hS6 := Kd.S_below (Kd.S_drew HSW.out) hb6; have hS6' := Kd.S_below (Kd.S_drew HSB.out) hb6; have hsz6 : W.heap.size ≤ w6.heap.size := hb6.size; have hBK6 := blk_below (blk_drew BKW.out) hb6; have hN6 := (HNW.out.drew).below_ hb6; have hu6 : w6.cell? ⟨w2.heap.size, 2, none⟩ = some v := (blk_cell hBK6 2).trans rfl; have hu6a : ∀ ob, (w6.alloc ob).cell? ⟨w2.heap.size, 2, none⟩ = some v := (fun ob => (blk_cell (blk_alloc hBK6 ob) 2).trans rfl); obtain ⟨v7, w7, hrun, hs7, hb7, hg7, -⟩ := S_append_run k61 (P := Try.prog) (w0 := w6) (W := w6) w3.heap.size 33 61 33 (.agg #[.int .i64 0, .int .i64 0, .bool false, .slice none 0 0]) 48 Try.underlying33 info61 rfl (by decide) (by omega) v (btwL (szL l0 l1.length) l1 o i) ⟨a, m, zeroB (seg l1 a m), (recOf (a : Int) (seg l1 a m)).f3⟩ [.int .i64 a, .int .i64 m, .bool (zeroB (seg l1 a m)), v6] (fun _ => True) (fun k => wr.heap.size ≤ k) (k61_mkM _ _ _ (⟨a, m, zeroB (seg l1 a m), (recOf (a : Int) (seg l1 a m)).f3⟩ : S61) (Kd.R_lower (Kd.R_mono (Kd.R_bound ho6) (fun k hk => by have := hk.2.1; simp at this; omega)) (by simp; omega))) (fun k hk => ⟨trivial, fun e => by have := HVL.out k e.symm; omega⟩) (fun _ _ => trivial) (Kd.S_mono (Kd.S_bound hS6') (fun k hk => ⟨trivial, by have := hk.1; omega⟩)) (Below.refl _ _) (by omega) (by have := HBL.out; have := HI.out; omega); obtain ⟨A7, c7, rfl⟩ := Kd.S_slice hs7; simp only [List.length_append, List.length_singleton] at hs7 hrun hg7; have hBK7 := blk_grown hBK6 hg7 (Kd.S_ne hS6 hBK6 (by decide)); have hv7 : w7.cell? ⟨w2.heap.size, 2, none⟩ = some v := (blk_cell hBK7 2).trans rfl; have hvf7 : w7.frozen? ⟨w2.heap.size, 2, none⟩ = false := blk_frozen hBK7 2; have HBK7 := Aside0.mk hBK7; have HS7 := Aside0.mk hs7; have HN7 := Aside0.mk (hN6.then_ (Only.of_grown hg7 (S := fun j => v.ownBlock = some j) (fun k hk => hk)) (fun j hj => Or.inr (Kd.S_base hS6 j hj))); clear ho6 hb6 hs7 hb7 hg7 hBK7 hBK6 hN6 hS6'))
        all_goals (
          have hi2 := HI.out
          go_wp2
          exact ⟨⟨i + 1, _, by omega, by go_num, ⟨by rw [HSTEP.out, if_neg HX.out, HRO.out]; exact Kd.S_mono (Kd.S_far (p := ⟨w2.heap.size, 2, none⟩) (Kd.S_mono (Kd.S_bound HS7.out) (ok' := fun k => w3.heap.size ≤ k) (fun _ hk => hk.2.1)) (fun k hk => Nat.ne_of_gt (Nat.lt_of_lt_of_le hw23 hk)) _) (fun _ _ => trivial)⟩, ⟨HN7.out.setCell (.inl rfl) _⟩, ⟨blk_put HBK7.out 2 _ rfl⟩⟩, by simp [intOf]; omega⟩)
    · obtain rfl : i = pcN l1.length o := by omega
      have BK := Aside0.mk (HN.out.same_block BK8.out (by omega))
      have hz0 : wr.cell? ⟨w2.heap.size, 0, none⟩ = some (.int .i64 l0.length) := (blk_cell BK12.out 0).trans rfl
      have hz1 : wr.cell? ⟨w2.heap.size, 1, none⟩ = some (.int .i64 l1.length) := (blk_cell BK12.out 1).trans rfl
      have hz2 : wr.cell? ⟨w2.heap.size, 2, none⟩ = some v := (blk_cell BK12.out 2).trans rfl
      have hy0 : wr.cell? ⟨w.heap.size, 0, none⟩ = some (.int .i64 0) := (blk_cell BK.out 0).trans rfl
      have hy1 : wr.cell? ⟨w.heap.size, 1, none⟩ = some (.int .i64 0) := (blk_cell BK.out 1).trans rfl
      have hy2 : wr.cell? ⟨w.heap.size, 2, none⟩ = some (.slice none 0 0) := (blk_cell BK.out 2).trans rfl
      have hf0 : wr.frozen? ⟨w.heap.size, 0, none⟩ = false := blk_frozen BK.out 0
      have hf1 : wr.frozen? ⟨w.heap.size, 1, none⟩ = false := blk_frozen BK.out 1
      have hf2 : wr.frozen? ⟨w.heap.size, 2, none⟩ = false := blk_frozen BK.out 2
      obtain ⟨A, c, rfl⟩ := Kd.S_slice HS.out
      go_wp2
      refine bodyPost_ret (results_ct rfl _ _ w.heap.size 35 #[.int .i64 l0.length, .int .i64 l1.length, .slice A (btwL (szL l0 l1.length) l1 o (pcN l1.length o)).length c] (0, 0) _ rfl (blk_put (blk_put (blk_put BK.out 0 _ rfl) 1 _ rfl) 2 _ rfl) Try.underlying35 rfl (by kernel_rfl)) rfl ?_
      refine ⟨_, by first | rfl | simp [errW_none], ?_, below_set (below_set (below_set ?_ (Nat.le_refl _)) (Nat.le_refl _)) (Nat.le_refl _)⟩
      · have h1 := Kd.S_mono (Kd.S_bound HS.out) (ok' := fun j => w3.heap.size ≤ j) (fun _ hk => hk.2.1)
        exact Kd.S_mono (Kd.S_lower (Kd.S_far (Kd.S_far (Kd.S_far h1 (fun k hk => by simp; omega) _) (fun k hk => by simp; omega) _) (fun k hk => by simp; omega) _) (by omega)) (fun _ _ => trivial)
      · exact HB3.out.trans (HN.out.below (B := w.heap.size) (fun j hj => by omega) (by omega))
def btwO (old fresh : List Int) (o : Int) : Int × Int × List S61 × Option Int :=
  if szB fresh.length o = true ∧ old.length ≤ 4096 then (old.length, fresh.length, btwL (szL old fresh.length) fresh o.toNat (pcN fresh.length o.toNat), none) else (0, 0, [], some 1)
theorem diff_between.calls (A0 : Option Addr) (c0 : Nat) (l0 : List Int) (A1 : Option Addr) (c1 : Nat) (l1 : List Int) (o : Int) (w : World) (hr0 : Kd.C (Kd.int .u8) w A0 l0.length l0) (hc0 : l0.length ≤ c0) (hr1 : Kd.C (Kd.int .u8) w A1 l1.length l1) (hc1 : l1.length ≤ c1) (hl0 : l0.length ≤ 1000000) (hl1 : l1.length ≤ 1000000) :
    Calls Try.prog 34 #[.slice A0 l0.length c0, .slice A1 l1.length c1, .int .i64 o, .func (.func 35) #[] #[]] w fun e w' => ∃ v : Value, e = .returned (.tuple #[.agg #[.int .i64 (btwO l0 l1 o).1, .int .i64 (btwO l0 l1 o).2.1, v], errW (btwO l0 l1 o).2.2.2]) ∧ Kd.S k61 61 w' w.heap.size (fun _ => True) v (btwO l0 l1 o).2.2.1 ∧ Below w.heap.size w w' := by
  unfold btwO
  by_cases h : szB l1.length o = true ∧ l0.length ≤ 4096
  · rw [if_pos h]
    have hs : 0 ≤ (l1.length : Int) ∧ (l1.length : Int) ≤ 4096 ∧ (o = 16 ∨ o = 32 ∨ o = 64 ∨ o = 128 ∨ o = 256) := by have := h.1; unfold szB at this; simpa using this
    obtain ⟨q, rfl⟩ := Int.eq_ofNat_of_zero_le (show 0 ≤ o by omega)
    exact diff_between.good A0 c0 l0 A1 c1 l1 q w hr0 hc0 hr1 hc1 h.2 (by omega) (by omega)
  · rw [if_neg h]
    refine (diff_between.bad A0 c0 l0 A1 c1 l1 o w hl0 hl1 ?_).mono ?_
    · cases hs : szB l1.length o
      · exact .inl rfl
      · exact .inr ⟨rfl, by have : ¬ l0.length ≤ 4096 := fun h2 => h ⟨hs, h2⟩; omega⟩
    · rintro e w1 ⟨rfl, hb⟩
      exact ⟨_, rfl, Kd.S_nil _ _ _ _ _, hb⟩

end Go.Proofs.Ytdehifinipmmcaa.Hp
