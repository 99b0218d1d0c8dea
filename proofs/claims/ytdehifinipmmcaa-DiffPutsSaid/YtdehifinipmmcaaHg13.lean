/- Contracts of functions of the given program, and what they lean on: written by this session's own program, out of hand texts laid into the kit's printer. -/
import Derived.Deep.DeepMust
import Derived.Deep.QuietTactic
import Derived.BigQuiet
import Derived.Test.YtdehifinipmmcaaHp0
import Derived.Test.YtdehifinipmmcaaHg1
import Derived.Test.YtdehifinipmmcaaHg2
import Derived.Test.YtdehifinipmmcaaHg3
import Derived.Test.YtdehifinipmmcaaHg6
import Derived.Test.YtdehifinipmmcaaHg8
namespace Go.Proofs.Ytdehifinipmmcaa.Hp
open Go.RowKit Go.Proofs.YtdehifinipmmcaaW.PrintWords Go.Proofs.YtdehifinipmmcaaW.PrintLast Go.Proofs.YtdehifinipmmcaaW.PrintMore
attribute [local go_sem] max2_int min2_int max_two min_two max_three min_three max_four min_four   -- for this text's walks alone
set_option linter.unusedVariables false
set_option linter.unusedSimpArgs false

/-! ### laminaref17_Between: function 24 -/
def toR (r : S61) : S65 := ⟨r.f0, r.f1, r.f2, r.f3⟩
theorem str_inj {a b : List Int} (ha : ∀ x ∈ a, 0 ≤ x ∧ x < 256) (hb : ∀ x ∈ b, 0 ≤ x ∧ x < 256) (h : strOfNums a = strOfNums b) : a = b := by
  have hd : ∀ l : List Int, (∀ x ∈ l, 0 ≤ x ∧ x < 256) → (strOfNums l).data.toList.map (fun c : UInt8 => (c.toNat : Int)) = l := by
    intro l hl
    rw [strOfNums_data]
    induction l with
    | nil => rfl
    | cons x l ih =>
      have hx := hl x (List.mem_cons_self ..)
      simp only [List.map_cons]
      rw [ih (fun y hy => hl y (List.mem_cons_of_mem _ hy))]
      congr 1
      rw [UInt8.toNat_ofNat']
      omega
  rw [← hd a ha, ← hd b hb, h]
theorem seg_mem {l : List Int} {a m : Nat} (h : ∀ x ∈ l, 0 ≤ x ∧ x < 256) : ∀ x ∈ seg l a m, 0 ≤ x ∧ x < 256 := fun x hx => h x (List.mem_of_mem_take (List.mem_of_mem_drop hx))
theorem szL_mem {l : List Int} {n : Nat} (h : ∀ x ∈ l, 0 ≤ x ∧ x < 256) : ∀ x ∈ szL l n, 0 ≤ x ∧ x < 256 := fun x hx => by
  unfold szL at hx
  rcases List.mem_append.1 hx with hx | hx
  · exact h x (List.mem_of_mem_take hx)
  · have := List.mem_of_mem_drop hx
    rw [List.eq_of_mem_replicate this]
    omega
theorem sz_set (w : World) (p : Addr) (v : Value) : (w.setCell p v).heap.size = w.heap.size := by simp [World.setCell]
theorem zeroB_snoc (l : List Int) (k : Nat) (h : k < l.length) : zeroB (l.take (k + 1)) = (zeroB (l.take k) && decide (rd l k = 0)) := by
  unfold zeroB
  rw [List.take_succ_eq_append_getElem h, List.any_append]
  simp [rd, h]
theorem resized_go (l : List Int) (n : Nat) (hn : n ≤ 1000000) : ∀ (m i k : Nat), i + m = n → m < k → laminaref17_Resized.l0 k l n (szL l i) i = some (szL l n) := by
  intro m
  induction m with
  | zero =>
    intro i k hi hk
    obtain ⟨k, rfl⟩ : ∃ k', k = k' + 1 := ⟨k - 1, by omega⟩
    rw [laminaref17_Resized.l0, if_neg (by omega), show i = n by omega]
  | succ m ih =>
    intro i k hi hk
    obtain ⟨k, rfl⟩ : ∃ k', k = k' + 1 := ⟨k - 1, by omega⟩
    have e : wrap64 ((i : Int) + 1) = ((i + 1 : Nat) : Int) := by unfold wrap64; omega
    have h := ih (i + 1) k (by omega) (by omega)
    rw [laminaref17_Resized.l0, if_pos (by omega), e]
    by_cases hl : i < l.length
    · rw [if_pos (by omega), if_pos (by omega), if_pos (by rw [szL_len]; omega)]
      have : szL l i ++ [rd l i] = szL l (i + 1) := by
        unfold szL
        rw [show min l.length i = i by omega, show min l.length (i + 1) = i + 1 by omega, List.drop_eq_nil_of_le (by simp), List.drop_eq_nil_of_le (by simp), List.append_nil, List.append_nil, List.take_succ_eq_append_getElem hl]
        simp [rd, hl]
      rw [this]
      exact h
    · rw [if_neg (by omega), if_pos (by rw [szL_len]; omega)]
      have : szL l i ++ [0] = szL l (i + 1) := by
        unfold szL
        rw [show min l.length i = l.length by omega, show min l.length (i + 1) = l.length by omega, List.take_of_length_le (Nat.le_refl _), List.drop_replicate, List.drop_replicate, List.append_assoc, show i + 1 - l.length = (i - l.length) + 1 by omega, List.replicate_succ']
      rw [this]
      exact h
theorem resized_f (l : List Int) (n : Nat) (hn : n ≤ 1000000) (k : Nat) (hk : n < k) : laminaref17_Resized.f k l n = some (szL l n) := by
  unfold laminaref17_Resized.f
  have := resized_go l n hn n 0 k (by omega) hk
  simpa [szL] using this
set_option maxHeartbeats 8000000 in
set_option maxRecDepth 100000 in
theorem laminaref17_Between.good (A0 : Option Addr) (c0 : Nat) (l0 : List Int) (A1 : Option Addr) (c1 : Nat) (l1 : List Int) (o : Nat) (w : World) (hr0 : Kd.C (Kd.int .u8) w A0 l0.length l0) (hc0 : l0.length ≤ c0) (hr1 : Kd.C (Kd.int .u8) w A1 l1.length l1) (hc1 : l1.length ≤ c1) (hl0 : l0.length ≤ 4096) (hl1 : l1.length ≤ 4096) (ho : o = 16 ∨ o = 32 ∨ o = 64 ∨ o = 128 ∨ o = 256) (hb0 : ∀ x ∈ l0, 0 ≤ x ∧ x < 256) (hb1 : ∀ x ∈ l1, 0 ≤ x ∧ x < 256) :
    Calls Try.prog 24 #[.slice A0 l0.length c0, .slice A1 l1.length c1, .int .i64 o, .slice none 0 0, .bool true] w fun e w' => ∃ v : Value, e = .returned (.agg #[.int .i64 l0.length, .int .i64 l1.length, v]) ∧ Kd.S k65 65 w' w.heap.size (fun _ => True) v ((btwL (szL l0 l1.length) l1 o (pcN l1.length o)).map toR) ∧ Below w.heap.size w w' := by
  have HR0 := Aside0.mk hr0
  have HR1 := Aside0.mk (Rk.of_C hr1)
  have HO := Aside0.mk ho
  have HBY := Aside0.mk (And.intro (szL_mem (n := l1.length) hb0) hb1)
  clear hr0 hr1 ho hb0 hb1
  go_enter Try.func24, Try.ntmps24
  go_wp2_with fail
  have hb10 := blk_alloc (blk_new w (.cells #[.int .i64 0, .int .i64 0, .slice none 0 0] 24)) (.cells #[.int .i64 l0.length, .int .i64 l1.length, .slice none 0 0] 24)
  have hb11 := blk_new (w.alloc (.cells #[.int .i64 0, .int .i64 0, .slice none 0 0] 24)) (.cells #[.int .i64 l0.length, .int .i64 l1.length, .slice none 0 0] 24)
  rw [show (w.alloc (.cells #[.int .i64 0, .int .i64 0, .slice none 0 0] 24)).heap.size = w.heap.size + 1 by simp] at hb11
  have hBW := below_alloc (below_alloc (Below.refl w.heap.size w) (.cells #[.int .i64 0, .int .i64 0, .slice none 0 0] 24)) (.cells #[.int .i64 l0.length, .int .i64 l1.length, .slice none 0 0] 24)
  refine (laminaref17_Resized.calls (l1.length + 1) A0 c0 l0 l1.length _ _ (Kd.C_below HR0.out hBW) hc0 (resized_f l0 l1.length (by omega) _ (by omega))).mono ?_
  rintro e w3 ⟨v3, rfl, ho3, hb3⟩
  have BK10 := Aside0.mk (blk_below hb10 hb3)
  have BK11 := Aside0.mk (blk_below hb11 hb3)
  have HB3 := Aside0.mk (below_step hBW hb3)
  have hsz3 := hb3.size
  have HW := Aside0.mk (Kd.R_mono (R_made_in ho3) (ok' := fun j => w.heap.size + 1 < j ∧ j < w3.heap.size) (fun j hj => by simp at hj; omega))
  obtain ⟨A3, c3, rfl, -⟩ := Kd.R_reads ho3
  rw [szL_len] at HW ⊢
  have hR1 := Aside0.mk (HR1.out.only (Only.of_below HB3.out (fun _ => False)) (fun _ _ h => h))
  have hw3 : w.heap.size + 1 < w3.heap.size := by simp at hsz3; omega
  clear ho3 hb3 hb10 hb11 hBW HR0 HR1 hsz3
  go_wp2
  go_loopw [13] (fun v13 wr => ∃ (i : Nat) (v : Value), i ≤ pcN l1.length o ∧ v13 = .int .i64 i ∧ Aside0 (Kd.S k65 65 wr w3.heap.size (fun _ => True) v ((btwL (szL l0 l1.length) l1 o i).map toR)) ∧ Aside0 (Only w3 wr (fun j => j = w.heap.size + 1)) ∧ Aside0 (wr.heap[w.heap.size + 1]? = some (.cells #[.int .i64 l0.length, .int .i64 l1.length, v] 24 (0, 0)))) (fun v13 _ => pcN l1.length o - (intOf v13).toNat)
  case atStart => exact ⟨0, _, by omega, rfl, ⟨Kd.S_nil _ _ _ _ _⟩, ⟨Only.refl _ _⟩, BK11⟩
  case round =>
    clear BK11
    obtain ⟨i, v, hi, rfl, HS, HN, BK11⟩ := hrel
    by_cases hlt : i < pcN l1.length o
    · have hm0 := pcN_lt l1.length o i HO.out hlt
      have HSTEP := Aside0.mk (show btwL (szL l0 l1.length) l1 o (i + 1) = btwL (szL l0 l1.length) l1 o i ++ (if seg (szL l0 l1.length) (i * o) (min o (l1.length - i * o)) = seg l1 (i * o) (min o (l1.length - i * o)) then [] else [recOf (i * o : Nat) (seg l1 (i * o) (min o (l1.length - i * o)))]) from rfl)
      have HBL := Aside0.mk (btwL_len (szL l0 l1.length) l1 o i)
      have HI := Aside0.mk (show i < 256 by have := pcN_le l1.length o hl1 HO.out; omega)
      have hm1 : 1 ≤ min o (l1.length - i * o) ∧ i * o + min o (l1.length - i * o) ≤ l1.length := by have := HO.out; omega
      have hmul : (i : Int) * (o : Int) = ((i * o : Nat) : Int) := by rw [Int.natCast_mul]
      have hom : o ≤ 256 := by have := HO.out; omega
      generalize i * o = a at *
      obtain ⟨hm1, hm2⟩ := hm1
      have hWr := R_only HW.out HN.out (fun j hj e => by omega)
      obtain ⟨g3, cap3, eg, -, -, -⟩ := Kd.R_form hWr (by rw [szL_len]; omega)
      injection eg with eA e3 e4
      subst eA e4
      obtain ⟨-, hc3, hC3⟩ := Kd.R_reads' hWr
      have hC1 := (hR1.out.only HN.out (fun j hj e => by omega)).row
      obtain ⟨ad1, e1, -⟩ := C_cells hC1 (by omega)
      subst e1
      have hM : ∀ m, m = min o (l1.length - a) → (m = o ∧ ¬ (a : Int) + o > l1.length) ∨ (a + m = l1.length ∧ (a : Int) + o > l1.length) := fun m hm => by omega
      generalize min o (l1.length - a) = m at *
      have hM := hM m rfl
      have hl3 := seg_len (szL l0 l1.length) a m (by rw [szL_len]; exact hm2)
      have hl1' := seg_len l1 a m hm2
      have hS3 : Kd.C (Kd.int .u8) wr (some ⟨g3, a, none⟩) (seg (szL l0 l1.length) a m).length (seg (szL l0 l1.length) a m) := by
        have := Kd.C_mid (lo := a) (hi := a + m) hC3 (by omega) (by rw [szL_len]; exact hm2) (by rw [szL_len]; exact hc3)
        rw [if_neg (by omega)] at this
        have e : (Addr.add ⟨g3, 0, none⟩ (a * 1)) = ⟨g3, a, none⟩ := by simp [Addr.add]; omega
        rw [Option.map_some] at this
        simp only [Kd.int, Kd.scalar] at this e ⊢
        rw [e] at this
        exact this
      have hS1 : Kd.C (Kd.int .u8) wr (some (ad1.add a)) (seg l1 a m).length (seg l1 a m) := by
        have := Kd.C_mid (lo := a) (hi := a + m) hC1 (by omega) hm2 hc1
        rw [if_neg (by omega), Option.map_some] at this
        simp only [Kd.int, Kd.scalar, Nat.mul_one] at this ⊢
        exact this
      have HS3 := Aside0.mk hS3
      have HS1 := Aside0.mk hS1
      have q0 : IntKind.i64.wrap (a : Int) = a := IntWalk.i64_in _ (by omega)
      have q1 : IntKind.i64.wrap ((a : Int) + o) = (a : Int) + o := IntWalk.i64_in _ (by omega)
      have q2 : (a : Int) ≤ (a : Int) + m := by omega
      have q3 : (a : Int) + m ≤ c3 := by omega
      have q4 : (a : Int) + m ≤ c1 := by omega
      have q5 : ¬ c3 = a := by omega
      have q6 : ¬ c1 = a := by omega
      have q7 : a + m - a = m := by omega
      have q8 : (a : Int) < l1.length := by omega
      clear hWr hC1 hC3 hS3 hS1 e3
      have hcv3 := fun nd => Kd.C_string (P := Try.prog) (c := c3 - a) Try.underlying25 Try.underlying5 Try.underlying9 (Kd.C_drewN HS3.out nd)
      have hcv1 := fun nd => Kd.C_string (P := Try.prog) (c := c1 - a) Try.underlying25 Try.underlying5 Try.underlying9 (Kd.C_drewN HS1.out nd)
      rw [hl3] at hcv3
      rw [hl1'] at hcv1
      have r1 : (a : Int) ≤ l1.length := by omega
      have r2 : (l1.length : Int) ≤ c1 := by omega
      have r3 : (l1.length : Int) ≤ c3 := by omega
      have HMO := Aside0.mk hM
      have hcase : (l1.length - a = m ∧ (a : Int) + o > l1.length) ∨ (m = o ∧ ¬ (a : Int) + o > l1.length) := by omega
      clear hM
      have HZN := Aside0.mk (show zeroB ((seg l1 a m).take 0) = true from rfl)
      have HZS := Aside0.mk (fun j (hj : j < m) => zeroB_snoc (seg l1 a m) j (by rw [hl1']; exact hj))
      have HZM := Aside0.mk (show (seg l1 a m).take m = seg l1 a m from List.take_of_length_le (by omega))
      by_cases hE : seg (szL l0 l1.length) a m = seg l1 a m
      · have HX := Aside0.mk hE
        rw [hE] at hcv3
        clear hE
        have hi2 := HI.out
        rcases hcase with ⟨r5, h9⟩ | ⟨hmo, h9⟩
        all_goals (
          try subst hmo
          go_wp2
          go_loopw [15, 16] (fun v15 v16 wx => v15 = .bool true ∧ v16 = .int .i64 0 ∧ wx = wr) (fun _ _ _ => 0)
          case atStart => exact ⟨rfl, rfl, rfl⟩
          case round =>
            obtain ⟨rfl, rfl, rfl⟩ := hrel
            go_wp2
            go_quiet (fail)
            go_wp2
            exact ⟨⟨i + 1, v, by omega, by go_num, ⟨by rw [HSTEP.out, if_pos HX.out, List.append_nil]; exact Kd.S_drewN HS.out _⟩, ⟨HN.out.drewN _⟩, ⟨blk_drewN BK11.out _⟩⟩, by simp [intOf]; omega⟩)
      · have HX := Aside0.mk hE
        have hNS : ((strOfNums (seg l1 a m)).toList == (strOfNums (seg (szL l0 l1.length) a m)).toList) = false := by
          rw [beq_eq_false_iff_ne]
          intro h
          rw [ByteArray.toList_eq, ByteArray.toList_eq] at h
          exact hE (str_inj (seg_mem HBY.out.1) (seg_mem HBY.out.2) (Go.WideShapes.bytes_inj h.symm))
        clear hE
        have hi2 := HI.out
        have HL1 := Aside0.mk hl1'
        have HVL := Aside0.mk (Kd.S_lt HS.out)
        have HLEN := Aside0.mk (show ((((btwL (szL l0 l1.length) l1 o i).map toR).length + 1) * 48 ≤ 140737488355328) by rw [List.length_map]; have := HBL.out; omega)
        rcases hcase with ⟨r5, h9⟩ | ⟨hmo, h9⟩
        all_goals (
          try subst hmo
          go_wp2
          go_loopw [15, 16] (fun v15 v16 wx => v15 = .bool true ∧ v16 = .int .i64 0 ∧ wx = wr) (fun _ _ _ => 0)
          case atStart => exact ⟨rfl, rfl, rfl⟩
          case round =>
            obtain ⟨rfl, rfl, rfl⟩ := hrel
            go_wp2
            go_quiet (fail)
            have HSq := Aside0.mk (Kd.S_drewN HS.out nq)
            have HNq := Aside0.mk (HN.out.drewN nq)
            have BKq := Aside0.mk (blk_drewN BK11.out nq)
            have HCq := Aside0.mk (Kd.C_drewN HS1.out nq)
            have HSZ := Aside0.mk (show (wr.drewN nq).heap.size = wr.heap.size by simp)
            clear hcv1 hcv3 q1 q2 q3 q4 q5 q6 q8 r2 r3 hl3
            generalize wr.drewN nq = W at *
            go_wp2
            have HB18 := Aside0.mk (blk_new W (.cells #[.int .i64 a, .int .i64 m, .bool true, .slice none 0 0] 65))
            try simp only [Nat.add_sub_cancel_left]
            go_loopw [19] (fun v19 wr => ∃ j : Nat, j ≤ m ∧ v19 = .int .i64 j ∧ Aside0 (wr.heap[W.heap.size]? = some (.cells #[.int .i64 a, .int .i64 m, .bool (zeroB ((seg l1 a m).take j)), .slice none 0 0] 65 (0, 0))) ∧ Aside0 (Below W.heap.size W wr)) (fun v19 _ => m - (intOf v19).toNat)
            case atStart => exact ⟨0, by omega, rfl, HB18, ⟨below_alloc (Below.refl _ _) _⟩⟩
            case round =>
              clear HB18
              obtain ⟨j, hj, rfl, HB18, HBW⟩ := hrel
              have hz2 : wr.cell? ⟨W.heap.size, 2, none⟩ = some (.bool (zeroB ((seg l1 a m).take j))) := (blk_cell HB18.out 2).trans rfl
              have hf2 : wr.frozen? ⟨W.heap.size, 2, none⟩ = false := blk_frozen HB18.out 2
              by_cases hjm : j < m
              · have hst := HZS.out j hjm
                obtain ⟨ad, e, hx⟩ := Kd.at_int (Kd.C_below HCq.out HBW.out) j (by omega) (by rw [HL1.out]; omega)
                injection e with e
                subst e
                simp only [Int.toNat_natCast] at hx
                have HST := Aside0.mk hst
                have HBS := fun b => Aside0.mk (blk_put HB18.out 2 (.bool b) rfl)
                have HBE := fun b => Aside0.mk (below_set (j := 2) (v := Value.bool b) HBW.out (Nat.le_refl _))
                clear hst
                generalize zeroB ((seg l1 a m).take j) = q at *
                generalize rd (seg l1 a m) (j : Int) = x at *
                cases q
                · go_wp2
                  exact ⟨⟨j + 1, by omega, by go_num, ⟨by have := (HBS false).out; rw [HST.out]; exact this⟩, HBE false⟩, by simp [intOf]; omega⟩
                · by_cases hx0 : x = 0
                  · subst hx0
                    go_wp2
                    exact ⟨⟨j + 1, by omega, by go_num, ⟨by have := (HBS true).out; rw [HST.out]; exact this⟩, HBE true⟩, by simp [intOf]; omega⟩
                  · have hx1 : (x == 0) = false := beq_eq_false_iff_ne.2 hx0
                    have HX0 := Aside0.mk hx0
                    clear hx0
                    go_wp2
                    exact ⟨⟨j + 1, by omega, by go_num, ⟨by have := (HBS false).out; rw [HST.out, decide_eq_false HX0.out]; exact this⟩, HBE false⟩, by simp [intOf]; omega⟩
              · have hjm2 : m = j := by omega
                subst hjm2
                rw [HZM.out] at hz2 HB18
                have hz : W.heap.size < wr.heap.size := blk_lt HB18.out
                have BKw := Aside0.mk (blk_below BKq.out HBW.out)
                have hu2 : wr.cell? ⟨w.heap.size + 1, 2, none⟩ = some v := (blk_cell BKw.out 2).trans rfl
                have hwW : w.heap.size + 1 < W.heap.size := by have := HNq.out.size; omega
                have hSW := Aside0.mk (Kd.S_below (Kd.S_mono (Kd.S_bound HSq.out) (ok' := fun k => w3.heap.size ≤ k ∧ k < W.heap.size) (fun _ hk => ⟨hk.2.1, hk.2.2.1⟩)) HBW.out)
                have hVL : ∀ k, v.ownBlock = some k → k < W.heap.size := Kd.S_lt HSq.out
                have hVB : ∀ k, v.ownBlock = some k → w3.heap.size ≤ k := Kd.S_base HSq.out
                have HVV := Aside0.mk (And.intro hVL hVB)
                clear hVL hVB
                have h33 : w3.heap.size ≤ W.heap.size := HNq.out.size
                have HNw := Aside0.mk (HNq.out.below_ HBW.out)
                have hRO : recOf (a : Int) (seg l1 a m) = ⟨a, m, zeroB (seg l1 a m), if zeroB (seg l1 a m) = true then [] else seg l1 a m⟩ := by unfold recOf; rw [HL1.out]
                have HRO := Aside0.mk hRO
                have hcm := Kd.C_below HCq.out HBW.out
                rw [HL1.out] at hcm
                have HCm := Aside0.mk hcm
                clear hcm
                clear hRO
                cases hq : zeroB (seg l1 a m)
                · have HQ := Aside0.mk hq
                  rw [hq] at hz2 HB18
                  clear hq
                  go_wp2_with (first | ((with_reducible refine gate_builtin (b := .append) (xs := #[.tmp 109, .tmp 110]) rfl ?_); at_builtin; go_must (refine Kd.R_append_rows (Kd.int .u8) (w0 := wr) wr.heap.size rfl (.tmp 109) (.tmp 110) 25 5 (.int .u8 0) 1 rfl Try.underlying25 info5 rfl (by decide) (by omega) _ [] (seg l1 a m) _ _ _ (fun _ => True) (fun _ => False) rfl rfl (R_empty wr wr.heap.size (Nat.le_refl _)) (Kd.C_alloc HCm.out _) (fun _ _ h => h) (fun _ h => h.elim) (fun _ _ => trivial) (below_alloc (Below.refl _ wr) _) (by simp) (by (simp; omega)) ?_); intro v3 w6 ho hb hg hat; clear hg hat; have HO3 := Aside0.mk ho; have HB6 := Aside0.mk hb; have hB18 := blk_below HB18.out hb; have hBKw := blk_below BKw.out hb; have hSWx := Aside0.mk (Kd.S_below hSW.out hb); have HN6 := Aside0.mk (HNw.out.below_ hb); have hz6 := hb.size; clear ho hb; obtain ⟨A6, c6, rfl, -⟩ := Kd.R_reads HO3.out; simp only [List.nil_append] at HO3; rw [HL1.out] at HO3; have hf6 : w6.frozen? ⟨W.heap.size, 3, none⟩ = false := blk_frozen hB18 3; have hg0 : w6.cell? ⟨W.heap.size, 0, none⟩ = some (.int .i64 a) := (blk_cell hB18 0).trans rfl; have hg1 : w6.cell? ⟨W.heap.size, 1, none⟩ = some (.int .i64 m) := (blk_cell hB18 1).trans rfl; have hg2 : w6.cell? ⟨W.heap.size, 2, none⟩ = some (.bool false) := (blk_cell hB18 2).trans rfl; have hg3 : w6.cell? ⟨W.heap.size, 3, none⟩ = some (.slice none 0 0) := (blk_cell hB18 3).trans rfl; have hg4 : w6.cell? ⟨w.heap.size + 1, 2, none⟩ = some v := (blk_cell hBKw 2).trans rfl; have HBK6 := Aside0.mk hB18; have HBKw6 := Aside0.mk hBKw; clear hB18 hBKw) | ((with_reducible refine gate_builtin (b := .append) (xs := #[.tmp 114, .tmp 116]) rfl ?_); at_builtin; go_must (refine Kd.S_append k65 (w0 := w6.setCell ⟨W.heap.size, 3, none⟩ (.slice A6 m c6)) w3.heap.size rfl (.tmp 114) (.tmp 116) 22 65 (.agg #[.int .i64 0, .int .i64 0, .bool false, .slice none 0 0]) 48 rfl Try.underlying22 info65 rfl (by decide) (by omega) v _ ⟨a, m, false, seg l1 a m⟩ [.int .i64 a, .int .i64 m, .bool false, .slice A6 m c6] (fun _ => True) (fun k => wr.heap.size ≤ k) rfl (by rw [sz_set]; rfl) (k65_mkM _ _ _ (⟨a, m, false, seg l1 a m⟩ : S65) (Kd.R_far (Kd.R_lower (Kd.R_mono (Kd.R_bound HO3.out) (fun k hk => hk.2.1)) (Nat.le_trans h33 (Nat.le_of_lt hz))) (fun k hk => Nat.ne_of_gt (Nat.lt_of_lt_of_le hz hk)) _)) (fun k hk => ⟨trivial, fun e => Nat.lt_irrefl _ (Nat.lt_of_lt_of_le (Nat.lt_trans (HVV.out.1 k e.symm) hz) hk)⟩) (fun _ _ => trivial) (Kd.S_mono (Kd.S_far hSWx.out (p := ⟨W.heap.size, 3, none⟩) (fun k hk => Nat.ne_of_lt hk.2) _) (fun k hk => ⟨trivial, Nat.not_le.2 (Nat.lt_trans hk.2 hz)⟩)) (Below.refl _ _) (by simp; omega) HLEN.out ?_); intro v7 w7 hs7 hb7 hg7 hat7; obtain ⟨A7, c7, rfl⟩ := Kd.S_slice hs7; simp only [List.length_append, List.length_map, List.length_singleton] at hs7 hg7; have HS7 := Aside0.mk hs7; have HG7 := Aside0.mk hg7; have hb7' := blk_grown (blk_far HBKw6.out (p := ⟨W.heap.size, 3, none⟩) (by simp; omega) (.slice A6 m c6)) hg7 (fun e => by have := HVV.out.2 _ e.symm; omega); have hv7 : w7.cell? ⟨w.heap.size + 1, 2, none⟩ = some v := (blk_cell hb7' 2).trans rfl; have hvf7 : w7.frozen? ⟨w.heap.size + 1, 2, none⟩ = false := blk_frozen hb7' 2; have HBK7 := Aside0.mk hb7'; clear hs7 hb7 hg7 hat7 hb7'))
                  refine ⟨⟨i + 1, _, by omega, by go_num, ⟨?_⟩, ⟨?_⟩, ⟨blk_put HBK7.out 2 _ rfl⟩⟩, by simp [intOf]; omega⟩
                  · rw [HSTEP.out, if_neg HX.out, List.map_append, HRO.out, HQ.out]
                    exact Kd.S_mono (Kd.S_far (p := ⟨w.heap.size + 1, 2, none⟩) (Kd.S_mono (Kd.S_bound HS7.out) (ok' := fun k => w3.heap.size ≤ k) (fun _ hk => hk.2.1)) (fun k hk => by show k ≠ w.heap.size + 1; omega) _) (fun _ _ => trivial)
                  · exact ((HN6.out.setCell (p := ⟨W.heap.size, 3, none⟩) (.inr h33) (.slice A6 m c6)).then_ (Only.of_grown HG7.out (S := fun j => v.ownBlock = some j) (fun k hk => hk)) (fun j hj => Or.inr (HVV.out.2 j hj))).setCell (.inl rfl) _
                · have HQ := Aside0.mk hq
                  rw [hq] at hz2 HB18
                  clear hq
                  have hg0 : wr.cell? ⟨W.heap.size, 0, none⟩ = some (.int .i64 a) := (blk_cell HB18.out 0).trans rfl
                  have hg1 : wr.cell? ⟨W.heap.size, 1, none⟩ = some (.int .i64 m) := (blk_cell HB18.out 1).trans rfl
                  have hg3 : wr.cell? ⟨W.heap.size, 3, none⟩ = some (.slice none 0 0) := (blk_cell HB18.out 3).trans rfl
                  go_wp2_with (((with_reducible refine gate_builtin (b := .append) (xs := #[.tmp 114, .tmp 116]) rfl ?_); at_builtin; go_must (refine Kd.S_append k65 (w0 := wr) w3.heap.size rfl (.tmp 114) (.tmp 116) 22 65 (.agg #[.int .i64 0, .int .i64 0, .bool false, .slice none 0 0]) 48 rfl Try.underlying22 info65 rfl (by decide) (by omega) v _ ⟨a, m, true, []⟩ [.int .i64 a, .int .i64 m, .bool true, .slice none 0 0] (fun _ => True) (fun _ => False) rfl rfl (k65_mkM _ _ _ (⟨a, m, true, []⟩ : S65) (Kd.R_nil _ _ _ _ _)) (fun _ h => h.elim) (fun _ _ => trivial) (Kd.S_mono hSW.out (fun _ _ => ⟨trivial, id⟩)) (Below.refl _ _) (by omega) HLEN.out ?_); intro v7 w7 hs7 hb7 hg7 hat7; obtain ⟨A7, c7, rfl⟩ := Kd.S_slice hs7; simp only [List.length_append, List.length_map, List.length_singleton] at hs7 hg7; have HS7 := Aside0.mk hs7; have HG7 := Aside0.mk hg7; have hb7' := blk_grown BKw.out hg7 (fun e => by have := HVV.out.2 _ e.symm; omega); have hv7 : w7.cell? ⟨w.heap.size + 1, 2, none⟩ = some v := (blk_cell hb7' 2).trans rfl; have hvf7 : w7.frozen? ⟨w.heap.size + 1, 2, none⟩ = false := blk_frozen hb7' 2; have HBK7 := Aside0.mk hb7'; clear hs7 hb7 hg7 hat7 hb7'))
                  refine ⟨⟨i + 1, _, by omega, by go_num, ⟨?_⟩, ⟨?_⟩, ⟨blk_put HBK7.out 2 _ rfl⟩⟩, by simp [intOf]; omega⟩
                  · rw [HSTEP.out, if_neg HX.out, List.map_append, HRO.out, HQ.out]
                    exact Kd.S_mono (Kd.S_far (p := ⟨w.heap.size + 1, 2, none⟩) (Kd.S_mono (Kd.S_bound HS7.out) (ok' := fun k => w3.heap.size ≤ k) (fun _ hk => hk.2.1)) (fun k hk => by show k ≠ w.heap.size + 1; omega) _) (fun _ _ => trivial)
                  · exact (HNw.out.then_ (Only.of_grown HG7.out (S := fun j => v.ownBlock = some j) (fun k hk => hk)) (fun j hj => Or.inr (HVV.out.2 j hj))).setCell (.inl rfl) _)
    · obtain rfl : i = pcN l1.length o := by omega
      have h0 : ¬ ((pcN l1.length o : Int) * o < l1.length) := by
        have := HO.out
        have h3 : l1.length ≤ pcN l1.length o * o := by unfold pcN; rcases this with rfl | rfl | rfl | rfl | rfl <;> omega
        rw [← Int.natCast_mul]
        omega
      have BK := Aside0.mk (HN.out.same_block BK10.out (by omega))
      have hz0 : wr.cell? ⟨w.heap.size + 1, 0, none⟩ = some (.int .i64 l0.length) := (blk_cell BK11.out 0).trans rfl
      have hz1 : wr.cell? ⟨w.heap.size + 1, 1, none⟩ = some (.int .i64 l1.length) := (blk_cell BK11.out 1).trans rfl
      have hz2 : wr.cell? ⟨w.heap.size + 1, 2, none⟩ = some v := (blk_cell BK11.out 2).trans rfl
      have hy0 : wr.cell? ⟨w.heap.size, 0, none⟩ = some (.int .i64 0) := (blk_cell BK.out 0).trans rfl
      have hy1 : wr.cell? ⟨w.heap.size, 1, none⟩ = some (.int .i64 0) := (blk_cell BK.out 1).trans rfl
      have hy2 : wr.cell? ⟨w.heap.size, 2, none⟩ = some (.slice none 0 0) := (blk_cell BK.out 2).trans rfl
      have hf0 : wr.frozen? ⟨w.heap.size, 0, none⟩ = false := blk_frozen BK.out 0
      have hf1 : wr.frozen? ⟨w.heap.size, 1, none⟩ = false := blk_frozen BK.out 1
      have hf2 : wr.frozen? ⟨w.heap.size, 2, none⟩ = false := blk_frozen BK.out 2
      have hwr : IntKind.i64.wrap ((pcN l1.length o : Int) * o) = (pcN l1.length o : Int) * o := by
        have := HO.out
        have h3 : pcN l1.length o * o ≤ 1000000 := by unfold pcN; rcases this with rfl | rfl | rfl | rfl | rfl <;> omega
        rw [← Int.natCast_mul]
        exact IntWalk.i64_in _ (by omega)
      obtain ⟨A, c, rfl⟩ := Kd.S_slice HS.out
      rw [List.length_map] at HS hz2 BK11
      go_wp2
      refine bodyPost_ret (results_cell_row rfl _ _ w.heap.size 24 #[.int .i64 l0.length, .int .i64 l1.length, .slice A (btwL (szL l0 l1.length) l1 o (pcN l1.length o)).length c] (0, 0) _ rfl (blk_put (blk_put (blk_put BK.out 0 _ rfl) 1 _ rfl) 2 _ rfl) Try.underlying24 rfl (by kernel_rfl)) rfl ?_
      refine ⟨_, rfl, ?_, below_set (below_set (below_set ?_ (Nat.le_refl _)) (Nat.le_refl _)) (Nat.le_refl _)⟩
      · have h1 := Kd.S_mono (Kd.S_bound HS.out) (ok' := fun j => w3.heap.size ≤ j) (fun _ hk => hk.2.1)
        exact Kd.S_mono (Kd.S_lower (Kd.S_far (Kd.S_far (Kd.S_far h1 (fun k hk => by simp; omega) _) (fun k hk => by simp; omega) _) (fun k hk => by simp; omega) _) (by omega)) (fun _ _ => trivial)
      · exact HB3.out.trans (HN.out.below (B := w.heap.size) (fun j hj => by omega) (by omega))

end Go.Proofs.Ytdehifinipmmcaa.Hp
