/- Contracts of functions of the given program, and what they lean on: written by this session's own program, out of hand texts laid into the kit's printer. -/
import Derived.Deep.DeepMust
import Derived.Test.YtdehifinipmmcaaHp0
import Derived.Test.YtdehifinipmmcaaHg1
import Derived.Test.YtdehifinipmmcaaHg6
import Derived.Test.YtdehifinipmmcaaHg7
import Derived.Test.YtdehifinipmmcaaHg10
import Derived.Test.YtdehifinipmmcaaHg11
namespace Go.Proofs.Ytdehifinipmmcaa.Hp
open Go.RowKit Go.Proofs.YtdehifinipmmcaaW.PrintWords Go.Proofs.YtdehifinipmmcaaW.PrintLast Go.Proofs.YtdehifinipmmcaaW.PrintMore
attribute [local go_sem] max2_int min2_int max_two min_two max_three min_three max_four min_four   -- for this text's walks alone
set_option linter.unusedVariables false
set_option linter.unusedSimpArgs false

/-! ### laminaref17_Put: function 29 -/
def ttC : Array Value := #[.int .u8 108, .int .u8 97, .int .u8 109, .int .u8 105, .int .u8 110, .int .u8 97, .int .u8 32, .int .u8 100, .int .u8 105, .int .u8 102, .int .u8 102, .int .u8 32, .int .u8 49]
theorem title_C (W : World) : Kd.C (Kd.int .u8) (W.alloc (.cells ttC 5 (13, 14))) (some ⟨W.heap.size, 0, none⟩) ttL.length ttL :=
  C_block (Kd.int .u8) rfl (heap_alloc_new W _) ttL (by decide) (fun j x hj => by
    have hl : j < 13 := by
      rcases Nat.lt_or_ge j 13 with h | h
      · exact h
      · rw [List.getElem?_eq_none (by simpa [ttL] using h)] at hj; cases hj
    refine ⟨.int .u8 x, ?_, rfl⟩
    obtain rfl | rfl | rfl | rfl | rfl | rfl | rfl | rfl | rfl | rfl | rfl | rfl | rfl : j = 0 ∨ j = 1 ∨ j = 2 ∨ j = 3 ∨ j = 4 ∨ j = 5 ∨ j = 6 ∨ j = 7 ∨ j = 8 ∨ j = 9 ∨ j = 10 ∨ j = 11 ∨ j = 12 := by omega
    all_goals (simp [ttL] at hj; subst hj; rfl))
set_option maxRecDepth 100000 in
set_option maxHeartbeats 8000000 in
theorem laminaref17_Put.calls (F T : Int) (A2 : Option Addr) (c2 : Nat) (l2 : List S65) (w : World) (hr2 : Kd.C k65 w A2 l2.length l2) (hc2 : l2.length ≤ c2) (hl2 : l2.length ≤ 5000) (hd : ∀ r ∈ l2, r.f3.length ≤ 1000000) :
    Calls Try.prog 29 #[.agg #[.int .i64 F, .int .i64 T, .slice A2 l2.length c2]] w fun e w' => ∃ v : Value, e = .returned v ∧ Kd.R (Kd.int .u8) 5 w' w.heap.size (fun _ => True) v (putL F T (l2.map toP)) ∧ Below w.heap.size w w' := by
  have HR2 := Aside0.mk hr2
  have HD := Aside0.mk hd
  clear hr2 hd
  have kc2 := const_bytes2
  go_enter Try.func29, Try.ntmps29
  go_wp2_with fail
  have HK1 := Aside0.mk (blk_new w (.cells #[.int .i64 F, .int .i64 T, .slice A2 l2.length c2] 24))
  have HBw := Aside0.mk (below_alloc (Below.refl w.heap.size w) (.cells #[.int .i64 F, .int .i64 T, .slice A2 l2.length c2] 24))
  have hw1 : w.heap.size < (w.alloc (.cells #[.int .i64 F, .int .i64 T, .slice A2 l2.length c2] 24)).heap.size := by simp
  have hs1 : (w.alloc (.cells #[.int .i64 F, .int .i64 T, .slice A2 l2.length c2] 24)).heap.size = w.heap.size + 1 := by simp
  rw [← hs1]
  clear hs1 kc2
  generalize hW : w.alloc (.cells #[.int .i64 F, .int .i64 T, .slice A2 l2.length c2] 24) = w1 at *
  clear hW
  refine (laminaref03_Bytes.calls 9 (some ⟨w1.heap.size, 0, none⟩) 13 ttL (numL ttL.length ++ ttL) _ (title_C w1) (by decide) (rbytes_f ttL (by decide) 9 (by omega))).mono ?_
  rintro e w2 ⟨v2, rfl, ho, hb⟩
  obtain ⟨A2', c2', rfl, -⟩ := Kd.R_reads ho
  have HX2 := Aside0.mk (show Kd.R (Kd.int .u8) 5 w2 w1.heap.size (fun _ => True) (.slice A2' (numL ttL.length ++ ttL).length c2') titleL from Kd.R_lower ho (by simp))
  have HB2 := Aside0.mk (show Below w1.heap.size w1 w2 from (below_alloc (Below.refl w1.heap.size w1) _).trans (hb.mono (by simp)))
  clear ho hb
  have hz0 : w2.cell? ⟨w.heap.size, 0, none⟩ = some (.int .i64 F) := (blk_cell (blk_below HK1.out HB2.out) 0).trans rfl
  go_wp2_with fail
  refine (laminaref03_Num.calls 9 (F) _ _ (rnum_f (F) 9 (by omega))).mono ?_
  rintro e y2 ⟨u2, rfl, hn2, hbn2⟩
  obtain ⟨M2, m2, rfl, -⟩ := Kd.R_reads hn2
  have HN2 := Aside0.mk (Kd.R_reads' hn2).2.2
  have HY2 := Aside0.mk (Kd.R_below HX2.out hbn2)
  have HC2 := Aside0.mk (below_step HB2.out hbn2)
  clear hn2 hbn2 HX2 HB2
  rw [numL_len] at HN2 ⊢
  clear hz0
  go_wp2_with (((with_reducible refine gate_builtin (b := .append) (xs := #[.tmp 9, .tmp 12]) rfl ?_); at_builtin; go_must (refine Kd.R_append_rows (Kd.int .u8) (w0 := w1) w1.heap.size rfl (.tmp 9) (.tmp 12) 25 5 (.int .u8 0) 1 rfl Try.underlying25 info5 rfl (by decide) (by omega) _ titleL (numL F) _ _ _ (fun _ => True) (fun _ => False) rfl rfl (HY2.out) (HN2.out) (fun _ _ h => h) (fun _ h => h.elim) (fun _ _ => trivial) (HC2.out) (by exact HC2.out.size) (by (simp [titleL, numL_len])) ?_); intro v3 w3 ho hb hg hat; clear hat; obtain ⟨A3, c3, rfl, -⟩ := Kd.R_reads ho; have HX3 := Aside0.mk ho; have HB3 := Aside0.mk hb; have hz1 : w3.cell? ⟨w.heap.size, 1, none⟩ = some (.int .i64 T) := (blk_cell (blk_below HK1.out HB3.out) 1).trans rfl; clear ho hb hg))
  go_wp2_with fail
  refine (laminaref03_Num.calls 9 (T) _ _ (rnum_f (T) 9 (by omega))).mono ?_
  rintro e y3 ⟨u3, rfl, hn3, hbn3⟩
  obtain ⟨M3, m3, rfl, -⟩ := Kd.R_reads hn3
  have HN3 := Aside0.mk (Kd.R_reads' hn3).2.2
  have HY3 := Aside0.mk (Kd.R_below HX3.out hbn3)
  have HC3 := Aside0.mk (below_step HB3.out hbn3)
  clear hn3 hbn3 HX3 HB3
  rw [numL_len] at HN3 ⊢
  clear hz1
  go_wp2_with (((with_reducible refine gate_builtin (b := .append) (xs := #[.tmp 14, .tmp 17]) rfl ?_); at_builtin; go_must (refine Kd.R_append_rows (Kd.int .u8) (w0 := w1) w1.heap.size rfl (.tmp 14) (.tmp 17) 25 5 (.int .u8 0) 1 rfl Try.underlying25 info5 rfl (by decide) (by omega) _ (titleL ++ numL F) (numL T) _ _ _ (fun _ => True) (fun _ => False) rfl rfl (HY3.out) (HN3.out) (fun _ _ h => h) (fun _ h => h.elim) (fun _ _ => trivial) (HC3.out) (by exact HC3.out.size) (by (simp [titleL, numL_len])) ?_); intro v4 w4 ho hb hg hat; clear hat; obtain ⟨A4, c4, rfl, -⟩ := Kd.R_reads ho; have HX4 := Aside0.mk ho; have HB4 := Aside0.mk hb; have hz2 : w4.cell? ⟨w.heap.size, 2, none⟩ = some (.slice A2 l2.length c2) := (blk_cell (blk_below HK1.out HB4.out) 2).trans rfl; clear ho hb hg))
  go_wp2_with fail
  refine (laminaref03_Num.calls 9 ((l2.length : Int)) _ _ (rnum_f ((l2.length : Int)) 9 (by omega))).mono ?_
  rintro e y4 ⟨u4, rfl, hn4, hbn4⟩
  obtain ⟨M4, m4, rfl, -⟩ := Kd.R_reads hn4
  have HN4 := Aside0.mk (Kd.R_reads' hn4).2.2
  have HY4 := Aside0.mk (Kd.R_below HX4.out hbn4)
  have HC4 := Aside0.mk (below_step HB4.out hbn4)
  clear hn4 hbn4 HX4 HB4
  rw [numL_len] at HN4 ⊢
  clear hz2
  go_wp2_with (((with_reducible refine gate_builtin (b := .append) (xs := #[.tmp 19, .tmp 23]) rfl ?_); at_builtin; go_must (refine Kd.R_append_rows (Kd.int .u8) (w0 := w1) w1.heap.size rfl (.tmp 19) (.tmp 23) 25 5 (.int .u8 0) 1 rfl Try.underlying25 info5 rfl (by decide) (by omega) _ (titleL ++ numL F ++ numL T) (numL (l2.length : Int)) _ _ _ (fun _ => True) (fun _ => False) rfl rfl (HY4.out) (HN4.out) (fun _ _ h => h) (fun _ h => h.elim) (fun _ _ => trivial) (HC4.out) (by exact HC4.out.size) (by (simp [titleL, numL_len])) ?_); intro v5 w5 ho hb hg hat; clear hat; obtain ⟨A5, c5, rfl, -⟩ := Kd.R_reads ho; have HX5 := Aside0.mk ho; have HB5 := Aside0.mk hb;  clear ho hb hg))
  have HHL := Aside0.mk (headL_len F T l2.length)
  go_loopw [3, 4] (fun v3 v4 wr => ∃ (i : Nat), i ≤ l2.length ∧ v4 = .int .i64 i ∧ Aside0 (Kd.R (Kd.int .u8) 5 wr w1.heap.size (fun _ => True) v3 (headL F T l2.length ++ ((l2.take i).map toP).flatMap recL)) ∧ Aside0 (Below w1.heap.size w1 wr) ∧ Aside0 ((((l2.take i).map toP).flatMap recL).length ≤ 1000100 * i)) (fun _ v4 _ => l2.length - (intOf v4).toNat)
  case atStart => exact ⟨0, by omega, rfl, ⟨by simpa [headL] using HX5.out⟩, HB5, ⟨by simp⟩⟩
  case round =>
    clear HX5 HB5
    obtain ⟨i, hi, rfl, HX, HB6, HLN⟩ := hrel
    obtain ⟨A6, c6, rfl, -⟩ := Kd.R_reads HX.out
    have hz2 : wr.cell? ⟨w.heap.size, 2, none⟩ = some (.slice A2 l2.length c2) := (blk_cell (blk_below HK1.out HB6.out) 2).trans rfl
    have hz2a : ∀ ob, (wr.alloc ob).cell? ⟨w.heap.size, 2, none⟩ = some (.slice A2 l2.length c2) := fun ob => Lib.cell?_alloc_some ob hz2
    by_cases hlt : i < l2.length
    · obtain ⟨ad, A3, c3, e, hx0, hx1, hx2, hx3, hl3, hC3⟩ := at_T65 HR2.out i (by omega) (by omega)
      subst e
      have HBW := Aside0.mk (below_step HBw.out HB6.out)
      have HDD := Aside0.mk (HD.out (rd_T65 l2 i) (by simp [rd_T65, hlt]))
      have HTK := Aside0.mk (show ((l2.take (i + 1)).map toP).flatMap recL = ((l2.take i).map toP).flatMap recL ++ recL (toP (rd_T65 l2 i)) by rw [List.take_succ_eq_append_getElem hlt, List.map_append, List.flatMap_append]; simp [rd_T65, hlt])
      have hx0 := below_cell_ HBW.out hx0
      have hx1 := below_cell_ HBW.out hx1
      have hx2 := below_cell_ HBW.out hx2
      have hx3 := below_cell_ HBW.out hx3
      have HCd := Aside0.mk hC3
      clear hC3
      simp only [Int.toNat_natCast] at hx0 hx1 hx2 hx3
      generalize rd_T65 l2 i = r at *
      obtain ⟨r0, r1, z, d⟩ := r
      have hd := HDD.out
      simp only at hd hx0 hx1 hx2 hx3 hl3
      have HCd : Aside0 (Kd.C (Kd.int .u8) w A3 d.length d) := HCd
      have hi2 : i < 5000 := by omega
      have HTT := Aside0.mk (show headL F T l2.length ++ ((l2.take (i + 1)).map toP).flatMap recL = (headL F T l2.length ++ ((l2.take i).map toP).flatMap recL) ++ recL ⟨r0, r1, z, d⟩ by rw [HTK.out, List.append_assoc]; rfl)
      have HREC := Aside0.mk (show recL ⟨r0, r1, z, d⟩ = numL r0 ++ (numL r1 ++ ([if z = true then 1 else 0] ++ if z = true then [] else numL d.length ++ d)) from rfl)
      have HRL := Aside0.mk (show (recL ⟨r0, r1, z, d⟩).length ≤ 1000100 by rw [HREC.out]; cases z <;> simp [numL_len]; omega)
      have HLN2 := Aside0.mk (show (((l2.take (i + 1)).map toP).flatMap recL).length ≤ 1000100 * (i + 1) by rw [HTK.out, List.length_append]; have := HLN.out; have := HRL.out; show _ + (recL ⟨r0, r1, z, d⟩).length ≤ _; omega)
      have hH : (headL F T l2.length ++ ((l2.take i).map toP).flatMap recL).length ≤ 6000000000 := by rw [List.length_append, HHL.out]; have := HLN.out; omega
      clear HTK HRL HDD hi2
      generalize headL F T l2.length ++ ((l2.take i).map toP).flatMap recL = H at *
      generalize recL ⟨r0, r1, z, d⟩ = RL at *
      go_wp2_with fail
      have hKX := Aside0.mk (blk_new wr (.cells #[.int .i64 r0, .int .i64 r1, .bool z, .slice A3 d.length c3] 65))
      have HX6 := Aside0.mk (Kd.R_alloc HX.out (.cells #[.int .i64 r0, .int .i64 r1, .bool z, .slice A3 d.length c3] 65))
      have HB6 := Aside0.mk (below_alloc HB6.out (.cells #[.int .i64 r0, .int .i64 r1, .bool z, .slice A3 d.length c3] 65))
      clear HX HBW hz2 hz2a hx0 hx1 hx2 hx3
      generalize hW : wr.alloc (.cells #[.int .i64 r0, .int .i64 r1, .bool z, .slice A3 d.length c3] 65) = w6 at *
      clear hW
      generalize wr.heap.size = X at *
      go_wp2_with fail
      refine (laminaref03_Num.calls 9 (r0) _ _ (rnum_f (r0) 9 (by omega))).mono ?_
      rintro e y6 ⟨u6, rfl, hn6, hbn6⟩
      obtain ⟨M6, m6, rfl, -⟩ := Kd.R_reads hn6
      have HN6 := Aside0.mk (Kd.R_reads' hn6).2.2
      have HY6 := Aside0.mk (Kd.R_below HX6.out hbn6)
      have HC6 := Aside0.mk (below_step HB6.out hbn6)
      have HKY6 := Aside0.mk (blk_below hKX.out hbn6)
      clear hn6 hbn6 HX6 HB6
      rw [numL_len] at HN6 ⊢
      go_wp2_with (((with_reducible refine gate_builtin (b := .append) (xs := #[.tmp 37, .tmp 40]) rfl ?_); at_builtin; go_must (refine Kd.R_append_rows (Kd.int .u8) (w0 := w1) w1.heap.size rfl (.tmp 37) (.tmp 40) 25 5 (.int .u8 0) 1 rfl Try.underlying25 info5 rfl (by decide) (by omega) _ H (numL r0) _ _ _ (fun _ => True) (fun _ => False) rfl rfl (HY6.out) (HN6.out) (fun _ _ h => h) (fun _ h => h.elim) (fun _ _ => trivial) (HC6.out) (by exact HC6.out.size) (by (simp [numL_len]; omega)) ?_); intro v7 w7 ho hb hg hat; clear hat; obtain ⟨A7, c7, rfl, -⟩ := Kd.R_reads ho; have HX7 := Aside0.mk ho; have HB7 := Aside0.mk hb; have HKX7 := Aside0.mk (blk_grown HKY6.out hg (Kd.R_ne HY6.out HKY6.out (by decide))); have hlL7 : (H ++ numL r0).length ≤ 6000000010 := (by rw [List.length_append, numL_len]; omega); generalize hqL7 : H ++ numL r0 = L7 at *; have HQL7 := Aside0.mk hqL7; clear hqL7; have hz1 : w7.cell? ⟨X, 1, none⟩ = some (.int .i64 r1) := (blk_cell HKX7.out 1).trans rfl; clear ho hb hg))
      go_wp2_with fail
      refine (laminaref03_Num.calls 9 (r1) _ _ (rnum_f (r1) 9 (by omega))).mono ?_
      rintro e y7 ⟨u7, rfl, hn7, hbn7⟩
      obtain ⟨M7, m7, rfl, -⟩ := Kd.R_reads hn7
      have HN7 := Aside0.mk (Kd.R_reads' hn7).2.2
      have HY7 := Aside0.mk (Kd.R_below HX7.out hbn7)
      have HC7 := Aside0.mk (below_step HB7.out hbn7)
      have HKY7 := Aside0.mk (blk_below HKX7.out hbn7)
      clear hn7 hbn7 HX7 HB7
      rw [numL_len] at HN7 ⊢
      clear hz1
      cases z
      · go_wp2_with (first | ((with_reducible refine gate_builtin (b := .append) (xs := #[.tmp 42, .tmp 45]) rfl ?_); at_builtin; go_must (refine Kd.R_append_rows (Kd.int .u8) (w0 := w1) w1.heap.size rfl (.tmp 42) (.tmp 45) 25 5 (.int .u8 0) 1 rfl Try.underlying25 info5 rfl (by decide) (by omega) _ L7 (numL r1) _ _ _ (fun _ => True) (fun _ => False) rfl rfl (HY7.out) (HN7.out) (fun _ _ h => h) (fun _ h => h.elim) (fun _ _ => trivial) (HC7.out) (by exact HC7.out.size) (by (simp [numL_len]; omega)) ?_); intro v8 w8 ho hb hg hat; clear hat; obtain ⟨A8, c8, rfl, -⟩ := Kd.R_reads ho; have HX8 := Aside0.mk ho; have HB8 := Aside0.mk hb; have HKX8 := Aside0.mk (blk_grown HKY7.out hg (Kd.R_ne HY7.out HKY7.out (by decide))); have hlL8 : (L7 ++ numL r1).length ≤ 6000000020 := (by rw [List.length_append, numL_len]; omega); generalize hqL8 : L7 ++ numL r1 = L8 at *; have HQL8 := Aside0.mk hqL8; clear hqL8; have hz2 : w8.cell? ⟨X, 2, none⟩ = some (.bool false) := (blk_cell HKX8.out 2).trans rfl; have hz3 : w8.cell? ⟨X, 3, none⟩ = some (.slice A3 d.length c3) := (blk_cell HKX8.out 3).trans rfl; clear ho hb hg) | ((with_reducible refine gate_builtin (b := .append) (xs := #[.tmp 52, .tmp 53]) rfl ?_); at_builtin; go_must (refine Kd.R_append (Kd.int .u8) (w0 := w1) w1.heap.size rfl (.tmp 52) (.tmp 53) 25 5 (.int .u8 0) 1 rfl Try.underlying25 info5 rfl (by decide) (by omega) _ L8 0 [.int .u8 0] (fun _ => True) (fun _ => False) rfl rfl rfl (fun _ h => h.elim) (fun _ _ => trivial) (HX8.out) (HB8.out) (HB8.out.size) ((by simp [numL_len]; omega)) ?_); intro v9 w9 ho hb hg hat; clear hat; obtain ⟨A9, c9, rfl, -⟩ := Kd.R_reads ho; have HX9 := Aside0.mk ho; have HB9 := Aside0.mk hb;  have hlL9 : (L8 ++ [0]).length ≤ 6000000030 := (by rw [List.length_append]; simp; omega); generalize hqL9 : L8 ++ [0] = L9 at *; have HQL9 := Aside0.mk hqL9; clear hqL9;have HKX9 := Aside0.mk (blk_grown HKX8.out hg (Kd.R_ne HX8.out HKX8.out (by decide))); have hq3 : w9.cell? ⟨X, 3, none⟩ = some (.slice A3 d.length c3) := (blk_cell HKX9.out 3).trans rfl; clear ho hb hg))
        refine (laminaref03_Bytes.calls 9 A3 c3 d (numL d.length ++ d) _ (Kd.C_below HCd.out (below_step HBw.out HB9.out)) hl3 (rbytes_f d (by omega) 9 (by omega))).mono ?_
        rintro e y9 ⟨u9, rfl, hn9, hbn9⟩
        obtain ⟨M9, m9, rfl, -⟩ := Kd.R_reads hn9
        have HN9 := Aside0.mk (Kd.R_reads' hn9).2.2
        have HY9 := Aside0.mk (Kd.R_below HX9.out hbn9)
        have HC9 := Aside0.mk (below_step HB9.out hbn9)
        clear hn9 hbn9
        have hnb : (numL (d.length : Int) ++ d).length ≤ 1000100 := by rw [List.length_append, numL_len]; omega
        have HREC := Aside0.mk HREC.out
        generalize hqB : numL (d.length : Int) ++ d = NB at *
        clear hqB
        go_wp2_with (((with_reducible refine gate_builtin (b := .append) (xs := #[.tmp 55, .tmp 58]) rfl ?_); at_builtin; go_must (refine Kd.R_append_rows (Kd.int .u8) (w0 := w1) w1.heap.size rfl (.tmp 55) (.tmp 58) 25 5 (.int .u8 0) 1 rfl Try.underlying25 info5 rfl (by decide) (by omega) _ L9 NB _ _ _ (fun _ => True) (fun _ => False) rfl rfl (HY9.out) (HN9.out) (fun _ _ h => h) (fun _ h => h.elim) (fun _ _ => trivial) (HC9.out) (by exact HC9.out.size) (by (omega)) ?_); intro v10 w10 ho hb hg hat; clear hat; obtain ⟨A10, c10, rfl, -⟩ := Kd.R_reads ho; have HX10 := Aside0.mk ho; have HB10 := Aside0.mk hb;  clear ho hb hg))
        refine ⟨⟨i + 1, by omega, by go_num, ⟨?_⟩, HB10, HLN2⟩, by simp [intOf]; omega⟩
        have e : H ++ (numL r0 ++ (numL r1 ++ ([0] ++ NB))) = L9 ++ NB := by rw [← HQL9.out, ← HQL8.out, ← HQL7.out]; simp
        rw [HTT.out, HREC.out]
        simp only [Bool.false_eq_true, if_false]
        rw [e]
        simpa using HX10.out
      · go_wp2_with (first | ((with_reducible refine gate_builtin (b := .append) (xs := #[.tmp 42, .tmp 45]) rfl ?_); at_builtin; go_must (refine Kd.R_append_rows (Kd.int .u8) (w0 := w1) w1.heap.size rfl (.tmp 42) (.tmp 45) 25 5 (.int .u8 0) 1 rfl Try.underlying25 info5 rfl (by decide) (by omega) _ L7 (numL r1) _ _ _ (fun _ => True) (fun _ => False) rfl rfl (HY7.out) (HN7.out) (fun _ _ h => h) (fun _ h => h.elim) (fun _ _ => trivial) (HC7.out) (by exact HC7.out.size) (by (simp [numL_len]; omega)) ?_); intro v8 w8 ho hb hg hat; clear hat; obtain ⟨A8, c8, rfl, -⟩ := Kd.R_reads ho; have HX8 := Aside0.mk ho; have HB8 := Aside0.mk hb; have HKX8 := Aside0.mk (blk_grown HKY7.out hg (Kd.R_ne HY7.out HKY7.out (by decide))); have hlL8 : (L7 ++ numL r1).length ≤ 6000000020 := (by rw [List.length_append, numL_len]; omega); generalize hqL8 : L7 ++ numL r1 = L8 at *; have HQL8 := Aside0.mk hqL8; clear hqL8; have hz2 : w8.cell? ⟨X, 2, none⟩ = some (.bool true) := (blk_cell HKX8.out 2).trans rfl; have hz3 : w8.cell? ⟨X, 3, none⟩ = some (.slice A3 d.length c3) := (blk_cell HKX8.out 3).trans rfl; clear ho hb hg) | ((with_reducible refine gate_builtin (b := .append) (xs := #[.tmp 49, .tmp 50]) rfl ?_); at_builtin; go_must (refine Kd.R_append (Kd.int .u8) (w0 := w1) w1.heap.size rfl (.tmp 49) (.tmp 50) 25 5 (.int .u8 0) 1 rfl Try.underlying25 info5 rfl (by decide) (by omega) _ L8 1 [.int .u8 1] (fun _ => True) (fun _ => False) rfl rfl rfl (fun _ h => h.elim) (fun _ _ => trivial) (HX8.out) (HB8.out) (HB8.out.size) ((by simp [numL_len]; omega)) ?_); intro v9 w9 ho hb hg hat; clear hat; obtain ⟨A9, c9, rfl, -⟩ := Kd.R_reads ho; have HX9 := Aside0.mk ho; have HB9 := Aside0.mk hb;  clear ho hb hg))
        refine ⟨⟨i + 1, by omega, by go_num, ⟨?_⟩, HB9, HLN2⟩, by simp [intOf]; omega⟩
        have e : H ++ (numL r0 ++ (numL r1 ++ [1])) = L8 ++ [1] := by rw [← HQL8.out, ← HQL7.out]; simp
        rw [HTT.out, HREC.out]
        simp only [if_true, List.append_nil]
        rw [e]
        simpa using HX9.out
    · obtain rfl : i = l2.length := by omega
      have hH : (headL F T l2.length ++ ((l2.take l2.length).map toP).flatMap recL).length ≤ 6000000000 := by rw [List.length_append, HHL.out]; have := HLN.out; omega
      have HPU := Aside0.mk (show putL F T (l2.map toP) = (headL F T l2.length ++ ((l2.take l2.length).map toP).flatMap recL) ++ [69] by rw [List.take_of_length_le (Nat.le_refl _)]; unfold putL; rw [List.length_map])
      generalize headL F T l2.length ++ ((l2.take l2.length).map toP).flatMap recL = H at *
      have HX6 := HX
      go_wp2_with (((with_reducible refine gate_builtin (b := .append) (xs := #[.tmp 60, .tmp 61]) rfl ?_); at_builtin; go_must (refine Kd.R_append (Kd.int .u8) (w0 := w1) w1.heap.size rfl (.tmp 60) (.tmp 61) 25 5 (.int .u8 0) 1 rfl Try.underlying25 info5 rfl (by decide) (by omega) _ H 69 [.int .u8 69] (fun _ => True) (fun _ => False) rfl rfl rfl (fun _ h => h.elim) (fun _ _ => trivial) (HX6.out) (HB6.out) (HB6.out.size) ((by omega)) ?_); intro v7 w7 ho hb hg hat; clear hat; obtain ⟨A7, c7, rfl, -⟩ := Kd.R_reads ho; have HX7 := Aside0.mk ho; have HB7 := Aside0.mk hb;  clear ho hb hg))
      go_ret
      refine ⟨.slice A7 (H ++ [69]).length c7, by simp, ?_, HBw.out.trans (HB7.out.mono (Nat.le_of_lt hw1))⟩
      rw [HPU.out]
      exact Kd.R_lower HX7.out (Nat.le_of_lt hw1)

end Go.Proofs.Ytdehifinipmmcaa.Hp
