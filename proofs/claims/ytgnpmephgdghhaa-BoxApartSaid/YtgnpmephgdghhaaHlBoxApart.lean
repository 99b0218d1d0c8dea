/- Contracts of functions of the given program, and what they lean on: written by this session's own program, out of hand texts laid into the kit's printer. -/
import Derived.Deep.QuietTactic
import Derived.BigQuiet
import Derived.Deep.DeepCutAuto
import Derived.Deep.CutBlock
import Derived.Deep.RegionWith
import Derived.Test.YtgnpmephgdghhaaHp0
import Derived.Test.YtgnpmephgdghhaaHg1
import Derived.Test.YtgnpmephgdghhaaHg2
import Derived.Test.YtgnpmephgdghhaaHg3
namespace Go.Proofs.Ytgnpmephgdghhaa.Hp
open Go.RowKit Go.Proofs.YtgnpmephgdghhaaW.PrintWords Go.Proofs.YtgnpmephgdghhaaW.PrintLast Go.Proofs.YtgnpmephgdghhaaW.PrintMore
attribute [local go_sem] max2_int min2_int max_two min_two max_three min_three max_four min_four   -- for this text's walks alone
set_option linter.unusedVariables false
set_option linter.unusedSimpArgs false

/-! ### laminalaw04_BoxApart: function 6 -/
set_option maxRecDepth 100000 in
set_option maxHeartbeats 8000000 in
theorem laminalaw04_BoxApart.law (cs0 : Array Value) (x0 : S24) (cs1 : Array Value) (x1 : S24) (w : World) (hk0 : k24.K w x0 cs0.toList)
    (_hg0 : (Lit.int .i64 x0.f0).wf = true ∧ (Lit.int .i64 x0.f1).wf = true ∧ (Lit.int .i64 x0.f2).wf = true ∧ (x0.f3.length * 1 ≤ 140737488351232 ∧ ∀ m ∈ x0.f3, (Lit.int .u8 m).wf = true)) (hk1 : k24.K w x1 cs1.toList)
    (_hg1 : (Lit.int .i64 x1.f0).wf = true ∧ (Lit.int .i64 x1.f1).wf = true ∧ (Lit.int .i64 x1.f2).wf = true ∧ (x1.f3.length * 1 ≤ 140737488351232 ∧ ∀ m ∈ x1.f3, (Lit.int .u8 m).wf = true)) :
    Calls Try.prog 6 #[.agg cs0, .agg cs1] w fun e w' => e = .returned (.bool true) ∧ Below w.heap.size w w' := by
  obtain ⟨A0, c0, hcs0, l0, g0⟩ := k24_open hk0
  obtain rfl : cs0 = #[.int .i64 x0.f0, .int .i64 x0.f1, .int .i64 x0.f2, .slice A0 x0.f3.length c0] := by
    apply Array.toList_inj.1
    rw [hcs0]
  obtain ⟨A1, c1, hcs1, l1, g1⟩ := k24_open hk1
  obtain rfl : cs1 = #[.int .i64 x1.f0, .int .i64 x1.f1, .int .i64 x1.f2, .slice A1 x1.f3.length c1] := by
    apply Array.toList_inj.1
    rw [hcs1]
  obtain ⟨k, g, n, d⟩ := x0
  obtain ⟨k2, g2, n2, d2⟩ := x1
  simp only at l0 g0 _hg0 l1 g1 _hg1 ⊢
  have HD := Aside0.mk (wfs_u8 _hg0.2.2.2.2)
  have HC := Aside0.mk g0
  have HM := Aside0.mk (show d.length ≤ c0 from l0)
  have HD2 := Aside0.mk (wfs_u8 _hg1.2.2.2.2)
  have HC2 := Aside0.mk g1
  have HM2 := Aside0.mk (show d2.length ≤ c1 from l1)
  have hmx := g0.2.1
  have hmx2 := g1.2.1
  clear hcs0 hcs1 hk0 hk1 _hg0 _hg1 g0 g1 l0 l1
  have H0 := Cx.start w
  have hz := zero_sector
  have hal := @alloc_cell
  obtain ⟨m, hm⟩ : ∃ m, m = d.length := ⟨_, rfl⟩
  rw [← hm] at HC HM hmx ⊢
  obtain ⟨m2, hm2⟩ : ∃ m2, m2 = d2.length := ⟨_, rfl⟩
  rw [← hm2] at HC2 HM2 hmx2 ⊢
  clear hm hm2
  obtain ⟨⟨S, er⟩, hSO⟩ : ∃ q, q = sealO k g n d := ⟨_, rfl⟩
  have HSO := Aside0.mk hSO
  have hSL := sealO_len k g n d
  rw [← hSO] at hSL
  have HSL := Aside0.mk (show S.length = 128 from hSL)
  clear hSO hSL
  obtain ⟨⟨S2, er2⟩, hSO⟩ : ∃ q, q = sealO k2 g2 n2 d2 := ⟨_, rfl⟩
  have HSO2 := Aside0.mk hSO
  have hSL := sealO_len k2 g2 n2 d2
  rw [← hSO] at hSL
  have HSL2 := Aside0.mk (show S2.length = 128 from hSL)
  clear hSO hSL
  have hbig : 5000 < m ∨ (m ≤ 5000 ∧ 5000 < m2) ∨ (m ≤ 5000 ∧ m2 ≤ 5000) := by omega
  go_enter Try.func6, Try.ntmps6
  go_wp2_with fail
  (apply Cx.atCall; (focus ((repeat (with_reducible (first | exact (H0).toS | exact At.here | apply At.there | apply CxS.drewN | apply CxS.drew | apply CxS.alloc | apply CxS.set | apply CxS.setRow))))); intro HT)
  refine (laminalaw04_alive.calls _).mono ?_
  rintro e w1 ⟨rfl, hj⟩
  have H1 := (HT).join hj; simp only [List.cons_append, List.nil_append] at H1
  clear HT hj H0
  have F := (H1).facts; simp only [factsOf, Asr.facts, blkFacts, cellsAre, List.toList_toArray, forall_const, Nat.zero_add, Nat.reduceAdd, and_true, true_and] at F
  rcases hbig with hbig | ⟨hb1, hb2⟩ | ⟨hb1, hb2⟩
  · have e1 : decide ((5000 : Int) < (m : Int)) = true := decide_eq_true (by omega)
    go_wp2
    go_ret
    exact ⟨rfl, H1.bel⟩
  · have e1 : decide ((5000 : Int) < (m : Int)) = false := decide_eq_false (by omega)
    have e2 : decide ((5000 : Int) < (m2 : Int)) = true := decide_eq_true (by omega)
    go_wp2
    go_ret
    exact ⟨rfl, H1.bel⟩
  have e1 : decide ((5000 : Int) < (m : Int)) = false := decide_eq_false (by omega)
  have e2 : decide ((5000 : Int) < (m2 : Int)) = false := decide_eq_false (by omega)
  go_wp2_with fail
  have hgt := guard_sector
  (with_reducible refine (seal_n k g n A0 m c0 d _ (Kd.C_below HC.out H1.bel) HD.out HM.out S er HSO.out).mono ?_)
  rintro e w2 ⟨rfl, hj⟩
  have H2 := (H1).join hj; simp only [List.cons_append, List.nil_append] at H2
  clear H1 hj F
  have F := (H2).facts; simp only [factsOf, Asr.facts, blkFacts, cellsAre, List.toList_toArray, forall_const, Nat.zero_add, Nat.reduceAdd, and_true, true_and] at F
  go_wp2_with (first
    | (((with_reducible refine gate_store (t := 28) (x := .tmp 5) (y := .tmp 32) rfl ?_); (apply Cx.atList); (focus ((repeat (with_reducible (first | exact (H2).toS | exact At.here | apply At.there | apply CxS.drewN | apply CxS.drew | apply CxS.alloc | apply CxS.set | apply CxS.setRow))))); intro HT_; refine wpList_store_row rfl 28 (.tmp 5) (.tmp 32) rfl (w2.heap.size) (u8A S) rfl rfl _ _ (HT_.blk (by repeat (with_reducible (first | exact At.here | apply At.there)))) (by rw [u8A_size, HSL.out]; exact info_sector) (by rw [z128_sz, u8A_size, HSL.out]) (u8A_one _) ?_; clear HT_); clear F; (apply Cx.genList); (focus ((repeat (with_reducible (first | exact (H2).toS | exact At.here | apply At.there | apply CxS.drewN | apply CxS.drew | apply CxS.alloc | apply CxS.set | apply CxS.setRow))))); clear H2; intro w3 H3; have F := (H3).facts; simp only [factsOf, Asr.facts, blkFacts, cellsAre, List.toList_toArray, forall_const, Nat.zero_add, Nat.reduceAdd, and_true, true_and] at F))
  (with_reducible refine (seal_n k2 g2 n2 A1 m2 c1 d2 _ (Kd.C_below HC2.out H3.bel) HD2.out HM2.out S2 er2 HSO2.out).mono ?_)
  rintro e w4 ⟨rfl, hj⟩
  have H4 := (H3).join hj; simp only [List.cons_append, List.nil_append] at H4
  clear H3 hj F
  have F := (H4).facts; simp only [factsOf, Asr.facts, blkFacts, cellsAre, List.toList_toArray, forall_const, Nat.zero_add, Nat.reduceAdd, and_true, true_and] at F
  rcases er with _ | er
  case some =>
    rw [errW_some]
    go_wp2_with (first
      | (((with_reducible refine gate_store (t := 28) (x := .tmp 7) (y := .tmp 45) rfl ?_); (apply Cx.atList); (focus ((repeat (with_reducible (first | exact (H4).toS | exact At.here | apply At.there | apply CxS.drewN | apply CxS.drew | apply CxS.alloc | apply CxS.set | apply CxS.setRow))))); intro HT_; refine wpList_store_row rfl 28 (.tmp 7) (.tmp 45) rfl (w4.heap.size) (u8A S2) rfl rfl _ _ (HT_.blk (by repeat (with_reducible (first | exact At.here | apply At.there)))) (by rw [u8A_size, HSL2.out]; exact info_sector) (by rw [z128_sz, u8A_size, HSL2.out]) (u8A_one _) ?_; clear HT_); clear F; (apply Cx.genList); (focus ((repeat (with_reducible (first | exact (H4).toS | exact At.here | apply At.there | apply CxS.drewN | apply CxS.drew | apply CxS.alloc | apply CxS.set | apply CxS.setRow))))); clear H4; intro w5 H5; have F := (H5).facts; simp only [factsOf, Asr.facts, blkFacts, cellsAre, List.toList_toArray, forall_const, Nat.zero_add, Nat.reduceAdd, and_true, true_and] at F))
    go_ret
    exact ⟨rfl, H5.bel⟩
  rcases er2 with _ | er2
  case some =>
    rw [errW_none, errW_some]
    go_wp2_with (first
      | (((with_reducible refine gate_store (t := 28) (x := .tmp 7) (y := .tmp 45) rfl ?_); (apply Cx.atList); (focus ((repeat (with_reducible (first | exact (H4).toS | exact At.here | apply At.there | apply CxS.drewN | apply CxS.drew | apply CxS.alloc | apply CxS.set | apply CxS.setRow))))); intro HT_; refine wpList_store_row rfl 28 (.tmp 7) (.tmp 45) rfl (w4.heap.size) (u8A S2) rfl rfl _ _ (HT_.blk (by repeat (with_reducible (first | exact At.here | apply At.there)))) (by rw [u8A_size, HSL2.out]; exact info_sector) (by rw [z128_sz, u8A_size, HSL2.out]) (u8A_one _) ?_; clear HT_); clear F; (apply Cx.genList); (focus ((repeat (with_reducible (first | exact (H4).toS | exact At.here | apply At.there | apply CxS.drewN | apply CxS.drew | apply CxS.alloc | apply CxS.set | apply CxS.setRow))))); clear H4; intro w5 H5; have F := (H5).facts; simp only [factsOf, Asr.facts, blkFacts, cellsAre, List.toList_toArray, forall_const, Nat.zero_add, Nat.reduceAdd, and_true, true_and] at F))
    go_ret
    exact ⟨rfl, H5.bel⟩
  rw [errW_none]
  go_upto_region 9 with (first
      | (((with_reducible refine gate_store (t := 28) (x := .tmp 7) (y := .tmp 45) rfl ?_); (apply Cx.atList); (focus ((repeat (with_reducible (first | exact (H4).toS | exact At.here | apply At.there | apply CxS.drewN | apply CxS.drew | apply CxS.alloc | apply CxS.set | apply CxS.setRow))))); intro HT_; refine wpList_store_row rfl 28 (.tmp 7) (.tmp 45) rfl (w4.heap.size) (u8A S2) rfl rfl _ _ (HT_.blk (by repeat (with_reducible (first | exact At.here | apply At.there)))) (by rw [u8A_size, HSL2.out]; exact info_sector) (by rw [z128_sz, u8A_size, HSL2.out]) (u8A_one _) ?_; clear HT_); clear F; (apply Cx.genList); (focus ((repeat (with_reducible (first | exact (H4).toS | exact At.here | apply At.there | apply CxS.drewN | apply CxS.drew | apply CxS.alloc | apply CxS.set | apply CxS.setRow))))); clear H4; intro w5 H5; have F := (H5).facts; simp only [factsOf, Asr.facts, blkFacts, cellsAre, List.toList_toArray, forall_const, Nat.zero_add, Nat.reduceAdd, and_true, true_and] at F))
  obtain ⟨hin, hl, hS⟩ := seal_none HSO.out.symm
  obtain ⟨hin2, hl2, hS2⟩ := seal_none HSO2.out.symm
  have HNE := Aside0.mk (show S = S2 → k = k2 ∧ g = g2 ∧ n = n2 ∧ d = d2 from fun e => by
    have e1 := open_sec k g n d hin hl
    have e2 := open_sec k2 g2 n2 d2 hin2 hl2
    rw [← hS, e, hS2, e2] at e1
    injection e1 with e1
    injection e1 with a1 e1
    injection e1 with a2 e1
    injection e1 with a3 a4
    exact ⟨a1.symm, a2.symm, a3.symm, a4.symm⟩)
  clear hin hl hS hin2 hl2 hS2
  by_cases hall : k = k2 ∧ g = g2 ∧ n = n2 ∧ d = d2
  · obtain ⟨rfl, rfl, rfl, rfl⟩ := hall
    obtain rfl : S = S2 := by have := HSO.out.trans HSO2.out.symm; injection this
    have heq := fun W => eql_sector S S HSL.out HSL.out W
    rw [decide_eq_true rfl] at heq
    refine wp_region_quiet_lit (by kernel_rfl) (by kernel_rfl) ?_; (repeat (first | ((with_reducible refine gate_quiet_load (t := 28) (x := .tmp 5) rfl ?_); refine wpQuiet_load_row rfl 28 (.tmp 5) rfl (w2.heap.size) rfl 28 (u8A S) (0, 0) _ (by rintro W ⟨nn, rfl⟩; have hq_ := Cx.blk (b := w2.heap.size) (o := .cells (u8A S) 28 (0, 0)) (H5) (by repeat (with_reducible (first | exact At.here | apply At.there))); exact hq_) Try.underlying28 rfl (by rw [u8A_size, HSL.out]; exact info_sector) ?_; simp only [Act.put, List.setIfInBounds_toArray, List.set_cons_succ, List.set_cons_zero]) | ((with_reducible refine gate_quiet_load (t := 28) (x := .tmp 7) rfl ?_); refine wpQuiet_load_row rfl 28 (.tmp 7) rfl (w4.heap.size) rfl 28 (u8A S) (0, 0) _ (by rintro W ⟨nn, rfl⟩; have hq_ := Cx.blk (b := w4.heap.size) (o := .cells (u8A S) 28 (0, 0)) (H5) (by repeat (with_reducible (first | exact At.here | apply At.there))); exact hq_) Try.underlying28 rfl (by rw [u8A_size, HSL2.out]; exact info_sector) ?_; simp only [Act.put, List.setIfInBounds_toArray, List.set_cons_succ, List.set_cons_zero]) | go_big_quiet_step (((go_at_call 16; refine (same_n A0 m c0 d A1 m2 c1 d true _ (Kd.C_drewN (Kd.C_below HC.out H5.bel) _) HM.out (Kd.C_drewN (Kd.C_below HC2.out H5.bel) _) HM2.out HD.out HD2.out (decide_eq_true rfl).symm).mono ?_; rintro e w' ⟨rfl, ⟨jj, rfl⟩⟩; exact ⟨rfl, _, World.drewN_drewN ..⟩))))); refine wpQuiet_nil ?_; intro _ hw'_; obtain ⟨nq, hw''_⟩ := hw'_; subst hw''_
    go_wp2
    go_ret
    exact ⟨by first | rfl | simp, pw_below_drewN H5.bel _⟩
  · have hss : S ≠ S2 := fun e => hall (HNE.out e)
    have heq := fun W => eql_sector S S2 HSL.out HSL2.out W
    rw [decide_eq_false hss] at heq
    have HALL := Aside0.mk hall
    clear hall
    by_cases hk : k = k2
    · subst hk
      by_cases hg : g = g2
      · subst hg
        by_cases hn : n = n2
        · subst hn
          have hdd : false = decide (d = d2) := (decide_eq_false (fun h => HALL.out ⟨rfl, rfl, rfl, h⟩)).symm
          have HDE := Aside0.mk hdd
          clear hdd
          refine wp_region_quiet_lit (by kernel_rfl) (by kernel_rfl) ?_; (repeat (first | ((with_reducible refine gate_quiet_load (t := 28) (x := .tmp 5) rfl ?_); refine wpQuiet_load_row rfl 28 (.tmp 5) rfl (w2.heap.size) rfl 28 (u8A S) (0, 0) _ (by rintro W ⟨nn, rfl⟩; have hq_ := Cx.blk (b := w2.heap.size) (o := .cells (u8A S) 28 (0, 0)) (H5) (by repeat (with_reducible (first | exact At.here | apply At.there))); exact hq_) Try.underlying28 rfl (by rw [u8A_size, HSL.out]; exact info_sector) ?_; simp only [Act.put, List.setIfInBounds_toArray, List.set_cons_succ, List.set_cons_zero]) | ((with_reducible refine gate_quiet_load (t := 28) (x := .tmp 7) rfl ?_); refine wpQuiet_load_row rfl 28 (.tmp 7) rfl (w4.heap.size) rfl 28 (u8A S2) (0, 0) _ (by rintro W ⟨nn, rfl⟩; have hq_ := Cx.blk (b := w4.heap.size) (o := .cells (u8A S2) 28 (0, 0)) (H5) (by repeat (with_reducible (first | exact At.here | apply At.there))); exact hq_) Try.underlying28 rfl (by rw [u8A_size, HSL2.out]; exact info_sector) ?_; simp only [Act.put, List.setIfInBounds_toArray, List.set_cons_succ, List.set_cons_zero]) | go_big_quiet_step (((go_at_call 16; refine (same_n A0 m c0 d A1 m2 c1 d2 false _ (Kd.C_drewN (Kd.C_below HC.out H5.bel) _) HM.out (Kd.C_drewN (Kd.C_below HC2.out H5.bel) _) HM2.out HD.out HD2.out HDE.out).mono ?_; rintro e w' ⟨rfl, ⟨jj, rfl⟩⟩; exact ⟨rfl, _, World.drewN_drewN ..⟩))))); refine wpQuiet_nil ?_; intro _ hw'_; obtain ⟨nq, hw''_⟩ := hw'_; subst hw''_
          go_wp2
          go_ret
          exact ⟨by first | rfl | simp, pw_below_drewN H5.bel _⟩
        · have h1 : (n == n2) = false := beq_eq_false_iff_ne.2 hn
          refine wp_region_quiet_lit (by kernel_rfl) (by kernel_rfl) ?_; (repeat (first | ((with_reducible refine gate_quiet_load (t := 28) (x := .tmp 5) rfl ?_); refine wpQuiet_load_row rfl 28 (.tmp 5) rfl (w2.heap.size) rfl 28 (u8A S) (0, 0) _ (by rintro W ⟨nn, rfl⟩; have hq_ := Cx.blk (b := w2.heap.size) (o := .cells (u8A S) 28 (0, 0)) (H5) (by repeat (with_reducible (first | exact At.here | apply At.there))); exact hq_) Try.underlying28 rfl (by rw [u8A_size, HSL.out]; exact info_sector) ?_; simp only [Act.put, List.setIfInBounds_toArray, List.set_cons_succ, List.set_cons_zero]) | ((with_reducible refine gate_quiet_load (t := 28) (x := .tmp 7) rfl ?_); refine wpQuiet_load_row rfl 28 (.tmp 7) rfl (w4.heap.size) rfl 28 (u8A S2) (0, 0) _ (by rintro W ⟨nn, rfl⟩; have hq_ := Cx.blk (b := w4.heap.size) (o := .cells (u8A S2) 28 (0, 0)) (H5) (by repeat (with_reducible (first | exact At.here | apply At.there))); exact hq_) Try.underlying28 rfl (by rw [u8A_size, HSL2.out]; exact info_sector) ?_; simp only [Act.put, List.setIfInBounds_toArray, List.set_cons_succ, List.set_cons_zero]) | go_big_quiet_step (((go_at_call 16; refine (same_n A0 m c0 d A1 m2 c1 d2 false _ (Kd.C_drewN (Kd.C_below HC.out H5.bel) _) HM.out (Kd.C_drewN (Kd.C_below HC2.out H5.bel) _) HM2.out HD.out HD2.out (by fail)).mono ?_; rintro e w' ⟨rfl, ⟨jj, rfl⟩⟩; exact ⟨rfl, _, World.drewN_drewN ..⟩))))); refine wpQuiet_nil ?_; intro _ hw'_; obtain ⟨nq, hw''_⟩ := hw'_; subst hw''_
          go_wp2
          go_ret
          exact ⟨by first | rfl | simp, pw_below_drewN H5.bel _⟩
      · have h1 : (g == g2) = false := beq_eq_false_iff_ne.2 hg
        refine wp_region_quiet_lit (by kernel_rfl) (by kernel_rfl) ?_; (repeat (first | ((with_reducible refine gate_quiet_load (t := 28) (x := .tmp 5) rfl ?_); refine wpQuiet_load_row rfl 28 (.tmp 5) rfl (w2.heap.size) rfl 28 (u8A S) (0, 0) _ (by rintro W ⟨nn, rfl⟩; have hq_ := Cx.blk (b := w2.heap.size) (o := .cells (u8A S) 28 (0, 0)) (H5) (by repeat (with_reducible (first | exact At.here | apply At.there))); exact hq_) Try.underlying28 rfl (by rw [u8A_size, HSL.out]; exact info_sector) ?_; simp only [Act.put, List.setIfInBounds_toArray, List.set_cons_succ, List.set_cons_zero]) | ((with_reducible refine gate_quiet_load (t := 28) (x := .tmp 7) rfl ?_); refine wpQuiet_load_row rfl 28 (.tmp 7) rfl (w4.heap.size) rfl 28 (u8A S2) (0, 0) _ (by rintro W ⟨nn, rfl⟩; have hq_ := Cx.blk (b := w4.heap.size) (o := .cells (u8A S2) 28 (0, 0)) (H5) (by repeat (with_reducible (first | exact At.here | apply At.there))); exact hq_) Try.underlying28 rfl (by rw [u8A_size, HSL2.out]; exact info_sector) ?_; simp only [Act.put, List.setIfInBounds_toArray, List.set_cons_succ, List.set_cons_zero]) | go_big_quiet_step (((go_at_call 16; refine (same_n A0 m c0 d A1 m2 c1 d2 false _ (Kd.C_drewN (Kd.C_below HC.out H5.bel) _) HM.out (Kd.C_drewN (Kd.C_below HC2.out H5.bel) _) HM2.out HD.out HD2.out (by fail)).mono ?_; rintro e w' ⟨rfl, ⟨jj, rfl⟩⟩; exact ⟨rfl, _, World.drewN_drewN ..⟩))))); refine wpQuiet_nil ?_; intro _ hw'_; obtain ⟨nq, hw''_⟩ := hw'_; subst hw''_
        go_wp2
        go_ret
        exact ⟨by first | rfl | simp, pw_below_drewN H5.bel _⟩
    · have h1 : (k == k2) = false := beq_eq_false_iff_ne.2 hk
      refine wp_region_quiet_lit (by kernel_rfl) (by kernel_rfl) ?_; (repeat (first | ((with_reducible refine gate_quiet_load (t := 28) (x := .tmp 5) rfl ?_); refine wpQuiet_load_row rfl 28 (.tmp 5) rfl (w2.heap.size) rfl 28 (u8A S) (0, 0) _ (by rintro W ⟨nn, rfl⟩; have hq_ := Cx.blk (b := w2.heap.size) (o := .cells (u8A S) 28 (0, 0)) (H5) (by repeat (with_reducible (first | exact At.here | apply At.there))); exact hq_) Try.underlying28 rfl (by rw [u8A_size, HSL.out]; exact info_sector) ?_; simp only [Act.put, List.setIfInBounds_toArray, List.set_cons_succ, List.set_cons_zero]) | ((with_reducible refine gate_quiet_load (t := 28) (x := .tmp 7) rfl ?_); refine wpQuiet_load_row rfl 28 (.tmp 7) rfl (w4.heap.size) rfl 28 (u8A S2) (0, 0) _ (by rintro W ⟨nn, rfl⟩; have hq_ := Cx.blk (b := w4.heap.size) (o := .cells (u8A S2) 28 (0, 0)) (H5) (by repeat (with_reducible (first | exact At.here | apply At.there))); exact hq_) Try.underlying28 rfl (by rw [u8A_size, HSL2.out]; exact info_sector) ?_; simp only [Act.put, List.setIfInBounds_toArray, List.set_cons_succ, List.set_cons_zero]) | go_big_quiet_step (((go_at_call 16; refine (same_n A0 m c0 d A1 m2 c1 d2 false _ (Kd.C_drewN (Kd.C_below HC.out H5.bel) _) HM.out (Kd.C_drewN (Kd.C_below HC2.out H5.bel) _) HM2.out HD.out HD2.out (by fail)).mono ?_; rintro e w' ⟨rfl, ⟨jj, rfl⟩⟩; exact ⟨rfl, _, World.drewN_drewN ..⟩))))); refine wpQuiet_nil ?_; intro _ hw'_; obtain ⟨nq, hw''_⟩ := hw'_; subst hw''_
      go_wp2
      go_ret
      exact ⟨by first | rfl | simp, pw_below_drewN H5.bel _⟩

end Go.Proofs.Ytgnpmephgdghhaa.Hp
